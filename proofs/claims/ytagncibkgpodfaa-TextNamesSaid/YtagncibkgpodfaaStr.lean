/-
  Texts and their bytes: a text is the text of its bytes; []byte of a text.
-/
import Derived.Test.YtagncibkgpodfaaRunes
namespace Go.Proofs.Ytagncibkgpodfaa
open Go.RowKit Go.Proofs.YtagncibkgpodfaaW.PrintWords Go.Proofs.YtagncibkgpodfaaW.PrintLast Go.Proofs.YtagncibkgpodfaaW.PrintMore
set_option linter.unusedVariables false

theorem byt_bytesOf (s : ByteArray) : T.Byt (bytesOf s) := by
  intro x hx
  obtain ⟨b, _, rfl⟩ := List.mem_map.1 hx
  have := b.toNat_lt
  omega
theorem str_bytesOf (s : ByteArray) : strOfNums (bytesOf s) = s := by
  have h : ((bytesOf s).map fun n => UInt8.ofNat n.toNat) = s.data.toList := by
    unfold bytesOf
    rw [List.map_map]
    conv => rhs; rw [← List.map_id s.data.toList]
    exact List.map_congr_left fun b _ => by simp
  unfold strOfNums
  rw [h]
theorem bytesOf_str {l : List Int} (h : T.Byt l) : bytesOf (strOfNums l) = l := by
  unfold bytesOf
  rw [strOfNums_data, List.map_map]
  conv => rhs; rw [← List.map_id l]
  exact List.map_congr_left fun x hx => by
    have := h x hx
    simp
    omega
theorem str_append (a b : List Int) : strOfNums a ++ strOfNums b = strOfNums (a ++ b) := by
  have e : (strOfNums a ++ strOfNums b).data = (strOfNums (a ++ b)).data := by
    rw [ByteArray.data_append]
    simp [strOfNums]
  cases h1 : strOfNums a ++ strOfNums b
  cases h2 : strOfNums (a ++ b)
  rw [h1, h2] at e
  exact congrArg ByteArray.mk e

/-- []byte(s) -/
theorem bytes_conv {l : List Int} (h : T.Byt l) (hn : l.length ≤ 100000000) (W : World) :
    ∃ (cap : Nat) (W' : World), (convert 9 22 (.string (strOfNums l))).run Try.prog W = .ok (.slice (some ⟨W.heap.size, 0, none⟩) l.length cap) W' ∧ Below W.heap.size W W' ∧
      Kd.C (Kd.int .u8) W' (some ⟨W.heap.size, 0, none⟩) l.length l ∧ l.length ≤ cap := by
  have hs := strOfNums_size l
  refine ⟨grownCap W (strOfNums l).size 0 5, Lib.bytesWorld W 5 (strOfNums l), ?_, bytes_below (Below.refl _ _) (Nat.le_refl _) 5 _, ?_, ?_⟩
  · rw [← hs]
    exact print_bytes 9 22 5 Try.underlying9 Try.underlying22 Try.underlying5 (strOfNums l) W
  · have h1 := bytes_reads W 5 (strOfNums l) (by omega)
    rw [bytesOf_str h, hs] at h1
    exact Kd.C_of_reads (enc := Value.int .u8) (d := (0 : Int)) (h1 := fun _ => rfl) h1
  · have := grownCap_ge W (strOfNums l).size 0 5
    omega
end Go.Proofs.Ytagncibkgpodfaa
