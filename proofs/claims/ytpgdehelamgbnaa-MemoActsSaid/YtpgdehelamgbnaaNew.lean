/-
  (*Table).Clear and New; (*Entry).is.
-/
import Derived.Test.YtpgdehelamgbnaaLoad
namespace Go.Proofs.Ytpgdehelamgbnaa
open Go.RowKit Go.Proofs.YtpgdehelamgbnaaW Go.Proofs.YtpgdehelamgbnaaW.PrintWords PMemoActs
set_option linter.unusedVariables false
set_option linter.unusedSimpArgs false
/-- The cells, the first k of them cleared. -/
def cl (L : List (Option (Nat × S31))) (k : Nat) : List (Option (Nat × S31)) := List.replicate k none ++ L.drop k
theorem cl_length (L : List (Option (Nat × S31))) (k : Nat) (h : k ≤ L.length) : (cl L k).length = L.length := by simp [cl]; omega
theorem cl_set (L : List (Option (Nat × S31))) (k : Nat) (h : k < L.length) : (cl L k).set k none = cl L (k + 1) := by
  unfold cl
  rw [List.set_append_right _ _ (by simp), List.length_replicate, Nat.sub_self, List.drop_eq_getElem_cons h, List.set_cons_zero, List.replicate_succ', List.append_assoc]
  rfl
theorem cl_all (L : List (Option (Nat × S31))) : cl L L.length = List.replicate L.length none := by simp [cl]
section
variable {W : World} {F : Nat → Prop} {x : Option Addr} {q : Nat} {L : List (Option (Nat × S31))}
set_option maxHeartbeats 1000000 in
theorem clear_c (h : Tb W F x q L) : Calls Try.prog 24 #[.pointer x] W fun e w' => e = .returned (.tuple #[]) ∧ Tb w' F x q (List.replicate L.length none) ∧ Fr (fun k => k = q) W w' := by
  have H := Aside0.mk h
  have hl : (L.length : Int) ≤ 65536 := by have := h.1; omega
  clear h
  go_enter Try.func24, Try.ntmps24
  go_wp2_with fail
  refine (size_c H.out).mono ?_
  rintro e w1 ⟨rfl, rfl⟩
  go_wp2_with fail
  go_loopw [5] (fun v wr => ∃ k : Nat, v = .int .i64 k ∧ k ≤ L.length ∧ Aside0 (Tb wr F x q (cl L k)) ∧ Aside0 (Fr (fun k => k = q) W wr)) (fun v _ => L.length - (intOf v).toNat)
  case atStart => exact ⟨0, rfl, Nat.zero_le _, H, ⟨Fr.refl _ _⟩⟩
  case round =>
    obtain ⟨k, rfl, hk, HT, HF⟩ := hrel
    by_cases hlt : k < L.length
    · have g1 : (k : Int) < (L.length : Int) := by omega
      have HLt := Aside0.mk hlt
      obtain ⟨p, c, rfl, hc, hF, h1, h2⟩ := HT.out.open_ (by rw [cl_length L k hk]; omega)
      obtain ⟨u, h3⟩ : ∃ u, wr.cell? ⟨q, k, none⟩ = some (cellv u) := ⟨_, cells_at h2 k (by rw [cl_length L k hk]; exact hlt)⟩
      have h3f := blk_frozen h2 k
      rw [cl_length L k hk] at h1 hc
      have HC := Aside0.mk h3
      have HCF := Aside0.mk h3f
      clear h2 h3 h3f hc hlt
      go_wp2_with fail
      refine (pstore_c HC.out HCF.out).mono ?_
      rintro e w3 ⟨rfl, rfl⟩
      have HT3 : Aside0 (Tb (wr.setCell ⟨q, k, none⟩ (.pointer none)) F (some ⟨p, 0, none⟩) q (cl L (k + 1))) := ⟨by
        have := HT.out.set k (by rw [cl_length L k hk]; exact HLt.out) none (fun b y hy => by cases hy)
        rw [cl_set L k HLt.out] at this
        exact this⟩
      have HF3 := Aside0.mk (HF.out.setCell (p := ⟨q, k, none⟩) (Or.inl rfl) (.pointer none))
      go_wp2_with fail
      go_roundw
      case rel => exact ⟨k + 1, by go_num, HLt.out, HT3, HF3⟩
      case measure => have := HLt.out; simp [intOf]; omega
    · have hkl : k = L.length := by omega
      subst hkl
      go_wp2_with fail
      refine bodyPost_end (results_none rfl _ _ _) rfl ?_
      have ht := HT.out
      rw [cl_all] at ht
      exact ⟨rfl, ht, HF.out⟩
end
theorem info76 : (Try.prog.info? 76).map (fun i => (i.zero, i.size, i.bytes)) = some (some (.agg #[.pointer none]), 1, 8) := by kernel_rfl
theorem madeCells_none (n : Nat) : madeCells #[.pointer none] n = (List.map cellv (List.replicate n none)).toArray := by
  apply Array.ext
  · simp [size_madeCells]
  · intro i h1 h2
    simp [madeCells, cellv, ptrv, Nat.mod_one]
set_option maxHeartbeats 1000000 in
theorem new_out {W : World} (n : Int) (h : n < 0 ∨ 65536 < n) : Calls Try.prog 8 #[.int .i64 n] W fun e w' => e = .returned (.pointer none) ∧ W = w' := by
  rcases Int.lt_or_le n 0 with hn | hn
  · clear h
    go_enter Try.func8, Try.ntmps8
    go_wp2_with fail
    go_ret
    exact ⟨rfl, rfl⟩
  · have h2 : 65536 < n := by omega
    clear h
    go_enter Try.func8, Try.ntmps8
    go_wp2_with fail
    go_ret
    exact ⟨rfl, rfl⟩
set_option maxHeartbeats 1000000 in
theorem new_c {W : World} (n : Nat) (h : n ≤ 65536) : Calls Try.prog 8 #[.int .i64 (n : Int)] W fun e w' => ∃ p q, e = .returned (.pointer (some ⟨p, 0, none⟩)) ∧ Tb w' (fun k => W.heap.size ≤ k) (some ⟨p, 0, none⟩) q (List.replicate n none) ∧ Below W.heap.size W w' := by
  have hn : (n : Int) ≤ 65536 := by omega
  have HN := Aside0.mk h
  obtain ⟨i0, hi0, hz⟩ := Option.map_eq_some_iff.1 info76
  simp only [Prod.mk.injEq] at hz
  obtain ⟨hz0, hz1, hz2⟩ := hz
  have hmk : ∀ w : World, (Instr.makeSlice 58 (.int .i64 (n : Int)) (.int .i64 (n : Int))).run Try.prog w = .ok (.slice (some ⟨w.heap.size, 0, none⟩) n n) (w.alloc (.cells (madeCells #[.pointer none] n) 76)) := fun w => by
    have := run_make (P := Try.prog) w 58 76 i0 (.agg #[.pointer none]) Try.underlying58 hi0 hz0 .i64 .i64 (n : Int) (n : Int) (by omega) (by omega) (by rw [hz2]; omega) (by omega)
    simpa [hz1, Value.cells] using this
  clear h hi0 hz0 hz1 hz2
  go_enter Try.func8, Try.ntmps8
  go_wp2_with fail
  go_ret
  have hB := ((Below.refl W.heap.size W).alloc (Nat.le_refl _) (.cells (madeCells #[.pointer none] n) 76)).alloc (by simp) (.cells #[.slice (some ⟨W.heap.size, 0, none⟩) n n, .bool true] 60)
  refine ⟨W.heap.size + 1, W.heap.size, by simp, ⟨by simpa using HN.out, fun b y hy => ?_, .inr ⟨W.heap.size + 1, some ⟨W.heap.size, 0, none⟩, n, true, rfl, by simp, ?_, fun _ => ⟨rfl, by simp, Nat.le_refl _, ?_⟩⟩⟩, hB⟩
  · have := List.eq_of_mem_replicate hy
    cases this
  · have := heap_alloc_new (W.alloc (.cells (madeCells #[.pointer none] n) 76)) (.cells #[.slice (some ⟨W.heap.size, 0, none⟩) n n, .bool true] 60)
    rw [World.size_alloc] at this
    simpa using this
  · have h1 := heap_alloc_new W (.cells (madeCells #[.pointer none] n) 76)
    have h2 := (Below.heap_alloc (W.alloc (.cells (madeCells #[.pointer none] n) 76)) (.cells #[.slice (some ⟨W.heap.size, 0, none⟩) n n, .bool true] 60) W.heap.size (by simp)).trans h1
    rw [h2, madeCells_none]
end Go.Proofs.Ytpgdehelamgbnaa
