/-
  plain: the entries in the document's form.
-/
import Derived.Test.YtahihhklijcghaaSrt
namespace Go.Proofs.Ytahihhklijcghaa
open Go.RowKit Go.Proofs.YtahihhklijcghaaW.PrintWords PCascadeSorts
set_option linter.unusedVariables false
set_option linter.unusedSimpArgs false
theorem Rw.grown' {t : TypeId} {W W' : World} {base : Nat} {v : Value} {L : List S26} (h : Rw t W base v L) (hb : Below W.heap.size W W') : Rw t W' base v L := h.below hb
set_option maxHeartbeats 1000000 in
set_option maxRecDepth 100000 in
theorem plain_c {W : World} {A : Option Addr} {c : Nat} {l : List S26} (h : Kd.C k26 W A l.length l) (hn : l.length ≤ 100) :
    Calls Try.prog 16 #[.slice A l.length c] W fun e w' => ∃ v, e = .returned v ∧ Rw 33 w' W.heap.size v l ∧ Below W.heap.size W w' := by
  have HC := Aside0.mk h
  have gn : (l.length : Int) ≤ 100 := by omega
  clear h
  go_enter Try.func16, Try.ntmps16
  go_wp2_with fail
  go_loopw [3, 8] (fun v3 v8 wr => ∃ k : Nat, v8 = .int .i64 k ∧ k ≤ l.length ∧ Aside0 (Rw 33 wr W.heap.size v3 (l.take k)) ∧ Aside0 (Below W.heap.size W wr)) (fun _ v8 _ => l.length - (intOf v8).toNat)
  case atStart => exact ⟨0, rfl, Nat.zero_le _, ⟨Rw.nil _ _ _⟩, ⟨Below.refl _ _⟩⟩
  case round =>
    obtain ⟨k, rfl, hk, HR, HB⟩ := hrel
    by_cases hlt : k < l.length
    · have gk : (k : Int) < (l.length : Int) := by omega
      obtain ⟨ad, rfl, h8⟩ := ent_at HC.out k hlt
      have h8 := h8.below HB.out
      obtain ⟨c0, c1, c2, c3, c4, c5, c6, c7⟩ := h8
      have HT : Aside0 (l.take (k + 1) = l.take k ++ [l[k]]) := ⟨List.take_succ_eq_append_getElem hlt⟩
      generalize l[k] = x at *
      have HB3 : Aside0 (Below W.heap.size W (wr.alloc (.cells (pe x).toArray 26))) := ⟨HB.out.alloc HB.out.size _⟩
      have HS3 : Aside0 (W.heap.size ≤ (wr.alloc (.cells (pe x).toArray 26)).heap.size) := ⟨HB3.out.size⟩
      have HR3 := Aside0.mk (HR.out.below ((Below.refl _ _).alloc (Nat.le_refl _) (Obj.cells (pe x).toArray 26)))
      obtain ⟨inner, hown, hreps⟩ := HR3.out
      have HOW := Aside0.mk hown
      have HRE := Aside0.mk hreps
      have HLE : Aside0 ((l.take k).length ≤ 100) := ⟨by rw [List.length_take]; omega⟩
      clear hown hreps
      go_wp2_with (at_builtin; refine print_append_cells (w0 := W) (W := wr.alloc (.cells (pe x).toArray 26)) W.heap.size rfl (.tmp 12) (.tmp 14) 38 33 _ 8 80 rfl Try.underlying38 info33 rfl (by decide) (by decide) u3 (l.take k).length inner (pe x) rfl (by rw [World.size_alloc]; rfl) rfl (pe_one _) HOW.out HB3.out HS3.out (by have := HLE.out; omega) ?_; intro v1 w4 ho4 hb4 hg4 hv4; have HR4 := Aside0.mk (Rw.snoc HRE.out ho4); have HB4 := Aside0.mk hb4; clear ho4 hb4 hg4 hv4)
      rw [← HT.out] at HR4
      go_roundw
      case rel => exact ⟨k + 1, by go_num, by omega, HR4, HB4⟩
      case measure => simp [intOf]; omega
    · have hkl : k = l.length := by omega
      subst hkl
      have HR2 := Aside0.mk HR.out
      rw [List.take_length] at HR2
      go_wp2_with fail
      go_ret
      exact ⟨_, rfl, HR2.out, HB.out⟩
end Go.Proofs.Ytahihhklijcghaa
