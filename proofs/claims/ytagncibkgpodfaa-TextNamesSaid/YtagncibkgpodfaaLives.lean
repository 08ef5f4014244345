/-
  The document's examples of layer 1 are as it says: lives returns true.
-/
import Derived.Test.YtagncibkgpodfaaNamed
import Derived.Lib.SlBytesConst
import Derived.Laws.IdiomStrings
namespace Go.Proofs.Ytagncibkgpodfaa
open Go.RowKit Go.Proofs.YtagncibkgpodfaaW.PrintWords Go.Proofs.YtagncibkgpodfaaW.PrintLast Go.Proofs.YtagncibkgpodfaaW.PrintMore
open Go.Proofs.Ytagncibkgpodfaa.PTextKinds
set_option linter.unusedVariables false
set_option linter.unusedSimpArgs false

theorem same_l0 (l : List Int) (hn : l.length ≤ 100000000) (d : Nat) : ∀ (k i : Nat), i + d = l.length → d < k → gouacheref01_Same.l0 k l l (l.length : Int) (i : Int) = some true := by
  induction d with
  | zero =>
    intro k i hi hk
    obtain ⟨k, rfl⟩ : ∃ m, k = m + 1 := ⟨k - 1, by omega⟩
    rw [gouacheref01_Same.l0, if_neg (by omega)]
  | succ d ih =>
    intro k i hi hk
    obtain ⟨k, rfl⟩ : ∃ m, k = m + 1 := ⟨k - 1, by omega⟩
    have hw : wrap64 ((i : Int) + 1) = ((i + 1 : Nat) : Int) := by unfold wrap64; omega
    rw [gouacheref01_Same.l0, if_pos (by omega), if_pos (by omega), if_pos (by omega), if_pos (by omega), if_pos rfl, hw]
    exact ih k (i + 1) (by omega) (by omega)
theorem same_c (l : List Int) (hn : l.length ≤ 100000000) (A0 A1 : Option Addr) (c0 c1 : Nat) (w : World) (hr0 : Kd.C (Kd.int .i32) w A0 l.length l) (hc0 : l.length ≤ c0) (hr1 : Kd.C (Kd.int .i32) w A1 l.length l) (hc1 : l.length ≤ c1) :
    Calls Try.prog 11 #[.slice A0 l.length c0, .slice A1 l.length c1] w fun e w' => e = .returned (.bool true) ∧ Below w.heap.size w w' := by
  refine (gouacheref01_Same.calls (l.length + 1) A0 c0 l A1 c1 l true w hr0 hc0 hr1 hc1 ?_).mono fun e w' h => ⟨h.1, h.2.below⟩
  unfold gouacheref01_Same.f
  rw [if_pos rfl]
  exact same_l0 l hn l.length _ 0 (by omega) (by omega)
theorem lit_C (k : IntKind) (e : Nat) (w : World) (xs : List Int) (h : xs.length ≤ 100000000) : Kd.C (Kd.int k) (w.alloc (.cells (nums k xs).toArray e)) (some ⟨w.heap.size, 0, none⟩) xs.length xs :=
  (Kd.R_reads' (Kd.R_of_own (enc := Value.int k) (h1 := fun _ => rfl) (ok := fun _ => True) (own_lit w w.heap.size e k xs (Nat.le_refl _) (by omega)) (fun _ _ => trivial))).2.2

theorem r_one : T.runes [97, 13, 10, 98] = [97, 10, 98] := by decide +kernel
theorem r_two : T.runes [255, 97] = [65533, 97] := by decide +kernel
theorem n_one : nameV [97, 45, 49] = true := by decide +kernel
theorem x_one : hexV 70 = 15 := by decide +kernel

theorem lit_Cm (k : IntKind) (e : Nat) (w : World) (xs : List Int) (fr : Nat × Nat) (h : xs.length ≤ 100000000) : Kd.C (Kd.int k) (w.alloc (.cells (nums k xs).toArray e fr)) (some ⟨w.heap.size, 0, none⟩) xs.length xs := by
  refine ⟨rfl, by omega, fun _ => ⟨_, rfl, fun j p hj => ⟨[.int k p], rfl, rfl, fun i u hu => ?_⟩⟩⟩
  have hi : i = 0 := by
    have := (List.getElem?_eq_some_iff.1 hu).1
    simpa using this
  subst hi
  obtain rfl : Value.int k p = u := by simpa using hu
  rw [add_plain, World.cell?_alloc_mark]
  have e1 : j * (Kd.int k).sz + 0 = j := by show j * 1 + 0 = j; omega
  rw [e1]
  simp [nums, hj]

set_option maxHeartbeats 1000000 in
set_option maxRecDepth 100000 in
theorem lives_c (w : World) : Calls Try.prog 10 #[] w fun e w' => e = .returned (.bool true) ∧ Below w.heap.size w w' := by
  have kc := fun (w : World) (C : Array Value) (n c : Nat) => Lib.run_convert_bytes_const (P := Try.prog) w 22 5 C n c Try.underlying22 Try.underlying5
  go_enter Try.func10, Try.ntmps10
  go_wp2_with fail
  refine (runes_c (some ⟨w.heap.size, 0, none⟩) 4 [97, 13, 10, 98] _ (lit_Cm .u8 5 w [97, 13, 10, 98] (4, 5) (by decide)) (by unfold T.Byt; decide) (by decide)).mono ?_
  rintro e w1 ⟨v, rfl, hR, hB⟩
  rw [r_one] at hR
  obtain ⟨A1, c1, rfl⟩ := Kd.R_slice hR
  have HR := Aside0.mk hR
  have HB := Aside0.mk (below_then ((Below.refl w.heap.size w).alloc (Nat.le_refl _) _) (by simp) hB)
  clear hR hB
  go_wp2_with fail
  refine (same_c [97, 10, 98] (by decide) A1 (some ⟨w1.heap.size, 0, none⟩) c1 3 _ (Kd.R_reads' (Kd.R_alloc HR.out _)).2.2 (Kd.R_reads' HR.out).2.1 (lit_C .i32 21 w1 [97, 10, 98] (by decide)) (by decide)).mono ?_
  rintro e w2 ⟨rfl, hB⟩
  have HB2 := Aside0.mk (below_then (HB.out.alloc HB.out.size _) (by have := HB.out.size; simp; omega) hB)
  clear hB HB HR
  go_wp2_with fail
  refine (runes_c (some ⟨w2.heap.size, 0, none⟩) 2 [255, 97] _ (lit_C .u8 5 w2 [255, 97] (by decide)) (by unfold T.Byt; decide) (by decide)).mono ?_
  rintro e w3 ⟨v, rfl, hR, hB⟩
  rw [r_two] at hR
  obtain ⟨A2, c2, rfl⟩ := Kd.R_slice hR
  have HR := Aside0.mk hR
  have HB := Aside0.mk (below_then (HB2.out.alloc HB2.out.size _) (by have := HB2.out.size; simp; omega) hB)
  clear hR hB HB2
  go_wp2_with fail
  refine (same_c [65533, 97] (by decide) A2 (some ⟨w3.heap.size, 0, none⟩) c2 2 _ (Kd.R_reads' (Kd.R_alloc HR.out _)).2.2 (Kd.R_reads' HR.out).2.1 (lit_C .i32 21 w3 [65533, 97] (by decide)) (by decide)).mono ?_
  rintro e w4 ⟨rfl, hB⟩
  have HB2 := Aside0.mk (below_then (HB.out.alloc HB.out.size _) (by have := HB.out.size; simp; omega) hB)
  clear hB HB HR
  go_wp2_with fail
  refine (hex_c 70 _).mono ?_
  rintro e w5 ⟨rfl, hB⟩
  have HB := Aside0.mk (below_step HB2.out hB)
  clear hB HB2
  rw [x_one]
  go_wp2_with fail
  have hnm := name_c [97, 45, 49] w5 (by unfold T.Byt; decide) (by decide)
  rw [n_one] at hnm
  refine Calls.mono (show Calls Try.prog 26 #[.string ⟨#[97, 45, 49]⟩] w5 _ from hnm) ?_
  rintro e w6 ⟨rfl, hB⟩
  have HB2 := Aside0.mk (below_step HB.out hB)
  clear hB HB hnm
  go_wp2_with fail
  go_ret
  exact ⟨rfl, HB2.out⟩

end Go.Proofs.Ytagncibkgpodfaa
