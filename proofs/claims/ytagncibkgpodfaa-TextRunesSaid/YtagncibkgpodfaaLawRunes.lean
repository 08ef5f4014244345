/-
  TextRunes holds: the characters of any bytes are the document's.
-/
import Derived.Test.YtagncibkgpodfaaRows
import Derived.Test.YtagncibkgpodfaaRunesR
import Derived.Test.YtagncibkgpodfaaLives
import Derived.Test.YtagncibkgpodfaaOpen
import Derived.WalkKit
import Derived.ProofKit
import Derived.OpenShut
import Derived.ShutString
import Derived.ChangeOld
import Derived.Below
import Derived.SizedLaws
namespace Go.Proofs.Ytagncibkgpodfaa.textRunes
open Go.ChangeShapes Go.WideShapes Go.ChangeAt Go.RowKit
open Go.ChangeMaps (open_string shut_string)
open Go.Proofs.YtagncibkgpodfaaW.PrintWords Go.Proofs.Ytagncibkgpodfaa.Opn
set_option linter.unusedVariables false

theorem own : ownKnob Try.prog.godebug = none := by kernel_rfl
theorem laidOut : laidOutB Try.prog = true := by kernel_rfl
theorem opens22 : Opens Try.prog 22 (Kd.slice 5 (Kd.int .u8)) (fun xs => ∀ x ∈ xs, (Lit.int .u8 x).wf = true) := opens_slice Try.underlying22 (by kernel_rfl) (opens_int Try.underlying5)
theorem byt_of {l : List Int} (h : ∀ x ∈ l, (Lit.int .u8 x).wf = true) : T.Byt l := fun x hx => by have := bounds_u8 (h x hx); omega

theorem info5' : (Try.prog.info? 5).map (fun i => (i.zero, i.size, i.bytes)) = some (some (.int .u8 0), 1, 1) := by kernel_rfl
set_option maxHeartbeats 1000000 in
set_option maxRecDepth 100000 in
theorem walk (A : Option Addr) (c : Nat) (l : List Int) (w : World) (hC : Kd.C (Kd.int .u8) w A l.length l) (hcl : l.length ≤ c) (hg : ∀ x ∈ l, (Lit.int .u8 x).wf = true) (hb : l.length * 1 ≤ 140737488351232) :
    Calls Try.prog 3 #[.slice A l.length c] w fun e w' => e = .returned (.bool true) ∧ Below w.heap.size w w' := by
  have HL := Aside0.mk (byt_of hg)
  have HC := Aside0.mk hC
  have HCL := Aside0.mk hcl
  clear hg hC hcl
  by_cases hn : 20000 < l.length
  · have gn : (20000 : Int) < (l.length : Int) := by omega
    go_enter Try.func3, Try.ntmps3
    go_wp2_with fail
    refine (lives_c _).mono ?_
    rintro e w1 ⟨rfl, hB⟩
    have HB := Aside0.mk hB
    clear hB
    go_wp2_with fail
    go_ret
    exact ⟨rfl, HB.out⟩
  · have gn : ¬ ((20000 : Int) < (l.length : Int)) := by omega
    have hru := T.runes_length HL.out
    have HRU : Aside0 ((T.runes l).length ≤ 1000000) := ⟨by omega⟩
    clear hru
    go_enter Try.func3, Try.ntmps3
    go_wp2_with (at_builtin; refine print_append_row (w0 := w) w.heap.size rfl (.tmp 7) (.tmp 8) 22 5 .u8 1 rfl Try.underlying22 info5 (by decide) (.slice (some ⟨w.heap.size, 0, none⟩) 0 0) [] l A l.length c rfl rfl ?a1 ?a2 ?a3 ?a4 ?a5 ?_; (case a1 => exact own_lit w w.heap.size 5 .u8 [] (Nat.le_refl _) (by decide)); (case a2 => exact Kd.reads_of_C (enc := Value.int .u8) (d := (0 : Int)) (h1 := fun _ => rfl) (Kd.C_alloc HC.out _)); (case a3 => exact (Below.refl w.heap.size w).alloc (Nat.le_refl _) _); (case a4 => simp); (case a5 => simp; omega); intro v1 w1 ho hb _ _; have HO := Aside0.mk (show w1.ownsRow w.heap.size 5 1 v1 l.length (nums .u8 l) from ho); have HB := Aside0.mk hb; clear ho hb; obtain ⟨A1, c1, e1⟩ := own_slice HO.out; subst e1)
    have hR1 := Kd.R_of_own (enc := Value.int .u8) (h1 := fun _ => rfl) (ok := fun _ => True) HO.out (fun _ _ => trivial)
    have HC1 := Aside0.mk (Kd.R_reads' hR1).2.2
    have HCL1 := Aside0.mk (Kd.R_reads' hR1).2.1
    clear hR1 HO
    refine (runes_c A1 c1 l _ HC1.out HL.out (by omega)).mono ?_
    rintro e w2 ⟨v, rfl, hR, hB⟩
    obtain ⟨A2, c2, rfl⟩ := Kd.R_slice hR
    have HR2 := Aside0.mk hR
    have HB2 := Aside0.mk (below_step HB.out hB)
    clear hR hB HC1 HCL1 HB
    go_wp2_with fail
    refine (rrunes_c A c l _ (Kd.C_below HC.out HB2.out) HCL.out HL.out (by omega)).mono ?_
    rintro e w3 ⟨v, rfl, hR, hB⟩
    obtain ⟨A3, c3, rfl⟩ := Kd.R_slice hR
    have HR3 := Aside0.mk hR
    have HR4 := Aside0.mk (Kd.R_below HR2.out hB)
    have HB3 := Aside0.mk (below_step HB2.out hB)
    clear hR hB HR2 HB2
    go_wp2_with fail
    refine (same_c (T.runes l) (by have := HRU.out; omega) A2 A3 c2 c3 _ (Kd.R_reads' HR4.out).2.2 (Kd.R_reads' HR4.out).2.1 (Kd.R_reads' HR3.out).2.2 (Kd.R_reads' HR3.out).2.1).mono ?_
    rintro e w4 ⟨rfl, hB⟩
    have HB4 := Aside0.mk (below_step HB3.out hB)
    clear hB HB3
    go_wp2_with fail
    refine (lives_c _).mono ?_
    rintro e w5 ⟨rfl, hB⟩
    have HB5 := Aside0.mk (below_step HB4.out hB)
    clear hB HB4
    go_wp2_with fail
    go_ret
    exact ⟨rfl, HB5.out⟩

set_option maxRecDepth 100000 in
theorem lifted (os : Os) (started : os.Started) (H : Type) (enc : TypeId × Value → H) :
    ReturnsInHanded {} Try.checked os 3 .any (Rows.textRunesSpec.pre6 enc Try.prog Try.f3 Rows.textRunesRow.domain false) (Rows.textRunesSpec.post enc Try.prog Try.f3 false true false false) := by
  refine returnsInHanded_of_change_sized (C := Try.checked) own started (by kernel_rfl) Try.func3
    (ChangeSpec.witness6 (enc := enc) (C := Try.checked) false ⟨#[], #[.slice none 0 0], []⟩ 8 (by kernel_rfl) (by kernel_rfl) (by kernel_rfl) (by kernel_rfl)) ?_
  intro W base args ds gs before hval0 hW hcnd hsz0 _
  have hsz : (DataW.weightsEach Try.prog (Try.f3.params.toList ++ Rows.textRunesSpec.plain.varTypes Try.prog) (ds ++ gs)).all (· ≤ reachBytes) = true := hsz0
  have hval : ∀ (j : Nat) t v, Try.f3.params[j]? = some t → args[j]? = some v → Value.okWide Try.prog W .any base t v := hval0
  have hW' := hW
  obtain ⟨p, q, hA0, hV, rfl, hfz, hnd⟩ := hW
  have hA : DataW.TrodAll enc Try.prog W 0 (fun _ => true) true Try.f3.params.toList args.toList ds p := hA0
  rw [Try.params3] at hA hval hsz
  obtain ⟨v0, vs0, d0, ds0, p0, q0, hargs, rfl, rfl, h0, r0⟩ := trodAll_cons hA
  obtain ⟨rfl, rfl, rfl⟩ := trodAll_nil r0
  obtain rfl : args = #[v0] := by cases args; simp_all
  obtain ⟨rfl, rfl⟩ := trodVars_none hV
  have lt0 : ∀ x ∈ p0, x.block < W.heap.size := by obtain ⟨m, hm⟩ := h0; exact DataW.trod_lt m _ _ _ hm
  obtain ⟨a0, len0, cap0, rfl⟩ := okWide_slice Try.underlying22 (hval 0 22 v0 rfl rfl)
  obtain ⟨l0, rfl, hc0, hC0, hg0, hb0⟩ := slice_in (B := 1) Try.underlying22 opens22 h0 hsz (j := 0) rfl rfl (by kernel_rfl)
  clear hA0 hval0
  refine (walk a0 cap0 l0 W hC0 hc0 hg0 hb0).mono fun e W' ⟨he, bel⟩ => ?_
  subst he
  exact ⟨_, rfl, _, _, _, [], _, [], hW', trodAll_mk1 (shut_bool Try.underlying4 _),
    (trodAll_cons_mk (Below.trod laidOut (by kernel_rfl) (of_decide_eq_true (by kernel_rfl)) h0 bel lt0) trodAll_mk0), rfl, bel.frame _, fun h => by cases h⟩

theorem over : Rows.textRunesRow.holds Try.pinned (OpenSpec.ofChange Rows.textRunesSpec) :=
  OpenClaim.holds_of_wide 3 Try.f3 rfl rfl rfl rfl rfl rfl rfl ⟨rfl, rfl, rfl, rfl, rfl⟩ rfl rfl rfl rfl rfl (by kernel_rfl) Try.func3 (by kernel_rfl)
    (of_decide_eq_true (by kernel_rfl)) (by unfold Func.isWrapper; first | (rw [if_pos (by decide +kernel)]; kernel_rfl) | (rw [if_neg (by decide +kernel)]; exact ⟨rfl, rfl⟩))
    (fun os started H enc _ => lifted os started H enc)
theorem proved : Rows.TextRunesSaid := over
#print axioms proved
end Go.Proofs.Ytagncibkgpodfaa.textRunes
namespace Go.Proofs.Ytagncibkgpodfaa
/-- The row, under a short name, for the claim. -/
theorem textRunes_holds : Rows.TextRunesSaid := textRunes.proved
end Go.Proofs.Ytagncibkgpodfaa
