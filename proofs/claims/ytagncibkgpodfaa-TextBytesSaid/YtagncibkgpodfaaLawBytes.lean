/-
  TextBytes holds: any characters in bytes are the document's.
-/
import Derived.Test.YtagncibkgpodfaaRows
import Derived.Test.YtagncibkgpodfaaOne
import Derived.Test.YtagncibkgpodfaaRunesR
import Derived.Test.YtagncibkgpodfaaLives
import Derived.Test.YtagncibkgpodfaaBytes
import Derived.Test.YtagncibkgpodfaaOpen
import Derived.WalkKit
import Derived.Deep.RegionWith
import Derived.ProofKit
import Derived.OpenShut
import Derived.ShutString
import Derived.ChangeOld
import Derived.Below
import Derived.SizedLaws
namespace Go.Proofs.Ytagncibkgpodfaa.textBytes
open Go.ChangeShapes Go.WideShapes Go.ChangeAt Go.RowKit
open Go.ChangeMaps (open_string shut_string)
open Go.Proofs.YtagncibkgpodfaaW.PrintWords Go.Proofs.Ytagncibkgpodfaa.Opn
set_option linter.unusedVariables false

theorem own : ownKnob Try.prog.godebug = none := by kernel_rfl
theorem laidOut : laidOutB Try.prog = true := by kernel_rfl
theorem opens25 : Opens Try.prog 25 (Kd.slice 21 (Kd.int .i32)) (fun xs => ∀ x ∈ xs, (Lit.int .i32 x).wf = true) := opens_slice Try.underlying25 (by kernel_rfl) (opens_int Try.underlying21)
theorem i32_of {l : List Int} (h : ∀ x ∈ l, (Lit.int .i32 x).wf = true) : ∀ x ∈ l, -2147483648 ≤ x ∧ x ≤ 2147483647 := fun x hx => by have := bounds_i32 (h x hx); omega

set_option maxHeartbeats 1000000 in
set_option maxRecDepth 100000 in
theorem walk (A : Option Addr) (c : Nat) (l : List Int) (w : World) (hC : Kd.C (Kd.int .i32) w A l.length l) (hcl : l.length ≤ c) (hg : ∀ x ∈ l, (Lit.int .i32 x).wf = true) (hb : l.length * 4 ≤ 140737488351232) :
    Calls Try.prog 6 #[.slice A l.length c] w fun e w' => e = .returned (.bool true) ∧ Below w.heap.size w w' := by
  have HL := Aside0.mk (i32_of hg)
  have HC := Aside0.mk hC
  have HCL := Aside0.mk hcl
  clear hg hC hcl
  by_cases hn : 20000 < l.length
  · have gn : (20000 : Int) < (l.length : Int) := by omega
    go_enter Try.func6, Try.ntmps6
    go_wp2_with fail
    refine (lives_c _).mono ?_
    rintro e w1 ⟨rfl, hB⟩
    have HB := Aside0.mk hB
    clear hB
    go_wp2_with fail
    go_ret
    exact ⟨rfl, HB.out⟩
  · have gn : ¬ ((20000 : Int) < (l.length : Int)) := by omega
    have hbl := T.bytes_length l
    go_enter Try.func6, Try.ntmps6
    go_wp2_with fail
    go_region_with (first
      | (go_at_call 28; refine (bytes_c A c l w.drew (Kd.C_below HC.out (below_drew (Below.refl _ _))) HL.out (by omega)).mono ?_; rintro e w1 ⟨v1, rfl, hR, hB⟩; obtain ⟨A1, c1, rfl⟩ := Kd.R_slice hR; have HCV1 := conv_of_C c1 (Kd.R_reads' hR).2.2; have HR1 := Aside0.mk hR; have HB1 := Aside0.mk (below_step (below_drew (Below.refl w.heap.size w)) hB); clear hR hB)
      | (go_at_call 29; refine (rbytes_c A c l _ (Kd.C_below HC.out HB1.out) (by omega)).mono ?_; rintro e w2 ⟨v2, rfl, hR, hB⟩; obtain ⟨A2, c2, rfl⟩ := Kd.R_slice hR; have HCV2 := conv_of_C c2 (Kd.R_reads' hR).2.2; have HCV3 := conv_of_C c1 (Kd.R_reads' (Kd.R_below HR1.out hB)).2.2; have HB2 := Aside0.mk (below_step HB1.out hB); clear hR hB)
      | (go_at_call 10; refine (lives_c _).mono ?_; rintro e w3 ⟨rfl, hB⟩; have HB3 := Aside0.mk (below_step HB2.out hB); clear hB))
    all_goals (go_wp2_with fail; go_ret; exact ⟨rfl, HB3.out⟩)

set_option maxRecDepth 100000 in
theorem lifted (os : Os) (started : os.Started) (H : Type) (enc : TypeId × Value → H) :
    ReturnsInHanded {} Try.checked os 6 .any (Rows.textBytesSpec.pre6 enc Try.prog Try.f6 Rows.textBytesRow.domain false) (Rows.textBytesSpec.post enc Try.prog Try.f6 false true false false) := by
  refine returnsInHanded_of_change_sized (C := Try.checked) own started (by kernel_rfl) Try.func6
    (ChangeSpec.witness6 (enc := enc) (C := Try.checked) false ⟨#[], #[.slice none 0 0], []⟩ 8 (by kernel_rfl) (by kernel_rfl) (by kernel_rfl) (by kernel_rfl)) ?_
  intro W base args ds gs before hval0 hW hcnd hsz0 _
  have hsz : (DataW.weightsEach Try.prog (Try.f6.params.toList ++ Rows.textBytesSpec.plain.varTypes Try.prog) (ds ++ gs)).all (· ≤ reachBytes) = true := hsz0
  have hval : ∀ (j : Nat) t v, Try.f6.params[j]? = some t → args[j]? = some v → Value.okWide Try.prog W .any base t v := hval0
  have hW' := hW
  obtain ⟨p, q, hA0, hV, rfl, hfz, hnd⟩ := hW
  have hA : DataW.TrodAll enc Try.prog W 0 (fun _ => true) true Try.f6.params.toList args.toList ds p := hA0
  rw [Try.params6] at hA hval hsz
  obtain ⟨v0, vs0, d0, ds0, p0, q0, hargs, rfl, rfl, h0, r0⟩ := trodAll_cons hA
  obtain ⟨rfl, rfl, rfl⟩ := trodAll_nil r0
  obtain rfl : args = #[v0] := by cases args; simp_all
  obtain ⟨rfl, rfl⟩ := trodVars_none hV
  have lt0 : ∀ x ∈ p0, x.block < W.heap.size := by obtain ⟨m, hm⟩ := h0; exact DataW.trod_lt m _ _ _ hm
  obtain ⟨a0, len0, cap0, rfl⟩ := okWide_slice Try.underlying25 (hval 0 25 v0 rfl rfl)
  obtain ⟨l0, rfl, hc0, hC0, hg0, hb0⟩ := slice_in (B := 4) Try.underlying25 opens25 h0 hsz (j := 0) rfl rfl (by kernel_rfl)
  clear hA0 hval0
  refine (walk a0 cap0 l0 W hC0 hc0 hg0 hb0).mono fun e W' ⟨he, bel⟩ => ?_
  subst he
  exact ⟨_, rfl, _, _, _, [], _, [], hW', trodAll_mk1 (shut_bool Try.underlying4 _),
    (trodAll_cons_mk (Below.trod laidOut (by kernel_rfl) (of_decide_eq_true (by kernel_rfl)) h0 bel lt0) trodAll_mk0), rfl, bel.frame _, fun h => by cases h⟩

theorem over : Rows.textBytesRow.holds Try.pinned (OpenSpec.ofChange Rows.textBytesSpec) :=
  OpenClaim.holds_of_wide 6 Try.f6 rfl rfl rfl rfl rfl rfl rfl ⟨rfl, rfl, rfl, rfl, rfl⟩ rfl rfl rfl rfl rfl (by kernel_rfl) Try.func6 (by kernel_rfl)
    (of_decide_eq_true (by kernel_rfl)) (by unfold Func.isWrapper; first | (rw [if_pos (by decide +kernel)]; kernel_rfl) | (rw [if_neg (by decide +kernel)]; exact ⟨rfl, rfl⟩))
    (fun os started H enc _ => lifted os started H enc)
theorem proved : Rows.TextBytesSaid := over
#print axioms proved
end Go.Proofs.Ytagncibkgpodfaa.textBytes
namespace Go.Proofs.Ytagncibkgpodfaa
/-- The row, under a short name, for the claim. -/
theorem textBytes_holds : Rows.TextBytesSaid := textBytes.proved
end Go.Proofs.Ytagncibkgpodfaa
