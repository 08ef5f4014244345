/-
  TextNames holds: a text with small letters, and whether it is a name, are the document's.
-/
import Derived.Test.YtagncibkgpodfaaRows
import Derived.Test.YtagncibkgpodfaaFold
import Derived.Test.YtagncibkgpodfaaNameR
import Derived.Test.YtagncibkgpodfaaLives
import Derived.Test.YtagncibkgpodfaaOpen
import Derived.WalkKit
import Derived.ProofKit
import Derived.OpenShut
import Derived.ShutString
import Derived.ChangeOld
import Derived.Below
import Derived.SizedLaws
namespace Go.Proofs.Ytagncibkgpodfaa.textNames
open Go.ChangeShapes Go.WideShapes Go.ChangeAt Go.RowKit
open Go.ChangeMaps (open_string shut_string)
open Go.Proofs.YtagncibkgpodfaaW.PrintWords Go.Proofs.Ytagncibkgpodfaa.Opn
set_option linter.unusedVariables false

theorem own : ownKnob Try.prog.godebug = none := by kernel_rfl
theorem laidOut : laidOutB Try.prog = true := by kernel_rfl

set_option maxHeartbeats 1000000 in
set_option maxRecDepth 100000 in
theorem walkL (a : List Int) (ha : T.Byt a) (w : World) (la : a.length ≤ 140737488351232) :
    Calls Try.prog 5 #[.string (strOfNums a)] w fun e w' => e = .returned (.bool true) ∧ Below w.heap.size w w' := by
  have HA := Aside0.mk ha
  have sza := strOfNums_size a
  clear ha
  by_cases hn : 20000 < a.length
  · have gn : (20000 : Int) < ((strOfNums a).size : Int) := by omega
    go_enter Try.func5, Try.ntmps5
    go_wp2_with fail
    refine (lives_c _).mono ?_
    rintro e w1 ⟨rfl, hB⟩
    have HB := Aside0.mk hB
    clear hB
    go_wp2_with fail
    go_ret
    exact ⟨rfl, HB.out⟩
  · have gn : ¬ ((20000 : Int) < ((strOfNums a).size : Int)) := by omega
    have HF1 := fun w => Aside0.mk (fold_c a w HA.out (by omega))
    have HF2 := fun w => Aside0.mk (rfold_c a w HA.out (by omega))
    have hfl := foldV_length a
    have HF3 := fun w => Aside0.mk (fold_c (foldV a) w (foldV_byt HA.out) (by omega))
    have HN1 := fun w => Aside0.mk (name_c a w HA.out (by omega))
    have HN2 := fun w => Aside0.mk (rname_c a w HA.out (by omega))
    rw [foldV_foldV] at HF3
    have szf := strOfNums_size (foldV a)
    rw [hfl] at szf
    clear hfl
    generalize foldV a = F at *
    generalize nameV a = N at *
    generalize strOfNums F = sF at *
    generalize strOfNums a = sA at *
    go_enter Try.func5, Try.ntmps5
    go_wp2_with fail
    refine (HF1 _).out.mono ?_
    rintro e w1 ⟨rfl, hB⟩
    have HB1 := Aside0.mk hB
    clear hB
    go_wp2_with fail
    refine (HF2 _).out.mono ?_
    rintro e w2 ⟨rfl, hB⟩
    have HB2 := Aside0.mk (below_step HB1.out hB)
    clear hB HB1
    go_wp2_with fail
    refine (HF3 _).out.mono ?_
    rintro e w3 ⟨rfl, hB⟩
    have HB3 := Aside0.mk (below_step HB2.out hB)
    clear hB HB2
    go_wp2_with fail
    refine (HN1 _).out.mono ?_
    rintro e w4 ⟨rfl, hB⟩
    have HB4 := Aside0.mk (below_step HB3.out hB)
    clear hB HB3
    go_wp2_with fail
    refine (HN2 _).out.mono ?_
    rintro e w5 ⟨rfl, hB⟩
    have HB5 := Aside0.mk (below_step HB4.out hB)
    clear hB HB4
    go_wp2_with fail
    refine (lives_c _).mono ?_
    rintro e w6 ⟨rfl, hB⟩
    have HB6 := Aside0.mk (below_step HB5.out hB)
    clear hB HB5
    go_wp2_with fail
    go_ret
    exact ⟨rfl, HB6.out⟩
theorem walk (a : ByteArray) (w : World) (la : a.size ≤ 140737488351232) :
    Calls Try.prog 5 #[.string a] w fun e w' => e = .returned (.bool true) ∧ Below w.heap.size w w' := by
  have h := walkL (bytesOf a) (byt_bytesOf a) w (by unfold bytesOf; simp; exact la)
  rwa [str_bytesOf] at h

set_option maxRecDepth 100000 in
theorem lifted (os : Os) (started : os.Started) (H : Type) (enc : TypeId × Value → H) :
    ReturnsInHanded {} Try.checked os 5 .any (Rows.textNamesSpec.pre6 enc Try.prog Try.f5 Rows.textNamesRow.domain false) (Rows.textNamesSpec.post enc Try.prog Try.f5 false true false false) := by
  refine returnsInHanded_of_change_sized (C := Try.checked) own started (by kernel_rfl) Try.func5
    (ChangeSpec.witness6 (enc := enc) (C := Try.checked) false ⟨#[], #[.string ⟨#[]⟩], []⟩ 8 (by kernel_rfl) (by kernel_rfl) (by kernel_rfl) (by kernel_rfl)) ?_
  intro W base args ds gs before hval0 hW hcnd hsz0 _
  have hsz : (DataW.weightsEach Try.prog (Try.f5.params.toList ++ Rows.textNamesSpec.plain.varTypes Try.prog) (ds ++ gs)).all (· ≤ reachBytes) = true := hsz0
  have hval : ∀ (j : Nat) t v, Try.f5.params[j]? = some t → args[j]? = some v → Value.okWide Try.prog W .any base t v := hval0
  have hW' := hW
  obtain ⟨p, q, hA0, hV, rfl, hfz, hnd⟩ := hW
  have hA : DataW.TrodAll enc Try.prog W 0 (fun _ => true) true Try.f5.params.toList args.toList ds p := hA0
  rw [Try.params5] at hA hval hsz
  obtain ⟨v0, vs0, d0, ds0, p0, q0, hargs, rfl, rfl, h0, r0⟩ := trodAll_cons hA
  obtain ⟨rfl, rfl, rfl⟩ := trodAll_nil r0
  obtain rfl : args = #[v0] := by cases args; simp_all
  obtain ⟨rfl, rfl⟩ := trodVars_none hV
  have lt0 : ∀ x ∈ p0, x.block < W.heap.size := by obtain ⟨m, hm⟩ := h0; exact DataW.trod_lt m _ _ _ hm
  obtain ⟨s0, rfl⟩ : ∃ s : ByteArray, v0 = .string s := by
    obtain ⟨s, rfl, _⟩ := open_string Try.underlying9 (hval 0 9 v0 rfl rfl) h0
    exact ⟨s, rfl⟩
  have hb0 := string_in Try.underlying9 h0 hsz (j := 0) rfl rfl
  clear hA0 hval0
  refine (walk s0 W (hb0 : s0.size ≤ 140737488351232)).mono fun e W' ⟨he, bel⟩ => ?_
  subst he
  exact ⟨_, rfl, _, _, _, [], _, [], hW', trodAll_mk1 (shut_bool Try.underlying4 _),
    (trodAll_cons_mk (Below.trod laidOut (by kernel_rfl) (of_decide_eq_true (by kernel_rfl)) h0 bel lt0) trodAll_mk0), rfl, bel.frame _, fun h => by cases h⟩

theorem over : Rows.textNamesRow.holds Try.pinned (OpenSpec.ofChange Rows.textNamesSpec) :=
  OpenClaim.holds_of_wide 5 Try.f5 rfl rfl rfl rfl rfl rfl rfl ⟨rfl, rfl, rfl, rfl, rfl⟩ rfl rfl rfl rfl rfl (by kernel_rfl) Try.func5 (by kernel_rfl)
    (of_decide_eq_true (by kernel_rfl)) (by unfold Func.isWrapper; first | (rw [if_pos (by decide +kernel)]; kernel_rfl) | (rw [if_neg (by decide +kernel)]; exact ⟨rfl, rfl⟩))
    (fun os started H enc _ => lifted os started H enc)
theorem proved : Rows.TextNamesSaid := over
#print axioms proved
end Go.Proofs.Ytagncibkgpodfaa.textNames
namespace Go.Proofs.Ytagncibkgpodfaa
/-- The row, under a short name, for the claim. -/
theorem textNames_holds : Rows.TextNamesSaid := textNames.proved
end Go.Proofs.Ytagncibkgpodfaa
