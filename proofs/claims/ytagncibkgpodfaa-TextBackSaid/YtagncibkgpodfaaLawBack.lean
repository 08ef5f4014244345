/-
  TextBack holds: what is told once is told the same again.
-/
import Derived.Test.YtagncibkgpodfaaRows
import Derived.Test.YtagncibkgpodfaaRunesR
import Derived.Test.YtagncibkgpodfaaLives
import Derived.Test.YtagncibkgpodfaaBytes
import Derived.Test.YtagncibkgpodfaaOpen
import Derived.WalkKit
import Derived.ProofKit
import Derived.OpenShut
import Derived.ShutString
import Derived.ChangeOld
import Derived.Below
import Derived.SizedLaws
namespace Go.Proofs.Ytagncibkgpodfaa.textBack
open Go.ChangeShapes Go.WideShapes Go.ChangeAt Go.RowKit
open Go.ChangeMaps (open_string shut_string)
open Go.Proofs.YtagncibkgpodfaaW.PrintWords Go.Proofs.Ytagncibkgpodfaa.Opn
set_option linter.unusedVariables false

theorem own : ownKnob Try.prog.godebug = none := by kernel_rfl
theorem laidOut : laidOutB Try.prog = true := by kernel_rfl
theorem opens22 : Opens Try.prog 22 (Kd.slice 5 (Kd.int .u8)) (fun xs => ∀ x ∈ xs, (Lit.int .u8 x).wf = true) := opens_slice Try.underlying22 (by kernel_rfl) (opens_int Try.underlying5)
theorem byt_of {l : List Int} (h : ∀ x ∈ l, (Lit.int .u8 x).wf = true) : T.Byt l := fun x hx => by have := bounds_u8 (h x hx); omega

set_option maxHeartbeats 2000000 in
set_option maxRecDepth 100000 in
theorem walk (A : Option Addr) (c : Nat) (l : List Int) (w : World) (hC : Kd.C (Kd.int .u8) w A l.length l) (hcl : l.length ≤ c) (hg : ∀ x ∈ l, (Lit.int .u8 x).wf = true) (hb : l.length * 1 ≤ 140737488351232) :
    Calls Try.prog 7 #[.slice A l.length c] w fun e w' => e = .returned (.bool true) ∧ Below w.heap.size w w' := by
  have HL := Aside0.mk (byt_of hg)
  have HC := Aside0.mk hC
  have HCL := Aside0.mk hcl
  clear hg hC hcl
  by_cases hn : 20000 < l.length
  · have gn : (20000 : Int) < (l.length : Int) := by omega
    go_enter Try.func7, Try.ntmps7
    go_wp2_with fail
    refine (lives_c _).mono ?_
    rintro e w1 ⟨rfl, hB⟩
    have HB := Aside0.mk hB
    clear hB
    go_wp2_with fail
    go_ret
    exact ⟨rfl, HB.out⟩
  · have gn : ¬ ((20000 : Int) < (l.length : Int)) := by omega
    have hru := T.runes_length HL.out
    have HT := Aside0.mk (T.runes_told HL.out)
    have HK := Aside0.mk (T.runes_back HL.out)
    have HRC := Aside0.mk (runes_c A c l w HC.out HL.out (by omega))
    generalize T.runes l = R at hru HT HK HRC
    have HI : Aside0 (∀ x ∈ R, -2147483648 ≤ x ∧ x ≤ 2147483647) := ⟨fun x hx => by have := (HT.out x hx).1; unfold T.Good at this; omega⟩
    have hru2 : ¬ ((l.length : Int) < (R.length : Int)) := by omega
    have hRn : R.length ≤ 20000 := by omega
    have HBL := Aside0.mk (T.bytes_length R)
    go_enter Try.func7, Try.ntmps7
    go_wp2_with fail
    refine HRC.out.mono ?_
    rintro e w1 ⟨v, rfl, hR, hB⟩
    obtain ⟨A1, c1, rfl⟩ := Kd.R_slice hR
    have HR1 := Aside0.mk hR
    have HB1 := Aside0.mk hB
    clear hR hB HRC
    go_wp2_with fail
    refine (bytes_c A1 c1 R _ (Kd.R_reads' HR1.out).2.2 HI.out (by omega)).mono ?_
    rintro e w2 ⟨v, rfl, hR, hB⟩
    obtain ⟨A2, c2, rfl⟩ := Kd.R_slice hR
    have HR2 := Aside0.mk hR
    have HR1b := Aside0.mk (Kd.R_below HR1.out hB)
    have HB2 := Aside0.mk (below_step HB1.out hB)
    clear hR hB HR1 HB1
    go_wp2_with fail
    refine (runes_c A2 c2 (T.bytes R) _ (Kd.R_reads' HR2.out).2.2 (T.bytes_byt R) (by have := HBL.out; omega)).mono ?_
    rintro e w3 ⟨v, rfl, hR, hB⟩
    rw [HK.out] at hR
    obtain ⟨A3, c3, rfl⟩ := Kd.R_slice hR
    have HR3 := Aside0.mk hR
    have HR1c := Aside0.mk (Kd.R_below HR1b.out hB)
    have HB3 := Aside0.mk (below_step HB2.out hB)
    clear hR hB HR1b HB2 HR2
    go_wp2_with fail
    refine (same_c R (by omega) A3 A1 c3 c1 _ (Kd.R_reads' HR3.out).2.2 (Kd.R_reads' HR3.out).2.1 (Kd.R_reads' HR1c.out).2.2 (Kd.R_reads' HR1c.out).2.1).mono ?_
    rintro e w4 ⟨rfl, hB⟩
    have HR4 := Aside0.mk (Kd.R_reads' (Kd.R_below HR1c.out hB)).2.2
    have HB4 := Aside0.mk (below_step HB3.out hB)
    clear hB HB3 HR3 HR1c
    go_wp2_with fail
    go_loop [27] (fun i => ∃ k : Nat, i = .int .i64 k ∧ k ≤ R.length) (fun i => R.length - (intOf i).toNat)
    case atStart => exact ⟨0, rfl, Nat.zero_le _⟩
    case round =>
      obtain ⟨k, rfl, hk⟩ := hrel
      by_cases hlt : k < R.length
      · obtain ⟨ad, rfl, hx⟩ := head_cell32 HR4.out k hlt
        obtain ⟨⟨h1, h2, _⟩, h3, h4, h5⟩ := HT.out R[k] (List.getElem_mem hlt)
        generalize R[k] = x at hx h1 h2 h3 h4 h5
        have g3 : (x == 13) = false := by simpa using h3
        have g4 : (x == 12) = false := by simpa using h4
        have g5 : (x == 0) = false := by simpa using h5
        clear h3 h4 h5
        go_wp2_with fail
        go_round
        case rel => exact ⟨u2, .int .i32 x, .int .i64 ((k : Int) + 1), ⟨k + 1, by go_num, hlt⟩, rfl, rfl, rfl⟩
        case measure => simp [intOf]; omega
      · go_wp2_with fail
        refine (lives_c _).mono ?_
        rintro e w5 ⟨rfl, hB⟩
        have HB5 := Aside0.mk (below_step HB4.out hB)
        clear hB
        go_wp2_with fail
        go_ret
        exact ⟨rfl, HB5.out⟩

set_option maxRecDepth 100000 in
theorem lifted (os : Os) (started : os.Started) (H : Type) (enc : TypeId × Value → H) :
    ReturnsInHanded {} Try.checked os 7 .any (Rows.textBackSpec.pre6 enc Try.prog Try.f7 Rows.textBackRow.domain false) (Rows.textBackSpec.post enc Try.prog Try.f7 false true false false) := by
  refine returnsInHanded_of_change_sized (C := Try.checked) own started (by kernel_rfl) Try.func7
    (ChangeSpec.witness6 (enc := enc) (C := Try.checked) false ⟨#[], #[.slice none 0 0], []⟩ 8 (by kernel_rfl) (by kernel_rfl) (by kernel_rfl) (by kernel_rfl)) ?_
  intro W base args ds gs before hval0 hW hcnd hsz0 _
  have hsz : (DataW.weightsEach Try.prog (Try.f7.params.toList ++ Rows.textBackSpec.plain.varTypes Try.prog) (ds ++ gs)).all (· ≤ reachBytes) = true := hsz0
  have hval : ∀ (j : Nat) t v, Try.f7.params[j]? = some t → args[j]? = some v → Value.okWide Try.prog W .any base t v := hval0
  have hW' := hW
  obtain ⟨p, q, hA0, hV, rfl, hfz, hnd⟩ := hW
  have hA : DataW.TrodAll enc Try.prog W 0 (fun _ => true) true Try.f7.params.toList args.toList ds p := hA0
  rw [Try.params7] at hA hval hsz
  obtain ⟨v0, vs0, d0, ds0, p0, q0, hargs, rfl, rfl, h0, r0⟩ := trodAll_cons hA
  obtain ⟨rfl, rfl, rfl⟩ := trodAll_nil r0
  obtain rfl : args = #[v0] := by cases args; simp_all
  obtain ⟨rfl, rfl⟩ := trodVars_none hV
  have lt0 : ∀ x ∈ p0, x.block < W.heap.size := by obtain ⟨m, hm⟩ := h0; exact DataW.trod_lt m _ _ _ hm
  obtain ⟨a0, len0, cap0, rfl⟩ := okWide_slice Try.underlying22 (hval 0 22 v0 rfl rfl)
  obtain ⟨l0, rfl, hc0, hC0, hg0, hb0⟩ := slice_in (B := 1) Try.underlying22 opens22 h0 hsz (j := 0) rfl rfl (by kernel_rfl)
  clear hA0 hval0
  refine (walk a0 cap0 l0 W hC0 hc0 hg0 hb0).mono fun e W' ⟨he, bel⟩ => ?_
  subst he
  exact ⟨_, rfl, _, _, _, [], _, [], hW', trodAll_mk1 (shut_bool Try.underlying4 _),
    (trodAll_cons_mk (Below.trod laidOut (by kernel_rfl) (of_decide_eq_true (by kernel_rfl)) h0 bel lt0) trodAll_mk0), rfl, bel.frame _, fun h => by cases h⟩

theorem over : Rows.textBackRow.holds Try.pinned (OpenSpec.ofChange Rows.textBackSpec) :=
  OpenClaim.holds_of_wide 7 Try.f7 rfl rfl rfl rfl rfl rfl rfl ⟨rfl, rfl, rfl, rfl, rfl⟩ rfl rfl rfl rfl rfl (by kernel_rfl) Try.func7 (by kernel_rfl)
    (of_decide_eq_true (by kernel_rfl)) (by unfold Func.isWrapper; first | (rw [if_pos (by decide +kernel)]; kernel_rfl) | (rw [if_neg (by decide +kernel)]; exact ⟨rfl, rfl⟩))
    (fun os started H enc _ => lifted os started H enc)
theorem proved : Rows.TextBackSaid := over
#print axioms proved
end Go.Proofs.Ytagncibkgpodfaa.textBack
namespace Go.Proofs.Ytagncibkgpodfaa
/-- The row, under a short name, for the claim. -/
theorem textBack_holds : Rows.TextBackSaid := textBack.proved
end Go.Proofs.Ytagncibkgpodfaa
