/-
  MemoFirst holds: what is told for an epoch and node was put for them, first, since the table was cleared; a table with room never forgets.
-/
import Derived.Test.YtpgdehelamgbnaaRows
import Derived.Test.YtpgdehelamgbnaaFirst
import Derived.Test.YtpgdehelamgbnaaOpenS
import Derived.Test.YtpgdehelamgbnaaOpen
import Derived.WalkKit
import Derived.ProofKit
import Derived.OpenShut
import Derived.ShutString
import Derived.ChangeOld
import Derived.Below
import Derived.SizedLaws
namespace Go.Proofs.Ytpgdehelamgbnaa.memoFirst
open Go.ChangeShapes Go.WideShapes Go.ChangeAt Go.RowKit
open Go.ChangeMaps (open_string shut_string)
open Go.Proofs.YtpgdehelamgbnaaW.PrintWords Go.Proofs.Ytpgdehelamgbnaa.Opn Go.Proofs.Ytpgdehelamgbnaa.PMemoActs Go.Proofs.Ytpgdehelamgbnaa
set_option linter.unusedVariables false

theorem own : ownKnob Try.prog.godebug = none := by kernel_rfl
theorem laidOut : laidOutB Try.prog = true := by kernel_rfl
theorem cells9 : Try.prog.cellsOf 9 = 1 := by kernel_rfl

theorem walk (a : Int) (ha : (Lit.int .u64 a).wf = true) (A : Option Addr) (c : Nat) (l : List S33) (w : World) (hC : Kd.C k33 w A l.length l) (hc : l.length ≤ c) (hg : ∀ x ∈ l, G33 x) (hb : l.length * 56 ≤ 140737488351232) :
    Calls Try.prog 3 #[.int .u64 a, .slice A l.length c] w fun e w' => e = .returned (.bool true) ∧ Below w.heap.size w w' :=
  first_w a (bounds_u64 ha).1 (bounds_u64 ha).2 hC hc ⟨by omega, fun x hx => by have := (hg x hx).2.2.2.2.2; omega⟩

set_option maxRecDepth 100000 in
theorem lifted (os : Os) (started : os.Started) (H : Type) (enc : TypeId × Value → H) :
    ReturnsInHanded {} Try.checked os 3 .any (Rows.memoFirstSpec.pre6 enc Try.prog Try.f3 Rows.memoFirstRow.domain false) (Rows.memoFirstSpec.post enc Try.prog Try.f3 false true false false) := by
  refine returnsInHanded_of_change_sized (C := Try.checked) own started (by kernel_rfl) Try.func3
    (ChangeSpec.witness6 (enc := enc) (C := Try.checked) false ⟨#[], #[.int .u64 0, .slice none 0 0], []⟩ 8 (by kernel_rfl) (by kernel_rfl) (by kernel_rfl) (by kernel_rfl)) ?_
  intro W base args ds gs before hval0 hW hcnd hsz0 _
  have hsz : (DataW.weightsEach Try.prog (Try.f3.params.toList ++ Rows.memoFirstSpec.plain.varTypes Try.prog) (ds ++ gs)).all (· ≤ reachBytes) = true := hsz0
  have hval : ∀ (j : Nat) t v, Try.f3.params[j]? = some t → args[j]? = some v → Value.okWide Try.prog W .any base t v := hval0
  have hW' := hW
  obtain ⟨p, q, hA0, hV, rfl, hfz, hnd⟩ := hW
  have hA : DataW.TrodAll enc Try.prog W 0 (fun _ => true) true Try.f3.params.toList args.toList ds p := hA0
  rw [Try.params3] at hA hval hsz
  obtain ⟨v0, vs0, d0, ds0, p0, q0, hargs, rfl, rfl, h0, r0⟩ := trodAll_cons hA
  obtain ⟨v1, vs1, d1, ds1, p1, q1, rfl, rfl, rfl, h1, r1⟩ := trodAll_cons r0
  obtain ⟨rfl, rfl, rfl⟩ := trodAll_nil r1
  obtain rfl : args = #[v0, v1] := by cases args; simp_all
  obtain ⟨rfl, rfl⟩ := trodVars_none hV
  have lt0 : ∀ x ∈ p0, x.block < W.heap.size := by obtain ⟨m, hm⟩ := h0; exact DataW.trod_lt m _ _ _ hm
  obtain ⟨n0, rfl, hw0⟩ : ∃ n : Int, v0 = .int .u64 n ∧ (Lit.int .u64 n).wf = true := by
    obtain ⟨n, rfl, _, _, hw⟩ := open_int Try.underlying22 (hval 0 22 v0 rfl rfl) h0
    exact ⟨n, rfl, hw⟩
  have lt1 : ∀ x ∈ p1, x.block < W.heap.size := by obtain ⟨m, hm⟩ := h1; exact DataW.trod_lt m _ _ _ hm
  obtain ⟨a1, len1, cap1, rfl⟩ := okWide_slice Try.underlying23 (hval 1 23 v1 rfl rfl)
  obtain ⟨l1, rfl, hc1, hC1, hg1, hb1⟩ := slice_inW (B := 56) Try.underlying23 oc33 opens33 h1 hsz (j := 1) rfl rfl (by kernel_rfl)
  clear hA0 hval0
  refine (walk n0 hw0 a1 cap1 l1 W hC1 hc1 hg1 hb1).mono fun e W' ⟨he, bel⟩ => ?_
  subst he
  exact ⟨_, rfl, _, _, _, [], _, [], hW', trodAll_mk1 (shut_bool Try.underlying4 _),
    (trodAll_cons_mk (Below.trod laidOut (by kernel_rfl) (of_decide_eq_true (by kernel_rfl)) h0 bel lt0) (trodAll_cons_mk (Below.trod laidOut (by kernel_rfl) (of_decide_eq_true (by kernel_rfl)) h1 bel lt1) trodAll_mk0)), rfl, bel.frame _, fun h => by cases h⟩

theorem over : Rows.memoFirstRow.holds Try.pinned (OpenSpec.ofChange Rows.memoFirstSpec) :=
  OpenClaim.holds_of_wide 3 Try.f3 rfl rfl rfl rfl rfl rfl rfl ⟨rfl, rfl, rfl, rfl, rfl⟩ rfl rfl rfl rfl rfl (by kernel_rfl) Try.func3 (by kernel_rfl)
    (of_decide_eq_true (by kernel_rfl)) (by unfold Func.isWrapper; first | (rw [if_pos (by decide +kernel)]; kernel_rfl) | (rw [if_neg (by decide +kernel)]; exact ⟨rfl, rfl⟩))
    (fun os started H enc _ => lifted os started H enc)
theorem proved : Rows.MemoFirstSaid := over
#print axioms proved
end Go.Proofs.Ytpgdehelamgbnaa.memoFirst
namespace Go.Proofs.Ytpgdehelamgbnaa
/-- The row, under a short name, for the claim. -/
theorem memoFirst_holds : Rows.MemoFirstSaid := memoFirst.proved
end Go.Proofs.Ytpgdehelamgbnaa
