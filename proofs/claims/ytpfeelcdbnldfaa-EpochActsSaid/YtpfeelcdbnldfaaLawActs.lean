/-
  EpochActs holds: whatever is done, the epochs answer and hold what the plain ones of the document do.
-/
import Derived.Test.YtpfeelcdbnldfaaRows
import Derived.Test.YtpfeelcdbnldfaaW7
import Derived.Test.YtpfeelcdbnldfaaOpen
import Derived.WalkKit
import Derived.ProofKit
import Derived.OpenShut
import Derived.ShutString
import Derived.ChangeOld
import Derived.Below
import Derived.SizedLaws
namespace Go.Proofs.Ytpfeelcdbnldfaa.epochActs
open Go.ChangeShapes Go.WideShapes Go.ChangeAt Go.RowKit
open Go.ChangeMaps (open_string shut_string)
open Go.Proofs.YtpfeelcdbnldfaaW.PrintWords Go.Proofs.Ytpfeelcdbnldfaa.Opn
set_option linter.unusedVariables false

theorem own : ownKnob Try.prog.godebug = none := by kernel_rfl
theorem laidOut : laidOutB Try.prog = true := by kernel_rfl
theorem cells3 : Try.prog.cellsOf 3 = 1 := by kernel_rfl
theorem cells30 : Try.prog.cellsOf 30 = 2 := by kernel_rfl
def W3 (n : Int) : Prop := (Lit.int .i64 n).wf = true
def G30 (x : Ac) : Prop := W3 x.kind ∧ W3 x.n
theorem opens30 : Opens Try.prog 30 kAc G30 :=
  opens_struct Try.underlying30 _ (fun x => ⟨x.1, x.2⟩) (fun _ => rfl)
    (opens_more (opens_int Try.underlying3) rfl (opens_last (opens_int Try.underlying3) (by rw [cells3]) (by rw [cells30, cells3])))
theorem opens23 : Opens Try.prog 23 (Kd.slice 30 kAc) (fun xs => ∀ x ∈ xs, G30 x) := opens_slice Try.underlying23 cells30 opens30

theorem walk (n : Int) (A : Option Addr) (c : Nat) (l : List Ac) (w : World) (hC : Kd.C kAc w A l.length l) (hcl : l.length ≤ c) (hb : l.length * 16 ≤ 140737488351232) : Calls Try.prog 7 #[.int .i64 n, .slice A l.length c] w fun e w' => e = .returned (.bool true) ∧ Below w.heap.size w w' :=
  walk7 n A c l w hC hcl hb

set_option maxRecDepth 100000 in
theorem lifted (os : Os) (started : os.Started) (H : Type) (enc : TypeId × Value → H) :
    ReturnsInHanded {} Try.checked os 7 .any (Rows.epochActsSpec.pre6 enc Try.prog Try.f7 Rows.epochActsRow.domain false) (Rows.epochActsSpec.post enc Try.prog Try.f7 false true false false) := by
  refine returnsInHanded_of_change_sized (C := Try.checked) own started (by kernel_rfl) Try.func7
    (ChangeSpec.witness6 (enc := enc) (C := Try.checked) false ⟨#[], #[.int .i64 0, .slice none 0 0], []⟩ 8 (by kernel_rfl) (by kernel_rfl) (by kernel_rfl) (by kernel_rfl)) ?_
  intro W base args ds gs before hval0 hW hcnd hsz0 _
  have hsz : (DataW.weightsEach Try.prog (Try.f7.params.toList ++ Rows.epochActsSpec.plain.varTypes Try.prog) (ds ++ gs)).all (· ≤ reachBytes) = true := hsz0
  have hval : ∀ (j : Nat) t v, Try.f7.params[j]? = some t → args[j]? = some v → Value.okWide Try.prog W .any base t v := hval0
  have hW' := hW
  obtain ⟨p, q, hA0, hV, rfl, hfz, hnd⟩ := hW
  have hA : DataW.TrodAll enc Try.prog W 0 (fun _ => true) true Try.f7.params.toList args.toList ds p := hA0
  rw [Try.params7] at hA hval hsz
  obtain ⟨v0, vs0, d0, ds0, p0, q0, hargs, rfl, rfl, h0, r0⟩ := trodAll_cons hA
  obtain ⟨v1, vs1, d1, ds1, p1, q1, rfl, rfl, rfl, h1, r1⟩ := trodAll_cons r0
  obtain ⟨rfl, rfl, rfl⟩ := trodAll_nil r1
  obtain rfl : args = #[v0, v1] := by cases args; simp_all
  obtain ⟨rfl, rfl⟩ := trodVars_none hV
  have lt0 : ∀ x ∈ p0, x.block < W.heap.size := by obtain ⟨m, hm⟩ := h0; exact DataW.trod_lt m _ _ _ hm
  obtain ⟨n0, rfl, hw0⟩ : ∃ n : Int, v0 = .int .i64 n ∧ (Lit.int .i64 n).wf = true := by
    obtain ⟨n, rfl, _, _, hw⟩ := open_int Try.underlying3 (hval 0 3 v0 rfl rfl) h0
    exact ⟨n, rfl, hw⟩
  have lt1 : ∀ x ∈ p1, x.block < W.heap.size := by obtain ⟨m, hm⟩ := h1; exact DataW.trod_lt m _ _ _ hm
  obtain ⟨a1, len1, cap1, rfl⟩ := okWide_slice Try.underlying23 (hval 1 23 v1 rfl rfl)
  obtain ⟨l1, rfl, hc1, hC1, hg1, hb1⟩ := slice_in (B := 16) Try.underlying23 opens23 h1 hsz (j := 1) rfl rfl (by kernel_rfl)
  clear hA0 hval0
  refine (walk n0 a1 cap1 l1 W hC1 hc1 hb1).mono fun e W' ⟨he, bel⟩ => ?_
  subst he
  exact ⟨_, rfl, _, _, _, [], _, [], hW', trodAll_mk1 (shut_bool Try.underlying4 _),
    (trodAll_cons_mk (Below.trod laidOut (by kernel_rfl) (of_decide_eq_true (by kernel_rfl)) h0 bel lt0) (trodAll_cons_mk (Below.trod laidOut (by kernel_rfl) (of_decide_eq_true (by kernel_rfl)) h1 bel lt1) trodAll_mk0)), rfl, bel.frame _, fun h => by cases h⟩

theorem over : Rows.epochActsRow.holds Try.pinned (OpenSpec.ofChange Rows.epochActsSpec) :=
  OpenClaim.holds_of_wide 7 Try.f7 rfl rfl rfl rfl rfl rfl rfl ⟨rfl, rfl, rfl, rfl, rfl⟩ rfl rfl rfl rfl rfl (by kernel_rfl) Try.func7 (by kernel_rfl)
    (of_decide_eq_true (by kernel_rfl)) (by unfold Func.isWrapper; first | (rw [if_pos (by decide +kernel)]; kernel_rfl) | (rw [if_neg (by decide +kernel)]; exact ⟨rfl, rfl⟩))
    (fun os started H enc _ => lifted os started H enc)
theorem proved : Rows.EpochActsSaid := over
#print axioms proved
end Go.Proofs.Ytpfeelcdbnldfaa.epochActs
namespace Go.Proofs.Ytpfeelcdbnldfaa
/-- The row, under a short name, for the claim. -/
theorem epochActs_holds : Rows.EpochActsSaid := epochActs.proved
end Go.Proofs.Ytpfeelcdbnldfaa
