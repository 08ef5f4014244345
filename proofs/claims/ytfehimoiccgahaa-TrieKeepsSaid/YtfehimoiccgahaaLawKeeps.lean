/-
  TrieKeeps holds: what was made of a trie leaves it as it was; each one that ever was has what it had.
-/
import Derived.Test.YtfehimoiccgahaaRows
import Derived.Test.YtfehimoiccgahaaOpenW
import Derived.Test.YtfehimoiccgahaaKeeps
import Derived.Test.YtfehimoiccgahaaOpen
import Derived.WalkKit
import Derived.ProofKit
import Derived.OpenShut
import Derived.ShutString
import Derived.ChangeOld
import Derived.Below
import Derived.SizedLaws
namespace Go.Proofs.Ytfehimoiccgahaa.trieKeeps
open Go.ChangeShapes Go.WideShapes Go.ChangeAt Go.RowKit
open Go.ChangeMaps (open_string shut_string)
open Go.Proofs.YtfehimoiccgahaaW.PrintWords Go.Proofs.Ytfehimoiccgahaa.Opn Go.Proofs.Ytfehimoiccgahaa Go.Proofs.Ytfehimoiccgahaa.PTrieActs
set_option linter.unusedVariables false

theorem own : ownKnob Try.prog.godebug = none := by kernel_rfl
theorem laidOut : laidOutB Try.prog = true := by kernel_rfl
theorem cells3 : Try.prog.cellsOf 3 = 1 := by kernel_rfl
theorem cells4 : Try.prog.cellsOf 4 = 1 := by kernel_rfl
theorem cells9 : Try.prog.cellsOf 9 = 1 := by kernel_rfl
theorem cells40 : Try.prog.cellsOf 40 = 3 := by kernel_rfl
theorem opens40 : OpensW Try.prog 40 k40 (fun x => True ∧ (Lit.int .i64 x.f1).wf = true ∧ x.f2.size ≤ 140737488351232) :=
  opensW_struct Try.underlying40 _ (fun x => ⟨x.1, x.2.1, x.2.2⟩) (fun _ => rfl)
    (opensW_more (opens_bool Try.underlying4).w rfl (opensW_more (opens_int Try.underlying3).w (by rw [cells4]) (opensW_last (opensW_string Try.underlying9) (by rw [cells4, cells3]) (by rw [cells40, cells4, cells3, cells9]))))

theorem walk (A : Option Addr) (c : Nat) (l : List S40) (w : World) (hC : Kd.C k40 w A l.length l) (hc : l.length ≤ c) (hf : Fits l) (hb : l.length * 32 ≤ 140737488351232) : Calls Try.prog 6 #[.slice A l.length c] w fun e w' => e = .returned (.bool true) ∧ Below w.heap.size w w' :=
  keeps_w hC hc hf (by omega)

set_option maxRecDepth 100000 in
theorem lifted (os : Os) (started : os.Started) (H : Type) (enc : TypeId × Value → H) :
    ReturnsInHanded {} Try.checked os 6 .any (Rows.trieKeepsSpec.pre6 enc Try.prog Try.f6 Rows.trieKeepsRow.domain false) (Rows.trieKeepsSpec.post enc Try.prog Try.f6 false true false false) := by
  refine returnsInHanded_of_change_sized (C := Try.checked) own started (by kernel_rfl) Try.func6
    (ChangeSpec.witness6 (enc := enc) (C := Try.checked) false ⟨#[], #[.slice none 0 0], []⟩ 8 (by kernel_rfl) (by kernel_rfl) (by kernel_rfl) (by kernel_rfl)) ?_
  intro W base args ds gs before hval0 hW hcnd hsz0 _
  have hsz : (DataW.weightsEach Try.prog (Try.f6.params.toList ++ Rows.trieKeepsSpec.plain.varTypes Try.prog) (ds ++ gs)).all (· ≤ reachBytes) = true := hsz0
  have hval : ∀ (j : Nat) t v, Try.f6.params[j]? = some t → args[j]? = some v → Value.okWide Try.prog W .any base t v := hval0
  have hW' := hW
  obtain ⟨p, q, hA0, hV, rfl, hfz, hnd⟩ := hW
  have hA : DataW.TrodAll enc Try.prog W 0 (fun _ => true) true Try.f6.params.toList args.toList ds p := hA0
  rw [Try.params6] at hA hval hsz
  obtain ⟨v0, vs0, d0, ds0, p0, q0, hargs, rfl, rfl, h0, r0⟩ := trodAll_cons hA
  obtain ⟨rfl, rfl, rfl⟩ := trodAll_nil r0
  obtain rfl : args = #[v0] := by cases args; simp_all
  obtain ⟨rfl, rfl⟩ := trodVars_none hV
  have lt0 : ∀ x ∈ p0, x.block < W.heap.size := by obtain ⟨m, hm⟩ := h0; exact DataW.trod_lt m _ _ _ hm
  obtain ⟨a0, len0, cap0, rfl⟩ := okWide_slice Try.underlying34 (hval 0 34 v0 rfl rfl)
  obtain ⟨l0, rfl, hc0, hC0, hg0, hb0⟩ := slice_inW (B := 32) Try.underlying34 cells40 opens40 h0 hsz (j := 0) rfl rfl (by kernel_rfl)
  clear hA0 hval0
  refine (walk a0 cap0 l0 W hC0 hc0 (fun x hx => (hg0 x hx).2.2) hb0).mono fun e W' ⟨he, bel⟩ => ?_
  subst he
  exact ⟨_, rfl, _, _, _, [], _, [], hW', trodAll_mk1 (shut_bool Try.underlying4 _),
    (trodAll_cons_mk (Below.trod laidOut (by kernel_rfl) (of_decide_eq_true (by kernel_rfl)) h0 bel lt0) trodAll_mk0), rfl, bel.frame _, fun h => by cases h⟩

theorem over : Rows.trieKeepsRow.holds Try.pinned (OpenSpec.ofChange Rows.trieKeepsSpec) :=
  OpenClaim.holds_of_wide 6 Try.f6 rfl rfl rfl rfl rfl rfl rfl ⟨rfl, rfl, rfl, rfl, rfl⟩ rfl rfl rfl rfl rfl (by kernel_rfl) Try.func6 (by kernel_rfl)
    (of_decide_eq_true (by kernel_rfl)) (by unfold Func.isWrapper; first | (rw [if_pos (by decide +kernel)]; kernel_rfl) | (rw [if_neg (by decide +kernel)]; exact ⟨rfl, rfl⟩))
    (fun os started H enc _ => lifted os started H enc)
theorem proved : Rows.TrieKeepsSaid := over
#print axioms proved
end Go.Proofs.Ytfehimoiccgahaa.trieKeeps
namespace Go.Proofs.Ytfehimoiccgahaa
/-- The row, under a short name, for the claim. -/
theorem trieKeeps_holds : Rows.TrieKeepsSaid := trieKeeps.proved
end Go.Proofs.Ytfehimoiccgahaa
