/-
  CascadeWins holds: the winner of any name of any entries, of all names, and all of a name.
-/
import Derived.Test.YtahihhklijcghaaRows
import Derived.Test.YtahihhklijcghaaWinsA
import Derived.Test.YtahihhklijcghaaOpenW
import Derived.Test.YtahihhklijcghaaOpen
import Derived.WalkKit
import Derived.ProofKit
import Derived.OpenShut
import Derived.ShutString
import Derived.ChangeOld
import Derived.Below
import Derived.SizedLaws
namespace Go.Proofs.Ytahihhklijcghaa.cascadeWins
open Go.ChangeShapes Go.WideShapes Go.ChangeAt Go.RowKit
open Go.ChangeMaps (open_string shut_string)
open Go.Proofs.YtahihhklijcghaaW.PrintWords Go.Proofs.Ytahihhklijcghaa.Opn Go.Proofs.Ytahihhklijcghaa.PCascadeSorts Go.Proofs.Ytahihhklijcghaa
set_option linter.unusedVariables false

theorem own : ownKnob Try.prog.godebug = none := by kernel_rfl
theorem laidOut : laidOutB Try.prog = true := by kernel_rfl

theorem cells3 : Try.prog.cellsOf 3 = 1 := by kernel_rfl
theorem cells4 : Try.prog.cellsOf 4 = 1 := by kernel_rfl
theorem cells9 : Try.prog.cellsOf 9 = 1 := by kernel_rfl
theorem cells24 : Try.prog.cellsOf 24 = 3 := by kernel_rfl
theorem cells26 : Try.prog.cellsOf 26 = 8 := by kernel_rfl
def W3 (n : Int) : Prop := (Lit.int .i64 n).wf = true
theorem opens24 : OpensW Try.prog 24 k24 (fun x => W3 x.f0 ∧ W3 x.f1 ∧ W3 x.f2) :=
  opensW_struct Try.underlying24 _ (fun x => ⟨x.1, x.2.1, x.2.2⟩) (fun _ => rfl)
    (opensW_more (opens_int Try.underlying3).w rfl (opensW_more (opens_int Try.underlying3).w (by rw [cells3]) (opensW_last (opens_int Try.underlying3).w (by rw [cells3]) (by rw [cells24, cells3]))))
def G26 (x : S26) : Prop := x.f0.size ≤ 140737488351232 ∧ x.f1.size ≤ 140737488351232 ∧ W3 x.f2 ∧ True ∧ (W3 x.f4.f0 ∧ W3 x.f4.f1 ∧ W3 x.f4.f2) ∧ W3 x.f5
theorem opens26 : OpensW Try.prog 26 k26 G26 :=
  opensW_struct Try.underlying26 _ (fun x => ⟨x.1, x.2.1, x.2.2.1, x.2.2.2.1, x.2.2.2.2.1, x.2.2.2.2.2⟩) (fun _ => rfl)
    (opensW_more (opensW_string Try.underlying9) rfl (opensW_more (opensW_string Try.underlying9) (by rw [cells9]) (opensW_more (opens_int Try.underlying3).w (by rw [cells9]) (opensW_more (opens_bool Try.underlying4).w (by rw [cells9, cells3])
      (opensW_more opens24 (by rw [cells9, cells3, cells4]) (opensW_last (opens_int Try.underlying3).w (by rw [cells9, cells3, cells4, cells24]) (by rw [cells9, cells3, cells4, cells24, cells26])))))))
theorem one26 {H : Type} {enc : TypeId × Value → H} {W : World} {cs : Array Value} {dd : DataW H} {ps : List MemPlace} {ts : List TypeId} {ds : List (DataW H)} {j : Nat} (h : DataW.Trod enc Try.prog W 0 (fun _ => true) true 26 (.agg cs) dd ps)
    (hsz : (DataW.weightsEach Try.prog ts ds).all (· ≤ reachBytes) = true) (hj : ts[j]? = some 26) (hd : ds[j]? = some dd) : ∃ e : S26, cs = (pe e).toArray ∧ G26 e := by
  obtain ⟨fuel, hf⟩ := h
  obtain ⟨e, hK, hg⟩ := opens26 H enc W _ _ _ fuel _ _ hf (fun n hn => by
    simpa using List.all_eq_true.1 hsz _ (DataW.weights_mem_each hj hd n hn))
  refine ⟨e, ?_, hg⟩
  have := k26_open hK
  cases cs
  simpa [Value.cells, pe] using this

theorem walk (A : Option Addr) (c : Nat) (l : List S26) (s : ByteArray) (w : World) (hC : Kd.C k26 w A l.length l) (hcl : l.length ≤ c) (hg : ∀ x ∈ l, G26 x) (hb : l.length * 80 ≤ 140737488351232) (hs : s.size ≤ 140737488351232) : Calls Try.prog 7 #[.slice A l.length c, .string s] w fun e w' => e = .returned (.bool true) ∧ Below w.heap.size w w' :=
  wins_w s hC hcl (fun x hx => ⟨(hg x hx).1, (hg x hx).2.1⟩) (by omega) hs

set_option maxRecDepth 100000 in
theorem lifted (os : Os) (started : os.Started) (H : Type) (enc : TypeId × Value → H) :
    ReturnsInHanded {} Try.checked os 7 .any (Rows.cascadeWinsSpec.pre6 enc Try.prog Try.f7 Rows.cascadeWinsRow.domain false) (Rows.cascadeWinsSpec.post enc Try.prog Try.f7 false true false false) := by
  refine returnsInHanded_of_change_sized (C := Try.checked) own started (by kernel_rfl) Try.func7
    (ChangeSpec.witness6 (enc := enc) (C := Try.checked) false ⟨#[], #[.slice none 0 0, .string ⟨#[]⟩], []⟩ 8 (by kernel_rfl) (by kernel_rfl) (by kernel_rfl) (by kernel_rfl)) ?_
  intro W base args ds gs before hval0 hW hcnd hsz0 _
  have hsz : (DataW.weightsEach Try.prog (Try.f7.params.toList ++ Rows.cascadeWinsSpec.plain.varTypes Try.prog) (ds ++ gs)).all (· ≤ reachBytes) = true := hsz0
  have hval : ∀ (j : Nat) t v, Try.f7.params[j]? = some t → args[j]? = some v → Value.okWide Try.prog W .any base t v := hval0
  have hW' := hW
  obtain ⟨p, q, hA0, hV, rfl, hfz, hnd⟩ := hW
  have hA : DataW.TrodAll enc Try.prog W 0 (fun _ => true) true Try.f7.params.toList args.toList ds p := hA0
  rw [Try.params7] at hA hval hsz
  obtain ⟨v0, vs0, d0, ds0, p0, q0, hargs, rfl, rfl, h0, r0⟩ := trodAll_cons hA
  obtain ⟨v1, vs1, d1, ds1, p1, q1, rfl, rfl, rfl, h1, r1⟩ := trodAll_cons r0
  obtain ⟨rfl, rfl, rfl⟩ := trodAll_nil r1
  obtain rfl : args = #[v0, v1] := by cases args; simp_all
  obtain ⟨rfl, rfl⟩ := trodVars_none hV
  have lt0 : ∀ x ∈ p0, x.block < W.heap.size := by obtain ⟨m, hm⟩ := h0; exact DataW.trod_lt m _ _ _ hm
  obtain ⟨a0, len0, cap0, rfl⟩ := okWide_slice Try.underlying22 (hval 0 22 v0 rfl rfl)
  obtain ⟨l0, rfl, hc0, hC0, hg0, hb0⟩ := slice_inW (B := 80) Try.underlying22 cells26 opens26 h0 hsz (j := 0) rfl rfl (by kernel_rfl)
  have lt1 : ∀ x ∈ p1, x.block < W.heap.size := by obtain ⟨m, hm⟩ := h1; exact DataW.trod_lt m _ _ _ hm
  obtain ⟨s1, rfl⟩ : ∃ s : ByteArray, v1 = .string s := by
    obtain ⟨s, rfl, _⟩ := open_string Try.underlying9 (hval 1 9 v1 rfl rfl) h1
    exact ⟨s, rfl⟩
  have hb1 := string_in Try.underlying9 h1 hsz (j := 1) rfl rfl
  clear hA0 hval0
  refine (walk a0 cap0 l0 s1 W hC0 hc0 hg0 hb0 hb1).mono fun e W' ⟨he, bel⟩ => ?_
  subst he
  exact ⟨_, rfl, _, _, _, [], _, [], hW', trodAll_mk1 (shut_bool Try.underlying4 _),
    (trodAll_cons_mk (Below.trod laidOut (by kernel_rfl) (of_decide_eq_true (by kernel_rfl)) h0 bel lt0) (trodAll_cons_mk (Below.trod laidOut (by kernel_rfl) (of_decide_eq_true (by kernel_rfl)) h1 bel lt1) trodAll_mk0)), rfl, bel.frame _, fun h => by cases h⟩

theorem over : Rows.cascadeWinsRow.holds Try.pinned (OpenSpec.ofChange Rows.cascadeWinsSpec) :=
  OpenClaim.holds_of_wide 7 Try.f7 rfl rfl rfl rfl rfl rfl rfl ⟨rfl, rfl, rfl, rfl, rfl⟩ rfl rfl rfl rfl rfl (by kernel_rfl) Try.func7 (by kernel_rfl)
    (of_decide_eq_true (by kernel_rfl)) (by unfold Func.isWrapper; first | (rw [if_pos (by decide +kernel)]; kernel_rfl) | (rw [if_neg (by decide +kernel)]; exact ⟨rfl, rfl⟩))
    (fun os started H enc _ => lifted os started H enc)
theorem proved : Rows.CascadeWinsSaid := over
#print axioms proved
end Go.Proofs.Ytahihhklijcghaa.cascadeWins
namespace Go.Proofs.Ytahihhklijcghaa
/-- The row, under a short name, for the claim. -/
theorem cascadeWins_holds : Rows.CascadeWinsSaid := cascadeWins.proved
end Go.Proofs.Ytahihhklijcghaa
