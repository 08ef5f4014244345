/-
  CascadeMore holds: at whatever entries, entry and name the law returns true and leaves its arguments as they were.
-/
import Derived.Test.YtahihhklijcghaaRows
import Derived.Test.YtahihhklijcghaaWin
import Derived.Test.YtahihhklijcghaaOpen
import Derived.WalkKit
import Derived.ProofKit
import Derived.OpenShut
import Derived.ShutString
import Derived.ChangeOld
import Derived.Below
import Derived.SizedLaws
namespace Go.Proofs.Ytahihhklijcghaa.cascadeMore
open Go.ChangeShapes Go.WideShapes Go.ChangeAt Go.RowKit
open Go.ChangeMaps (open_string shut_string)
open Go.Proofs.YtahihhklijcghaaW.PrintWords Go.Proofs.Ytahihhklijcghaa.PCascadeMore Go.Proofs.Ytahihhklijcghaa.Opn
set_option linter.unusedVariables false

theorem own : ownKnob Try.prog.godebug = none := by kernel_rfl
theorem laidOut : laidOutB Try.prog = true := by kernel_rfl

theorem cells3 : Try.prog.cellsOf 3 = 1 := by kernel_rfl
theorem cells4 : Try.prog.cellsOf 4 = 1 := by kernel_rfl
theorem cells9 : Try.prog.cellsOf 9 = 1 := by kernel_rfl
theorem cells24 : Try.prog.cellsOf 24 = 3 := by kernel_rfl
theorem cells26 : Try.prog.cellsOf 26 = 8 := by kernel_rfl
def W3 (n : Int) : Prop := (Lit.int .i64 n).wf = true
theorem opens24 : Opens Try.prog 24 k24 (fun x => W3 x.f0 ∧ W3 x.f1 ∧ W3 x.f2) :=
  opens_struct Try.underlying24 _ (fun x => ⟨x.1, x.2.1, x.2.2⟩) (fun _ => rfl)
    (opens_more (opens_int Try.underlying3) rfl (opens_more (opens_int Try.underlying3) (by rw [cells3]) (opens_last (opens_int Try.underlying3) (by rw [cells3]) (by rw [cells24, cells3]))))
def G26 (x : S26) : Prop := x.f0.size ≤ 9223372036854775807 ∧ x.f1.size ≤ 9223372036854775807 ∧ W3 x.f2 ∧ True ∧ (W3 x.f4.f0 ∧ W3 x.f4.f1 ∧ W3 x.f4.f2) ∧ W3 x.f5
theorem opens26 : Opens Try.prog 26 k26 G26 :=
  opens_struct Try.underlying26 _ (fun x => ⟨x.1, x.2.1, x.2.2.1, x.2.2.2.1, x.2.2.2.2.1, x.2.2.2.2.2⟩) (fun _ => rfl)
    (opens_more (opens_string Try.underlying9) rfl (opens_more (opens_string Try.underlying9) (by rw [cells9]) (opens_more (opens_int Try.underlying3) (by rw [cells9]) (opens_more (opens_bool Try.underlying4) (by rw [cells9, cells3])
      (opens_more opens24 (by rw [cells9, cells3, cells4]) (opens_last (opens_int Try.underlying3) (by rw [cells9, cells3, cells4, cells24]) (by rw [cells9, cells3, cells4, cells24, cells26])))))))
theorem opens22 : Opens Try.prog 22 (Kd.slice 26 k26) (fun xs => ∀ x ∈ xs, G26 x) := opens_slice Try.underlying22 cells26 opens26

/-- The walk, at arguments as they came in. -/
theorem walk (A : Option Addr) (c : Nat) (l : List S26) (e : S26) (name : ByteArray) (w : World) (h1 : Kd.C k26 w A l.length l) (h2 : l.length ≤ c) (h3 : l.length * 80 ≤ 140737488351232) :
    Calls Try.prog 3 #[.slice A l.length c, .agg #[.string e.f0, .string e.f1, .int .i64 e.f2, .bool e.f3, .int .i64 e.f4.f0, .int .i64 e.f4.f1, .int .i64 e.f4.f2, .int .i64 e.f5], .string name] w
      fun e w' => e = .returned (.bool true) ∧ Below w.heap.size w w' := by
  obtain ⟨r, hr⟩ := light_f (l ++ [⟨e.f0, e.f1, e.f2, e.f3, ⟨e.f4.f0, e.f4.f1, e.f4.f2⟩, e.f5⟩]) (by simp; omega) (l.length + 12) (by simp)
  exact more_calls (l.length + 12) A c l e.f0 e.f1 e.f2 e.f3 e.f4.f0 e.f4.f1 e.f4.f2 e.f5 name r w h1 h2 (by omega) hr (lives_f _ (by omega))
    (fun _ _ => more_rest l (by omega) _ (by omega) _ _ _ _ _ _ _ _ _)

set_option maxRecDepth 100000 in
theorem lifted (os : Os) (started : os.Started) (H : Type) (enc : TypeId × Value → H) :
    ReturnsInHanded {} Try.checked os 3 .any (Rows.cascadeMoreSpec.pre6 enc Try.prog Try.f3 Rows.cascadeMoreRow.domain false) (Rows.cascadeMoreSpec.post enc Try.prog Try.f3 false true false false) := by
  refine returnsInHanded_of_change_sized (C := Try.checked) own started (by kernel_rfl) Try.func3
    (ChangeSpec.witness6 (enc := enc) (C := Try.checked) false ⟨#[], #[.slice none 0 0, .agg #[.string ⟨#[]⟩, .string ⟨#[]⟩, .int .i64 0, .bool false, .int .i64 0, .int .i64 0, .int .i64 0, .int .i64 0], .string ⟨#[]⟩], []⟩ 8 (by kernel_rfl) (by kernel_rfl) (by kernel_rfl) (by kernel_rfl)) ?_
  intro W base args ds gs before hval0 hW hcnd hsz0 _
  have hsz : (DataW.weightsEach Try.prog (Try.f3.params.toList ++ Rows.cascadeMoreSpec.plain.varTypes Try.prog) (ds ++ gs)).all (· ≤ reachBytes) = true := hsz0
  have hval : ∀ (j : Nat) t v, Try.f3.params[j]? = some t → args[j]? = some v → Value.okWide Try.prog W .any base t v := hval0
  have hW' := hW
  obtain ⟨p, q, hA0, hV, rfl, hfz, hnd⟩ := hW
  have hA : DataW.TrodAll enc Try.prog W 0 (fun _ => true) true Try.f3.params.toList args.toList ds p := hA0
  rw [Try.params3] at hA hval hsz
  obtain ⟨v0, vs0, d0, ds0, p0, q0, hargs, rfl, rfl, h0, r0⟩ := trodAll_cons hA
  obtain ⟨v1, vs1, d1, ds1, p1, q1, rfl, rfl, rfl, h1, r1⟩ := trodAll_cons r0
  obtain ⟨v2, vs2, d2, ds2, p2, q2, rfl, rfl, rfl, h2, r2⟩ := trodAll_cons r1
  obtain ⟨rfl, rfl, rfl⟩ := trodAll_nil r2
  obtain rfl : args = #[v0, v1, v2] := by cases args; simp_all
  obtain ⟨rfl, rfl⟩ := trodVars_none hV
  obtain ⟨a0, len0, cap0, rfl⟩ := okWide_slice Try.underlying22 (hval 0 22 v0 rfl rfl)
  obtain ⟨cs1, rfl, hcs1⟩ := okWide_struct Try.underlying26 (hval 1 26 v1 rfl rfl)
  have lt0 : ∀ x ∈ p0, x.block < W.heap.size := by obtain ⟨m, hm⟩ := h0; exact DataW.trod_lt m _ _ _ hm
  have lt1 : ∀ x ∈ p1, x.block < W.heap.size := by obtain ⟨m, hm⟩ := h1; exact DataW.trod_lt m _ _ _ hm
  have lt2 : ∀ x ∈ p2, x.block < W.heap.size := by obtain ⟨m, hm⟩ := h2; exact DataW.trod_lt m _ _ _ hm
  obtain ⟨l, rfl, hl1, hl2, _, hl3⟩ := slice_in (B := 80) Try.underlying22 opens22 h0 hsz (j := 0) rfl rfl (by kernel_rfl)
  obtain ⟨e, rfl⟩ : ∃ e : S26, cs1 = #[.string e.f0, .string e.f1, .int .i64 e.f2, .bool e.f3, .int .i64 e.f4.f0, .int .i64 e.f4.f1, .int .i64 e.f4.f2, .int .i64 e.f5] := by
    obtain ⟨fuel, hf⟩ := h1
    obtain ⟨e, hK, _⟩ := opens26 H enc W _ _ _ fuel _ _ hf
    refine ⟨e, ?_⟩
    have := k26_open hK
    cases cs1
    simpa [Value.cells] using this
  obtain ⟨s, rfl⟩ : ∃ s : ByteArray, v2 = .string s := by
    obtain ⟨s, rfl, _⟩ := open_string Try.underlying9 (hval 2 9 v2 rfl rfl) h2
    exact ⟨s, rfl⟩
  clear hA0 hval0
  refine (walk a0 cap0 l e s W hl2 hl1 hl3).mono fun e W' ⟨he, bel⟩ => ?_
  subst he
  exact ⟨_, rfl, _, _, _, [], _, [], hW', trodAll_mk1 (shut_bool Try.underlying4 _),
    (trodAll_cons_mk (Below.trod laidOut (by kernel_rfl) (of_decide_eq_true (by kernel_rfl)) h0 bel lt0) (trodAll_cons_mk (Below.trod laidOut (by kernel_rfl) (of_decide_eq_true (by kernel_rfl)) h1 bel lt1)
      (trodAll_cons_mk (Below.trod laidOut (by kernel_rfl) (of_decide_eq_true (by kernel_rfl)) h2 bel lt2) trodAll_mk0))), rfl, bel.frame _, fun h => by cases h⟩

theorem over : Rows.cascadeMoreRow.holds Try.pinned (OpenSpec.ofChange Rows.cascadeMoreSpec) :=
  OpenClaim.holds_of_wide 3 Try.f3 rfl rfl rfl rfl rfl rfl rfl ⟨rfl, rfl, rfl, rfl, rfl⟩ rfl rfl rfl rfl rfl (by kernel_rfl) Try.func3 (by kernel_rfl)
    (of_decide_eq_true (by kernel_rfl)) (by unfold Func.isWrapper; first | (rw [if_pos (by decide +kernel)]; kernel_rfl) | (rw [if_neg (by decide +kernel)]; exact ⟨rfl, rfl⟩))
    (fun os started H enc _ => lifted os started H enc)
theorem proved : Rows.CascadeMoreSaid := over
#print axioms proved
end Go.Proofs.Ytahihhklijcghaa.cascadeMore
namespace Go.Proofs.Ytahihhklijcghaa
/-- The row, under a short name, for the claim. -/
theorem cascadeMore_holds : Rows.CascadeMoreSaid := cascadeMore.proved
end Go.Proofs.Ytahihhklijcghaa
