/-
  Slices inside arguments, opened at once; the acts.
-/
import Derived.Test.YtpgdehelamgbnaaOpenW
import Derived.Test.YtpgdehelamgbnaaPMemoActsx1
import Derived.KernelRfl
namespace Go.Proofs.Ytpgdehelamgbnaa.Opn
open Go.ChangeShapes Go.WideShapes Go.Deep Go.Proofs.YtpgdehelamgbnaaW.PrintWords
set_option linter.unusedVariables false
theorem opensW_slice {α : Type} {P : Program} {t e : TypeId} {d : Kd α} {good : α → Prop} {B : Nat} (ht : P.underlying t = some (.slice e)) (hc : P.cellsOf e = d.sz) (hB : P.bytesOf e = B) (he : OpensW P e d good) :
    OpensW P t (Kd.slice e d) (fun xs => (∀ x ∈ xs, good x) ∧ xs.length * B ≤ 140737488351232) := by
  intro H enc w base spare held fuel cs x h hw
  rcases open_slice ht h with ⟨rfl, _⟩ | ⟨a, len, cap, m, n, D, Pl, rfl, _, hl, hm, hmm, hx, hall⟩
  · exact ⟨[], ⟨none, 0, rfl, Nat.le_refl _, Kd.C_nil d w⟩, fun x hx => by simp at hx, by simp⟩
  · subst hx
    obtain ⟨xs, hlen, hxs⟩ := choose_list (n := len) (p := fun i y => ∃ c, c.length = d.sz ∧ d.K w y c ∧ good y ∧ ∀ j u, c[j]? = some u → w.cell? (a.add (i * d.sz + j)) = some u) (fun i hi => by
      have hi' : i < m := by rw [hmm]; split <;> omega
      obtain ⟨c, h1, h2⟩ := hall i hi'
      obtain ⟨y, hy, hg⟩ := he H enc w base spare held n c _ h2 (fun k hk => hw k (by
        simp only [DataW.weights, ht]
        refine List.mem_cons_of_mem _ (List.mem_append_left _ ?_)
        exact mem_all (List.mem_map.2 ⟨i, List.mem_range.2 hi, rfl⟩) hk))
      obtain ⟨_, hcl, hat⟩ := World.cells?_some h1
      refine ⟨y, c, d.K_len hy, hy, hg, fun j u hj => ?_⟩
      have hjl : j < P.cellsOf e := by rw [← hcl]; exact (List.getElem?_eq_some_iff.1 hj).1
      have := hat j hjl
      rw [Go.Deep.add_add, hj, hc] at this
      exact this)
    refine ⟨xs, ⟨some a, cap, by rw [hlen], by rw [hlen]; exact hl, by rw [hlen], ?_, fun _ => ⟨a, rfl, fun j p hj => ?_⟩⟩, ?_, ?_⟩
    · rw [hlen]; simp only [maxLen] at hm; omega
    · obtain ⟨c, h1, h2, _, h4⟩ := hxs j p hj
      exact ⟨c, h1, h2, h4⟩
    · intro x hx
      obtain ⟨i, hi⟩ := List.getElem?_of_mem hx
      obtain ⟨c, _, _, h3, _⟩ := hxs i x hi
      exact h3
    · have z := hw _ (by
        simp only [DataW.weights, ht]
        exact List.mem_cons_self ..)
      rw [hB] at z
      simp only [List.length_map, List.length_range] at z
      rw [hlen]
      exact Nat.le_trans (Nat.mul_le_mul_right _ (by omega)) z
end Go.Proofs.Ytpgdehelamgbnaa.Opn
namespace Go.Proofs.Ytpgdehelamgbnaa
open Go.ChangeShapes Go.WideShapes Go.RowKit
open Go.Proofs.YtpgdehelamgbnaaW.PrintWords Opn PMemoActs
set_option linter.unusedVariables false
theorem oc9 : Try.prog.cellsOf 9 = 1 := by kernel_rfl
theorem oc3 : Try.prog.cellsOf 3 = 1 := by kernel_rfl
theorem oc29 : Try.prog.cellsOf 29 = 1 := by kernel_rfl
theorem oc31 : Try.prog.cellsOf 31 = 3 := by kernel_rfl
theorem oc33 : Try.prog.cellsOf 33 = 5 := by kernel_rfl
def W3 (n : Int) : Prop := (Lit.int .i64 n).wf = true
def G29 (l : List ByteArray) : Prop := (∀ s ∈ l, s.size ≤ 140737488351232) ∧ l.length * 16 ≤ 140737488351232
theorem opens31 : OpensW Try.prog 31 k31 (fun x => W3 x.f0 ∧ W3 x.f1 ∧ G29 x.f2) :=
  opensW_struct Try.underlying31 _ (fun x => ⟨x.1, x.2.1, x.2.2⟩) (fun _ => rfl)
    (opensW_more (opens_int Try.underlying3).w rfl (opensW_more (opens_int Try.underlying3).w (by rw [oc3]) (opensW_last (opensW_slice Try.underlying29 oc9 (by kernel_rfl) (opensW_string Try.underlying9)) (by rw [oc3]) (by rw [oc3, oc29, oc31]))))
def G33 (x : S33) : Prop := W3 x.f0 ∧ W3 x.f1 ∧ W3 x.f2.f0 ∧ W3 x.f2.f1 ∧ G29 x.f2.f2
theorem opens33 : OpensW Try.prog 33 k33 G33 :=
  opensW_struct Try.underlying33 _ (fun x => ⟨x.1, x.2.1, x.2.2⟩) (fun _ => rfl)
    (opensW_more (opens_int Try.underlying3).w rfl (opensW_more (opens_int Try.underlying3).w (by rw [oc3]) (opensW_last opens31 (by rw [oc3]) (by rw [oc3, oc31, oc33]))))
theorem one33 {H : Type} {enc : TypeId × Value → H} {W : World} {cs : Array Value} {dd : DataW H} {ps : List MemPlace} {ts : List TypeId} {ds : List (DataW H)} {j : Nat} (h : DataW.Trod enc Try.prog W 0 (fun _ => true) true 33 (.agg cs) dd ps)
    (hsz : (DataW.weightsEach Try.prog ts ds).all (· ≤ reachBytes) = true) (hj : ts[j]? = some 33) (hd : ds[j]? = some dd) :
    ∃ (e : S33) (A : Option Addr) (c : Nat), cs = #[.int .i64 e.f0, .int .i64 e.f1, .int .i64 e.f2.f0, .int .i64 e.f2.f1, .slice A e.f2.f2.length c] ∧ e.f2.f2.length ≤ c ∧ Kd.C Kd.string W A e.f2.f2.length e.f2.f2 ∧ G33 e := by
  obtain ⟨fuel, hf⟩ := h
  obtain ⟨e, hK, hg⟩ := opens33 H enc W _ _ _ fuel _ _ hf (fun n hn => by
    simpa using List.all_eq_true.1 hsz _ (DataW.weights_mem_each hj hd n hn))
  obtain ⟨A, c, hcs, hl, hr⟩ := k33_open hK
  refine ⟨e, A, c, ?_, hl, hr, hg⟩
  cases cs
  simpa [Value.cells] using hcs
end Go.Proofs.Ytpgdehelamgbnaa
