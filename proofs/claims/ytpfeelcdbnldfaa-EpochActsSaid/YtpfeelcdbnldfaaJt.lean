/-
  Both epochs side by side: what they hold agrees, and how either moves.
-/
import Derived.Test.YtpfeelcdbnldfaaRec
import Derived.Test.YtpfeelcdbnldfaaSafe
namespace Go.Proofs.Ytpfeelcdbnldfaa
open Go.RowKit Go.Proofs.YtpfeelcdbnldfaaW Go.Proofs.YtpfeelcdbnldfaaW.PrintWords
set_option linter.unusedVariables false
set_option linter.unusedSimpArgs false
section
variable {S : List Int} {n : Nat}
theorem getD_take {i : Nat} (h : i < n) : (S.take n).getD i 0 = S.getD i 0 := by
  rw [List.getD_eq_getElem?_getD, List.getD_eq_getElem?_getD, List.getElem?_take_of_lt h]
theorem pinned_take (s : Int) : pinnedV (S.take n) n s = pinnedV S n s := by
  unfold pinnedV
  by_cases h : 0 ≤ s ∧ s < n
  · rw [if_pos h, if_pos h, getD_take (by omega)]
  · rw [if_neg h, if_neg h]
theorem least_take (k : Nat) : leastV (S.take n) n k = leastV S n k := by
  induction k with
  | zero => rfl
  | succ k ih => unfold leastV; rw [ih, pinned_take]
theorem min_take (now : Int) : minV (S.take n) n now = minV S n now := by
  unfold minV
  rw [least_take]
theorem len_take (h : S.length = 8 ∧ 1 ≤ n ∧ n ≤ 8) : (S.take n).length = n := by
  rw [List.length_take]
  omega
theorem goes_take (h : S.length = 8 ∧ 1 ≤ n ∧ n ≤ 8) (now : Int) : goesV (S.take n) now = fun x => !(leastV S n 8).2 || decide (x.2 < minV S n now) := by
  funext x
  unfold goesV
  rw [len_take h, least_take, min_take]
theorem set_take {i : Nat} (x : Int) : (S.set i x).take n = (S.take n).set i x := by
  apply List.ext_getElem?
  intro j
  by_cases hj : j < n
  · rw [List.getElem?_take_of_lt hj, List.getElem?_set, List.getElem?_set, List.getElem?_take_of_lt hj, List.length_take]
    by_cases e : i = j
    · subst e
      rw [if_pos rfl, if_pos rfl]
      by_cases h2 : i < S.length
      · rw [if_pos h2, if_pos (by omega)]
      · rw [if_neg h2, if_neg (by omega)]
    · rw [if_neg e, if_neg e]
  · rw [List.getElem?_eq_none (by rw [List.length_take]; omega), List.getElem?_eq_none (by rw [List.length_set, List.length_take]; omega)]
end
theorem recl_split {held : Bool} {m now mn : Int} {L I M : List It} (h : Rc held m L I M) (hM : M = [] ∨ (held = true ∧ ∀ b, b ∈ M → m ≤ b.2)) (hmn : mn = if held then m else now) :
    (sortV L).filter (fun x => !held || decide (x.2 < mn)) = I ∧ (sortV L).filter (fun x => !(!held || decide (x.2 < mn))) = sortV M := by
  have hs : I ++ sortV M = sortV L := by
    refine sortV_eq (((sortV_perm M).append_left I).trans h.perm) ?_
    rw [List.pairwise_append]
    exact ⟨h.sorted, sortV_sorted M, fun a ha b hb => h.cross a ha b ((sortV_perm M).subset hb)⟩
  have hi : ∀ a, a ∈ I → (!held || decide (a.2 < mn)) = true := fun a ha => by
    cases held with
    | false => rfl
    | true =>
      rcases h.below a ha with e | e
      · exact absurd e (by decide)
      · rw [if_pos rfl] at hmn
        subst hmn
        simpa using e
  have hm : ∀ b, b ∈ sortV M → (!held || decide (b.2 < mn)) = false := fun b hb => by
    have hb := (sortV_perm M).subset hb
    rcases hM with rfl | ⟨rfl, hM⟩
    · exact absurd hb (by simp)
    · rw [if_pos rfl] at hmn
      subst hmn
      simpa using hM b hb
  rw [← hs, List.filter_append, List.filter_append]
  constructor
  · rw [List.filter_eq_self.2 hi, List.filter_eq_nil_iff.2 (fun b hb => by rw [hm b hb]; simp), List.append_nil]
  · rw [List.filter_eq_nil_iff.2 (fun b hb => by rw [hi b hb]; simp), List.filter_eq_self.2 (fun b hb => by rw [hm b hb]; rfl), List.nil_append]
/-- Both lie side by side, in memory of their own. -/
structure Js (W : World) (p r : Nat) (now : Int) (S : List Int) (n : Nat) (L : List It) (w : World) : Prop where
  st : St w p now S n L
  rf : ∃ K : Nat → Prop, Rf w K r now (S.take n) (sortV L) ∧ ∀ k, K k → ¬ Ow w p k ∧ k < w.heap.size ∧ W.heap.size ≤ k
  og : ∀ k, Ow w p k → W.heap.size ≤ k
  bel : Below W.heap.size W w
/-- One of them has moved: x's is at (now', S', L'), the document's at (now, S, L). -/
structure Jh (W : World) (p r : Nat) (now' : Int) (S' : List Int) (L' : List It) (now : Int) (S : List Int) (n : Nat) (L : List It) (w : World) : Prop where
  st : St w p now' S' n L'
  rf : ∃ K : Nat → Prop, Rf w K r now (S.take n) (sortV L) ∧ ∀ k, K k → ¬ Ow w p k ∧ k < w.heap.size ∧ W.heap.size ≤ k
  og : ∀ k, Ow w p k → W.heap.size ≤ k
  bel : Below W.heap.size W w
section
variable {W w w' : World} {p r n : Nat} {now now' : Int} {S S' : List Int} {L L' : List It}
theorem Jh.js (h : Jh W p r now S L now S n L w) : Js W p r now S n L w := ⟨h.st, h.rf, h.og, h.bel⟩
theorem Js.jh (h : Js W p r now S n L w) : Jh W p r now S L now S n L w := ⟨h.st, h.rf, h.og, h.bel⟩
/-- x's epochs move. -/
theorem Jh.epo {now2 : Int} {S2 : List Int} {L2 : List It} (h : Jh W p r now' S' L' now S n L w) (hx : Nx w p now2 S2 n L2 w') : Jh W p r now2 S2 L2 now S n L w' := by
  obtain ⟨K, hR, hK⟩ := h.rf
  refine ⟨hx.st, ⟨K, hR.step (fun k hk hlt => hx.fr.block k hlt (hK k hk).1), fun k hk => ⟨fun ho => ?_, Nat.lt_of_lt_of_le (hK k hk).2.1 hx.fr.size, (hK k hk).2.2⟩⟩, fun k hk => ?_, ?_⟩
  · rcases hx.ow k ho with e | e
    · exact (hK k hk).1 e
    · have := (hK k hk).2.1
      omega
  · rcases hx.ow k hk with e | e
    · exact h.og k e
    · exact Nat.le_trans h.bel.size e
  · exact h.bel.trans (hx.fr.to_below h.bel.size (fun i hi => h.og i hi))
/-- The document's epochs move. -/
theorem Jh.doc {now2 : Int} {S2 : List Int} {L2 : List It} (h : Jh W p r now' S' L' now S n L w) (hx : ∀ K : Nat → Prop, Rf w K r now (S.take n) (sortV L) → (∀ k, K k → k < w.heap.size) → RX w K r now2 (S2.take n) (sortV L2) w') : Jh W p r now' S' L' now2 S2 n L2 w' := by
  obtain ⟨K, hR, hK⟩ := h.rf
  obtain ⟨hR2, hf⟩ := hx K hR (fun k hk => (hK k hk).2.1)
  obtain ⟨hs, ho⟩ := h.st.fr hf (fun k hk e => by subst e; exact (hK k hR.1).1 hk)
  refine ⟨hs, ⟨_, hR2, fun k hk => ⟨fun e => ?_, ?_, ?_⟩⟩, fun k hk => h.og k ((ho k).1 hk), ?_⟩
  · have e := (ho k).1 e
    rcases hk with hk | hk
    · exact (hK k hk).1 e
    · have := h.st.ow_lt k e
      omega
  · rcases hk with hk | hk
    · exact Nat.lt_of_lt_of_le (hK k hk).2.1 hf.size
    · exact hk.2
  · rcases hk with hk | hk
    · exact (hK k hk).2.2
    · exact Nat.le_trans h.bel.size hk.1
  · exact h.bel.trans (hf.to_below h.bel.size (fun i hi => by subst hi; exact (hK _ hR.1).2.2))
/-- Memory is made. -/
theorem Jh.below (h : Jh W p r now' S' L' now S n L w) (hb : Below w.heap.size w w') : Jh W p r now' S' L' now S n L w' := by
  obtain ⟨K, hR, hK⟩ := h.rf
  obtain ⟨hs, ho⟩ := h.st.below hb (Nat.le_refl _)
  exact ⟨hs, ⟨K, hR.below hb, fun k hk => ⟨fun e => (hK k hk).1 ((ho k).1 e), Nat.lt_of_lt_of_le (hK k hk).2.1 hb.size, (hK k hk).2.2⟩⟩, fun k hk => h.og k ((ho k).1 hk), below_step h.bel hb⟩
end
end Go.Proofs.Ytpfeelcdbnldfaa
