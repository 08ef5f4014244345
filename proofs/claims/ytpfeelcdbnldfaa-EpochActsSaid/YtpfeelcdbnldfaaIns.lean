/-
  What waits, in order: one more, from the end (plain); a row of items of the document's.
-/
import Derived.Test.YtpfeelcdbnldfaaRfw
import Derived.Test.YtpfeelcdbnldfaaWait
namespace Go.Proofs.Ytpfeelcdbnldfaa
open Go.RowKit Go.Proofs.YtpfeelcdbnldfaaW Go.Proofs.YtpfeelcdbnldfaaW.PrintWords
set_option linter.unusedVariables false
set_option linter.unusedSimpArgs false
def insR (x : It) : List It → List It
  | [] => [x]
  | y :: r => if lessV x y = true then y :: insR x r else x :: y :: r
def insE (x : It) (R : List It) : List It := (insR x R.reverse).reverse
theorem insE_nil (x : It) : insE x [] = [x] := rfl
theorem insE_less {x y : It} (A : List It) (h : lessV x y = true) : insE x (A ++ [y]) = insE x A ++ [y] := by
  unfold insE
  rw [List.reverse_append, List.reverse_singleton, List.singleton_append, insR, if_pos h, List.reverse_cons]
theorem insE_not {x y : It} (A : List It) (h : lessV x y = false) : insE x (A ++ [y]) = A ++ [y] ++ [x] := by
  unfold insE
  rw [List.reverse_append, List.reverse_singleton, List.singleton_append, insR, if_neg (by simp [h])]
  simp
structure Bub (R : List It) (x : It) (A B X : List It) : Prop where
  list : X = A ++ x :: B
  rest : insE x R = insE x A ++ B
theorem Bub.start (R : List It) (x : It) : Bub R x R [] (R ++ [x]) := ⟨rfl, by simp⟩
theorem Bub.step {R A B X : List It} {x y : It} (h : Bub R x (A ++ [y]) B X) (hl : lessV x y = true) : Bub R x A (y :: B) ((X.set A.length x).set (A.length + 1) y) := by
  obtain ⟨rfl, h2⟩ := h
  constructor
  · simp [List.append_assoc]
  · rw [h2, insE_less A hl]
    simp
theorem Bub.stop {R A B X : List It} {x y : It} (h : Bub R x (A ++ [y]) B X) (hl : lessV x y = false) : X = insE x R := by
  obtain ⟨rfl, h2⟩ := h
  rw [h2, insE_not A hl]
  simp
theorem Bub.front {R B X : List It} {x : It} (h : Bub R x [] B X) : X = insE x R := by
  obtain ⟨rfl, h2⟩ := h
  rw [h2, insE_nil]
  simp
theorem insR_perm (x : It) : ∀ r : List It, (insR x r).Perm (x :: r)
  | [] => .refl _
  | y :: r => by
    unfold insR
    split
    · exact ((insR_perm x r).cons y).trans (List.Perm.swap x y r)
    · exact .refl _
theorem insR_sorted (x : It) : ∀ {r : List It}, r.Pairwise (fun a b => lessV a b = false) → (insR x r).Pairwise (fun a b => lessV a b = false)
  | [], _ => by simp [insR]
  | y :: r, h => by
    rw [List.pairwise_cons] at h
    unfold insR
    split
    · rename_i hl
      refine List.pairwise_cons.2 ⟨fun b hb => ?_, insR_sorted x h.2⟩
      have := (insR_perm x r).subset hb
      rcases List.mem_cons.1 this with e | e
      · subst e
        exact lessV_ord.weak _ _ hl
      · exact h.1 b e
    · rename_i hl
      have hl : lessV x y = false := by simpa using hl
      refine List.pairwise_cons.2 ⟨fun b hb => ?_, List.pairwise_cons.2 h⟩
      rcases List.mem_cons.1 hb with e | e
      · subst e
        exact hl
      · exact lessV_ord.trans _ _ _ (h.1 b e) hl
theorem insE_perm (x : It) (R : List It) : (insE x R).Perm (x :: R) :=
  (List.reverse_perm _).trans ((insR_perm x R.reverse).trans ((List.reverse_perm R).cons x))
theorem insE_sorted (x : It) {R : List It} (h : R.Pairwise (fun a b => lessV b a = false)) : (insE x R).Pairwise (fun a b => lessV b a = false) := by
  unfold insE
  rw [List.pairwise_reverse]
  exact insR_sorted x (List.pairwise_reverse.2 h)
theorem sortV_eq {L M : List It} (h : M.Perm L) (hs : M.Pairwise (fun a b => lessV b a = false)) : M = sortV L := sorted_one (h.trans (sortV_perm L).symm) hs (sortV_sorted L)
theorem insE_sortV (x : It) (L : List It) : insE x (sortV L) = sortV (x :: L) := sortV_eq ((insE_perm x _).trans ((sortV_perm L).cons x)) (insE_sorted x (sortV_sorted L))
/-- A row of the document's items lies in block g. -/
def Rt (W : World) (g c : Nat) (L : List It) : Prop := ∃ cur : Array Value, W.heap[g]? = some (.cells cur 64 (0, 0)) ∧ cur.toList.take (2 * L.length) = flat L ∧ cur.size = c * 2 ∧ L.length ≤ c ∧ c ≤ maxLen
section
variable {W W' : World} {g c : Nat} {L : List It}
theorem Rt.cell (h : Rt W g c L) (j : Nat) (hj : j < L.length) : W.cell? ⟨g, j * 2, none⟩ = some (.int .i64 L[j].1) ∧ W.cell? ⟨g, j * 2 + 1, none⟩ = some (.int .i64 L[j].2) := by
  obtain ⟨cur, hc, ht, _⟩ := h
  have ha := flat_at L j hj
  rw [← ht] at ha
  rw [List.getElem?_take_of_lt (by omega), List.getElem?_take_of_lt (by omega)] at ha
  rw [cell_of_row W g _ cur 64 (0, 0) hc, cell_of_row W g _ cur 64 (0, 0) hc, Nat.mul_comm j 2]
  simpa using ha
theorem Rt.frozen (h : Rt W g c L) (i : Nat) : W.frozen? ⟨g, i, none⟩ = false := by
  obtain ⟨cur, hc, _⟩ := h
  exact blk_frozen hc i
theorem Rt.below (h : Rt W g c L) (hb : Below W.heap.size W W') : Rt W' g c L := by
  obtain ⟨cur, hc, ht⟩ := h
  exact ⟨cur, (hb.block g (blk_lt hc)).trans hc, ht⟩
theorem Rt.put (h : Rt W g c L) (j : Nat) (hj : j < L.length) (x : It) : Rt ((W.setCell ⟨g, j * 2, none⟩ (.int .i64 x.1)).setCell ⟨g, j * 2 + 1, none⟩ (.int .i64 x.2)) g c (L.set j x) := by
  obtain ⟨cur, hc, ht, hs, h1, h2⟩ := h
  refine ⟨_, set_block (set_block hc _ _) _ _, ?_, by simp [hs], by simpa using h1, h2⟩
  simp only [Array.toList_setIfInBounds, List.length_set]
  rw [List.take_set, List.take_set, ht, flat_set, Nat.mul_comm j 2]
theorem reps_it : ∀ {L : List It} {inner : List Value}, Reps (fun (x : It) c => c = [.int .i64 x.1, .int .i64 x.2]) 2 L inner → inner = flat L := by
  intro L inner h
  obtain ⟨hl, hr⟩ := h
  apply List.ext_getElem?
  intro i
  by_cases hi : i / 2 < L.length
  · have hx := hr (i / 2) _ (List.getElem?_eq_getElem hi)
    have hf := flat_at L (i / 2) hi
    have hd := Nat.div_add_mod i 2
    have hil : i < inner.length := by omega
    rcases Nat.mod_two_eq_zero_or_one i with h0 | h0
    · have : ((inner.drop (i / 2 * 2)).take 2)[0]? = some (.int .i64 (L[i / 2]).1) := by rw [hx]; rfl
      rw [List.getElem?_take_of_lt (by decide), List.getElem?_drop] at this
      rw [show i = i / 2 * 2 + 0 by omega, this, show i / 2 * 2 + 0 = 2 * (i / 2) by omega, hf.1]
    · have : ((inner.drop (i / 2 * 2)).take 2)[1]? = some (.int .i64 (L[i / 2]).2) := by rw [hx]; rfl
      rw [List.getElem?_take_of_lt (by decide), List.getElem?_drop] at this
      rw [show i = i / 2 * 2 + 1 by omega, this, show i / 2 * 2 + 1 = 2 * (i / 2) + 1 by omega, hf.2]
  · rw [List.getElem?_eq_none (by omega), List.getElem?_eq_none (by rw [flat_length]; omega)]
theorem reps_flat : ∀ (L : List It), Reps (fun (x : It) c => c = [.int .i64 x.1, .int .i64 x.2]) 2 L (flat L) := fun L => by
  refine ⟨by rw [flat_length, Nat.mul_comm], fun j p hj => ?_⟩
  obtain ⟨hl, hp⟩ := List.getElem?_eq_some_iff.1 hj
  have hf := flat_at L j hl
  rw [hp] at hf
  apply List.ext_getElem?
  intro i
  match i with
  | 0 => rw [List.getElem?_take_of_lt (by decide), List.getElem?_drop, show j * 2 + 0 = 2 * j by omega, hf.1]; rfl
  | 1 => rw [List.getElem?_take_of_lt (by decide), List.getElem?_drop, show j * 2 + 1 = 2 * j + 1 by omega, hf.2]; rfl
  | i + 2 => rw [List.getElem?_eq_none (by simp; omega)]; rfl
theorem kI_of {w : World} {base : Nat} {ok : Nat → Prop} {x : It} {cs : List Value} (h : kI.M w base ok x cs) : cs = [.int .i64 x.1, .int .i64 x.2] := by
  obtain ⟨_, _, rfl, rfl, rfl⟩ := h
  rfl
theorem kI_mk (w : World) (base : Nat) (ok : Nat → Prop) (x : It) : kI.M w base ok x [.int .i64 x.1, .int .i64 x.2] := ⟨[.int .i64 x.1], [.int .i64 x.2], rfl, rfl, rfl⟩
theorem rt_of {base : Nat} {ok : Nat → Prop} {v : Value} (h : kI.R 64 W base ok v L) (h0 : 0 < L.length) : ∃ g c, v = .slice (some ⟨g, 0, none⟩) L.length c ∧ base ≤ g ∧ Rt W g c L := by
  obtain ⟨_, inner, ⟨hl, ho⟩, hr⟩ := h
  obtain rfl := reps_it (hr.imp_ (fun x cs hx => kI_of hx))
  rcases ho with ⟨_, e⟩ | ⟨g, c, cur, rfl, hb, hc, h1, h2, h3, h4⟩
  · omega
  · exact ⟨g, c, rfl, hb, cur, hc, by rw [Nat.mul_comm]; exact h4, h3, h1, h2⟩
theorem Rt.row {base : Nat} (h : Rt W g c L) (hg : base ≤ g) : kI.R 64 W base (fun k => base ≤ k) (.slice (some ⟨g, 0, none⟩) L.length c) L := by
  obtain ⟨cur, hc, ht, hs, h1, h2⟩ := h
  exact ⟨fun k hk => by simp [Value.ownBlock] at hk; omega, flat L, ⟨by rw [flat_length, Nat.mul_comm]; rfl, .inr ⟨g, c, cur, rfl, hg, hc, h1, h2, hs, by rw [Nat.mul_comm] at ht; exact ht⟩⟩, (reps_flat L).imp_ (fun x cs hx => by rw [hx]; exact kI_mk _ _ _ x)⟩
end
end Go.Proofs.Ytpfeelcdbnldfaa
