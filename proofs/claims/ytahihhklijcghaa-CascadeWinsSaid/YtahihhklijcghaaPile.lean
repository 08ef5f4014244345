/-
  The pile in memory: numbered entries, nine cells each; Len, Less, Swap.
-/
import Derived.Test.YtahihhklijcghaaFr
import Derived.Test.YtahihhklijcghaaBase
import Derived.BigRegion
namespace Go.Proofs.Ytahihhklijcghaa
open Go.RowKit Go.Proofs.YtahihhklijcghaaW.PrintWords PCascadeSorts
set_option linter.unusedVariables false
set_option linter.unusedSimpArgs false

abbrev It := S55
instance inhIt : Inhabited S55 := ⟨z55⟩
/-- The cells of an item. -/
abbrev pc (x : It) : List Value := [.string x.f0.f0, .string x.f0.f1, .int .i64 x.f0.f2, .bool x.f0.f3, .int .i64 x.f0.f4.f0, .int .i64 x.f0.f4.f1, .int .i64 x.f0.f4.f2, .int .i64 x.f0.f5, .int .i64 x.f1]
/-- The items' cells. -/
def flat : List It → List Value
  | [] => []
  | x :: L => pc x ++ flat L
theorem flat_length : ∀ L : List It, (flat L).length = 9 * L.length
  | [] => rfl
  | x :: L => by simp only [flat, List.length_append, List.length_cons, List.length_nil, flat_length L]; omega
theorem flat_append : ∀ L M : List It, flat (L ++ M) = flat L ++ flat M
  | [], _ => rfl
  | x :: L, M => by simp only [List.cons_append, flat, flat_append L M, List.append_assoc]
theorem flat_at : ∀ (L : List It) (j : Nat) (hj : j < L.length) (k : Nat), k < 9 → (flat L)[9 * j + k]? = (pc L[j])[k]?
  | x :: L, 0, _, k, hk => by
    show (pc x ++ flat L)[9 * 0 + k]? = _
    rw [List.getElem?_append_left (by simp; omega)]
    simp
  | x :: L, j + 1, h, k, hk => by
    have ih := flat_at L j (by simpa using h) k hk
    show (pc x ++ flat L)[9 * (j + 1) + k]? = _
    rw [List.getElem?_append_right (by simp; omega)]
    have : 9 * (j + 1) + k - (pc x).length = 9 * j + k := by simp; omega
    rw [this]
    exact ih
/-- Nine cells set. -/
def setItem (cs : List Value) (i : Nat) (x : It) : List Value :=
  ((((((((cs.set i (.string x.f0.f0)).set (i + 1) (.string x.f0.f1)).set (i + 2) (.int .i64 x.f0.f2)).set (i + 3) (.bool x.f0.f3)).set (i + 4) (.int .i64 x.f0.f4.f0)).set (i + 5) (.int .i64 x.f0.f4.f1)).set (i + 6) (.int .i64 x.f0.f4.f2)).set (i + 7) (.int .i64 x.f0.f5)).set (i + 8) (.int .i64 x.f1)
theorem flat_set : ∀ (L : List It) (j : Nat) (x : It), flat (L.set j x) = setItem (flat L) (9 * j) x
  | [], _, _ => by simp [flat, setItem]
  | y :: L, 0, x => by simp [flat, setItem, pc]
  | y :: L, j + 1, x => by
    show pc y ++ flat (L.set j x) = setItem (pc y ++ flat L) (9 * (j + 1)) x
    rw [flat_set L j x]
    have h9 : (pc y).length = 9 := rfl
    unfold setItem
    rw [List.set_append_right _ _ (by simp; omega), List.set_append_right _ _ (by simp; omega), List.set_append_right _ _ (by simp; omega), List.set_append_right _ _ (by simp; omega), List.set_append_right _ _ (by simp; omega), List.set_append_right _ _ (by simp; omega), List.set_append_right _ _ (by simp; omega), List.set_append_right _ _ (by simp; omega), List.set_append_right _ _ (by simp; omega), h9]
    rw [show 9 * (j + 1) - 9 = 9 * j from by omega, show 9 * (j + 1) + 1 - 9 = 9 * j + 1 from by omega, show 9 * (j + 1) + 2 - 9 = 9 * j + 2 from by omega, show 9 * (j + 1) + 3 - 9 = 9 * j + 3 from by omega, show 9 * (j + 1) + 4 - 9 = 9 * j + 4 from by omega, show 9 * (j + 1) + 5 - 9 = 9 * j + 5 from by omega, show 9 * (j + 1) + 6 - 9 = 9 * j + 6 from by omega, show 9 * (j + 1) + 7 - 9 = 9 * j + 7 from by omega, show 9 * (j + 1) + 8 - 9 = 9 * j + 8 from by omega]
/-- A pile's row lies in block g. -/
def Row (W : World) (g c : Nat) (L : List It) : Prop := ∃ cur : Array Value, W.heap[g]? = some (.cells cur 55 (0, 0)) ∧ cur.toList.take (9 * L.length) = flat L ∧ cur.size = c * 9 ∧ L.length ≤ c ∧ c ≤ maxLen
section
variable {W : World} {g c : Nat} {L : List It}
theorem Row.cell (h : Row W g c L) (j : Nat) (hj : j < L.length) (k : Nat) (hk : k < 9) : W.cell? ⟨g, j * 9 + k, none⟩ = (pc L[j])[k]? := by
  obtain ⟨cur, hc, ht, _⟩ := h
  have ha := flat_at L j hj k hk
  rw [← ht, List.getElem?_take_of_lt (by omega)] at ha
  rw [cell_of_row W g _ cur 55 (0, 0) hc, Nat.mul_comm j 9]
  simpa using ha
theorem Row.frozen (h : Row W g c L) (i : Nat) : W.frozen? ⟨g, i, none⟩ = false := by
  obtain ⟨cur, hc, _⟩ := h
  unfold World.frozen?
  rw [hc]
  simp
theorem Row.lt (h : Row W g c L) : g < W.heap.size := by
  obtain ⟨cur, hc, _⟩ := h
  exact blk_lt hc
theorem Row.fr {T : Nat → Prop} {W' : World} (h : Row W g c L) (hf : Fr T W W') (hg : ¬ T g) : Row W' g c L := by
  obtain ⟨cur, hc, ht⟩ := h
  exact ⟨cur, (hf.block g (blk_lt hc) hg).trans hc, ht⟩
end
theorem Row.own {W : World} {g c : Nat} {L : List It} (h : Row W g c L) : W.ownsRow 0 55 9 (.slice (some ⟨g, 0, none⟩) L.length c) L.length (flat L) := by
  obtain ⟨cur, hc, ht, hs, h1, h2⟩ := h
  refine ⟨by rw [flat_length, Nat.mul_comm], .inr ⟨g, c, cur, rfl, Nat.zero_le _, hc, h1, h2, hs, ?_⟩⟩
  rw [Nat.mul_comm]
  exact ht
theorem Row.of_own {W : World} {g c : Nat} {L : List It} (h : W.ownsRow 0 55 9 (.slice (some ⟨g, 0, none⟩) L.length c) L.length (flat L)) : Row W g c L := by
  obtain ⟨_, h | ⟨g', c', cur, hv, _, hc, h1, h2, hs, ht⟩⟩ := h
  · cases h.1
  · injection hv with e1 e2 e3
    injection e1 with e1
    injection e1 with e1
    subst e1 e3
    rw [Nat.mul_comm] at ht
    exact ⟨cur, hc, ht, hs, h1, h2⟩
def lessV (a b : It) : Bool := lessS a.f0 b.f0 || (decide (a.f1 < b.f1) && !lessS b.f0 a.f0)
/-- The world with an item set. -/
def put9 (W : World) (g i : Nat) (x : It) : World :=
  ((((((((W.setCell ⟨g, i, none⟩ (.string x.f0.f0)).setCell ⟨g, i + 1, none⟩ (.string x.f0.f1)).setCell ⟨g, i + 2, none⟩ (.int .i64 x.f0.f2)).setCell ⟨g, i + 3, none⟩ (.bool x.f0.f3)).setCell ⟨g, i + 4, none⟩ (.int .i64 x.f0.f4.f0)).setCell ⟨g, i + 5, none⟩ (.int .i64 x.f0.f4.f1)).setCell ⟨g, i + 6, none⟩ (.int .i64 x.f0.f4.f2)).setCell ⟨g, i + 7, none⟩ (.int .i64 x.f0.f5)).setCell ⟨g, i + 8, none⟩ (.int .i64 x.f1)
theorem Row.put {W : World} {g c : Nat} {L : List It} (h : Row W g c L) (j : Nat) (hj : j < L.length) (x : It) : Row (put9 W g (j * 9) x) g c (L.set j x) := by
  obtain ⟨cur, hc, ht, hs, h1, h2⟩ := h
  refine ⟨_, set_block (set_block (set_block (set_block (set_block (set_block (set_block (set_block (set_block hc _ _) _ _) _ _) _ _) _ _) _ _) _ _) _ _) _ _, ?_, by simp [hs], by simpa using h1, h2⟩
  simp only [Array.toList_setIfInBounds, List.length_set]
  rw [List.take_set, List.take_set, List.take_set, List.take_set, List.take_set, List.take_set, List.take_set, List.take_set, List.take_set, ht, flat_set, Nat.mul_comm j 9]
  rfl
theorem put9_fr {W : World} {S : Nat → Prop} {g i : Nat} {x : It} {W0 : World} (h : Fr S W0 W) (hg : S g) : Fr S W0 (put9 W g i x) :=
  ((((((((h.setCell (p := ⟨g, i, none⟩) (Or.inl hg) _).setCell (p := ⟨g, i + 1, none⟩) (Or.inl hg) _).setCell (p := ⟨g, i + 2, none⟩) (Or.inl hg) _).setCell (p := ⟨g, i + 3, none⟩) (Or.inl hg) _).setCell (p := ⟨g, i + 4, none⟩) (Or.inl hg) _).setCell (p := ⟨g, i + 5, none⟩) (Or.inl hg) _).setCell (p := ⟨g, i + 6, none⟩) (Or.inl hg) _).setCell (p := ⟨g, i + 7, none⟩) (Or.inl hg) _).setCell (p := ⟨g, i + 8, none⟩) (Or.inl hg) _
end Go.Proofs.Ytahihhklijcghaa
