/-
  Rows of entries by their cells: reading one, writing one.
-/
import Derived.Test.YtahihhklijcghaaPlainW
import Derived.Deep.MidRow
namespace Go.Proofs.Ytahihhklijcghaa
open Go.RowKit Go.Proofs.YtahihhklijcghaaW Go.Proofs.YtahihhklijcghaaW.PrintWords PCascadeSorts
set_option linter.unusedVariables false
set_option linter.unusedSimpArgs false
def flat8 : List S26 → List Value
  | [] => []
  | x :: L => pe x ++ flat8 L
theorem flat8_length : ∀ L : List S26, (flat8 L).length = 8 * L.length
  | [] => rfl
  | x :: L => by simp only [flat8, List.length_append, List.length_cons, List.length_nil, flat8_length L]; omega
theorem flat8_at : ∀ (L : List S26) (j : Nat) (hj : j < L.length) (k : Nat), k < 8 → (flat8 L)[8 * j + k]? = (pe L[j])[k]?
  | x :: L, 0, _, k, hk => by
    show (pe x ++ flat8 L)[8 * 0 + k]? = _
    rw [List.getElem?_append_left (by simp; omega)]
    simp
  | x :: L, j + 1, h, k, hk => by
    have ih := flat8_at L j (by simpa using h) k hk
    show (pe x ++ flat8 L)[8 * (j + 1) + k]? = _
    rw [List.getElem?_append_right (by simp; omega)]
    have : 8 * (j + 1) + k - (pe x).length = 8 * j + k := by simp; omega
    rw [this]
    exact ih
theorem reps_flat : ∀ {L : List S26} {inner : List Value}, Reps (fun x c => c = pe x) 8 L inner → inner = flat8 L := by
  intro L
  induction L with
  | nil =>
    intro inner h
    have := h.1
    simp at this
    rw [this]
    rfl
  | cons x L ih =>
    intro inner h
    have h0 := h.2 0 x rfl
    simp only [Nat.zero_mul, List.drop_zero] at h0
    have hr : Reps (fun x c => c = pe x) 8 L (inner.drop 8) := by
      refine ⟨by rw [List.length_drop, h.1, List.length_cons]; omega, fun j p hj => ?_⟩
      have := h.2 (j + 1) p (by simpa using hj)
      rw [List.drop_drop]
      rw [Nat.add_mul, Nat.one_mul, Nat.add_comm] at this
      exact this
    rw [← List.take_append_drop 8 inner, h0, ih hr]
    rfl
theorem flat_reps (L : List S26) : Reps (fun x c => c = pe x) 8 L (flat8 L) := by
  refine ⟨by rw [flat8_length, Nat.mul_comm], fun j p hj => ?_⟩
  obtain ⟨hl, rfl⟩ := List.getElem?_eq_some_iff.1 hj
  apply List.ext_getElem?
  intro k
  rw [List.getElem?_take]
  by_cases hk : k < 8
  · rw [if_pos hk, List.getElem?_drop, Nat.mul_comm, flat8_at L j hl k hk]
  · rw [if_neg hk, List.getElem?_eq_none (by simp; omega)]
def setItem8 (cs : List Value) (i : Nat) (x : S26) : List Value :=
  ((((((((cs.set (i) (.string x.f0)).set (i + 1) (.string x.f1)).set (i + 2) (.int .i64 x.f2)).set (i + 3) (.bool x.f3)).set (i + 4) (.int .i64 x.f4.f0)).set (i + 5) (.int .i64 x.f4.f1)).set (i + 6) (.int .i64 x.f4.f2)).set (i + 7) (.int .i64 x.f5))
theorem flat8_set : ∀ (L : List S26) (j : Nat) (x : S26), flat8 (L.set j x) = setItem8 (flat8 L) (8 * j) x
  | [], _, _ => by simp [flat8, setItem8]
  | y :: L, 0, x => by simp [flat8, setItem8, pe]
  | y :: L, j + 1, x => by
    show pe y ++ flat8 (L.set j x) = setItem8 (pe y ++ flat8 L) (8 * (j + 1)) x
    rw [flat8_set L j x]
    have h8 : (pe y).length = 8 := rfl
    unfold setItem8
    rw [List.set_append_right _ _ (by simp; omega), List.set_append_right _ _ (by simp; omega), List.set_append_right _ _ (by simp; omega), List.set_append_right _ _ (by simp; omega), List.set_append_right _ _ (by simp; omega), List.set_append_right _ _ (by simp; omega), List.set_append_right _ _ (by simp; omega), List.set_append_right _ _ (by simp; omega), h8]
    rw [show 8 * (j + 1) - 8 = 8 * j from by omega, show 8 * (j + 1) + 1 - 8 = 8 * j + 1 from by omega, show 8 * (j + 1) + 2 - 8 = 8 * j + 2 from by omega, show 8 * (j + 1) + 3 - 8 = 8 * j + 3 from by omega, show 8 * (j + 1) + 4 - 8 = 8 * j + 4 from by omega, show 8 * (j + 1) + 5 - 8 = 8 * j + 5 from by omega, show 8 * (j + 1) + 6 - 8 = 8 * j + 6 from by omega, show 8 * (j + 1) + 7 - 8 = 8 * j + 7 from by omega]
def put8 (W : World) (g i : Nat) (x : S26) : World :=
  ((((((((W.setCell ⟨g, i, none⟩ (.string x.f0)).setCell ⟨g, i + 1, none⟩ (.string x.f1)).setCell ⟨g, i + 2, none⟩ (.int .i64 x.f2)).setCell ⟨g, i + 3, none⟩ (.bool x.f3)).setCell ⟨g, i + 4, none⟩ (.int .i64 x.f4.f0)).setCell ⟨g, i + 5, none⟩ (.int .i64 x.f4.f1)).setCell ⟨g, i + 6, none⟩ (.int .i64 x.f4.f2)).setCell ⟨g, i + 7, none⟩ (.int .i64 x.f5))
theorem put8_cells (W : World) (g i : Nat) (x : S26) : W.setCells g i (pe x) = put8 W g i x := rfl
/-- A row of entries lies in block g. -/
def Row8 (t : TypeId) (W : World) (g c : Nat) (L : List S26) : Prop := ∃ cur : Array Value, W.heap[g]? = some (.cells cur t (0, 0)) ∧ cur.toList.take (8 * L.length) = flat8 L ∧ cur.size = c * 8 ∧ L.length ≤ c ∧ c ≤ maxLen
section
variable {t : TypeId} {W : World} {g c : Nat} {L : List S26}
theorem Row8.cell (h : Row8 t W g c L) (j : Nat) (hj : j < L.length) (k : Nat) (hk : k < 8) : W.cell? ⟨g, j * 8 + k, none⟩ = (pe L[j])[k]? := by
  obtain ⟨cur, hc, ht, _⟩ := h
  have ha := flat8_at L j hj k hk
  rw [← ht, List.getElem?_take_of_lt (by omega)] at ha
  rw [cell_of_row W g _ cur t (0, 0) hc, Nat.mul_comm j 8]
  simpa using ha
theorem Row8.frozen (h : Row8 t W g c L) (i : Nat) : W.frozen? ⟨g, i, none⟩ = false := by
  obtain ⟨cur, hc, _⟩ := h
  unfold World.frozen?
  rw [hc]
  simp
theorem Row8.range (h : Row8 t W g c L) (j : Nat) (hj : j < L.length) : W.rangeAt g (j * 8) (pe L[j]) := fun k v hk => by
  rw [h.cell j hj k (by have := (List.getElem?_eq_some_iff.1 hk).1; simpa using this)]
  exact hk
theorem Row8.there (h : Row8 t W g c L) (j : Nat) (hj : j < L.length) : W.there g (j * 8) 8 := fun k hk =>
  ⟨(h.range j hj).isSome k (by simpa using hk), h.frozen _⟩
theorem Row8.put (h : Row8 t W g c L) (j : Nat) (hj : j < L.length) (x : S26) : Row8 t (put8 W g (j * 8) x) g c (L.set j x) := by
  obtain ⟨cur, hc, ht, hs, h1, h2⟩ := h
  refine ⟨_, (set_block (set_block (set_block (set_block (set_block (set_block (set_block (set_block hc _ _) _ _) _ _) _ _) _ _) _ _) _ _) _ _), ?_, by simp [hs], by simpa using h1, h2⟩
  simp only [Array.toList_setIfInBounds, List.length_set]
  rw [List.take_set, List.take_set, List.take_set, List.take_set, List.take_set, List.take_set, List.take_set, List.take_set, ht, flat8_set, Nat.mul_comm j 8]
  rfl
theorem Row8.rw_ {base : Nat} (h : Row8 t W g c L) (hb : base ≤ g) : Rw t W base (.slice (some ⟨g, 0, none⟩) L.length c) L := by
  obtain ⟨cur, hc, ht, hs, h1, h2⟩ := h
  exact ⟨flat8 L, ⟨by rw [flat8_length, Nat.mul_comm], .inr ⟨g, c, cur, rfl, hb, hc, h1, h2, hs, by rw [Nat.mul_comm]; exact ht⟩⟩, flat_reps L⟩
theorem Rw.row8 {base : Nat} {v : Value} (h : Rw t W base v L) (hn : 0 < L.length) : ∃ g c, v = .slice (some ⟨g, 0, none⟩) L.length c ∧ base ≤ g ∧ Row8 t W g c L := by
  obtain ⟨i, ⟨h0, h1⟩, h2⟩ := h
  obtain rfl := reps_flat h2
  rcases h1 with ⟨_, h1⟩ | ⟨g, c, cur, rfl, hb, hc, h3, h4, h5, h6⟩
  · omega
  · exact ⟨g, c, rfl, hb, cur, hc, by rw [Nat.mul_comm]; exact h6, h5, h3, h4⟩
end
theorem put8_fr {W : World} {S : Nat → Prop} {g i : Nat} {x : S26} {W0 : World} (h : Fr S W0 W) (hg : S g) : Fr S W0 (put8 W g i x) :=
  ((((((((h.setCell (p := ⟨g, i, none⟩) (Or.inl hg) _).setCell (p := ⟨g, i + 1, none⟩) (Or.inl hg) _).setCell (p := ⟨g, i + 2, none⟩) (Or.inl hg) _).setCell (p := ⟨g, i + 3, none⟩) (Or.inl hg) _).setCell (p := ⟨g, i + 4, none⟩) (Or.inl hg) _).setCell (p := ⟨g, i + 5, none⟩) (Or.inl hg) _).setCell (p := ⟨g, i + 6, none⟩) (Or.inl hg) _).setCell (p := ⟨g, i + 7, none⟩) (Or.inl hg) _)
theorem ent_at33 {W : World} {A : Option Addr} {l : List S26} (h : Kd.C k33 W A (l.map to33).length (l.map to33)) (k : Nat) (hk : k < l.length) : ∃ ad, A = some ad ∧ Eight W (ad.add (k * 8)) l[k] := by
  obtain ⟨ad, e, h0, h1, h2, h3, h4, h5, h6, h7⟩ := at_T33 h (k : Int) (by omega) (by rw [List.length_map]; omega)
  have hr : rd_T33 (l.map to33) (k : Int) = to33 l[k] := by
    unfold rd_T33
    rw [Int.toNat_natCast, List.getD_eq_getElem?_getD, List.getElem?_map, List.getElem?_eq_getElem hk]
    rfl
  rw [hr, Int.toNat_natCast] at h0 h1 h2 h3 h4 h5 h6 h7
  exact ⟨ad, e, h0, h1, h2, h3, h4, h5, h6, h7⟩
end Go.Proofs.Ytahihhklijcghaa
