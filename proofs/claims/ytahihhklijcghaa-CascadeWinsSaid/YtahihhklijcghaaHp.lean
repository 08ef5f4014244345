/-
  Heaps in a list, plainly: what going up and going down leave.
-/
import Derived.Test.YtahihhklijcghaaWWords
namespace Go.Proofs.Ytahihhklijcghaa.Hp
set_option linter.unusedVariables false
set_option linter.unusedSimpArgs false
set_option linter.unusedSectionVars false
section
variable {α : Type} [Inhabited α]
/-- An order by 'less'. -/
structure Ord (lt : α → α → Bool) : Prop where
  trans : ∀ a b c, lt b a = false → lt c b = false → lt c a = false
  weak : ∀ a b, lt a b = true → lt b a = false
def at_ (L : List α) (k : Nat) : α := L.getD k default
def swp (L : List α) (i j : Nat) : List α := (L.set i (at_ L j)).set j (at_ L i)
theorem at_get {L : List α} {k : Nat} (h : k < L.length) : at_ L k = L[k] := by
  unfold at_
  rw [List.getD_eq_getElem?_getD, List.getElem?_eq_getElem h]
  rfl
theorem swp_length (L : List α) (i j : Nat) : (swp L i j).length = L.length := by simp [swp]
theorem at_swp {L : List α} {i j k : Nat} (hi : i < L.length) (hj : j < L.length) : at_ (swp L i j) k = if k = j then at_ L i else if k = i then at_ L j else at_ L k := by
  unfold swp
  unfold at_
  simp only [List.getD_eq_getElem?_getD]
  by_cases a : k = j
  · subst a
    rw [if_pos rfl, List.getElem?_set_self (by simpa using hj)]
    rfl
  · rw [if_neg a, List.getElem?_set_ne (Ne.symm a)]
    by_cases b : k = i
    · subst b
      rw [if_pos rfl, List.getElem?_set_self hi]
      rfl
    · rw [if_neg b, List.getElem?_set_ne (Ne.symm b)]
theorem swp_perm {L : List α} {i j : Nat} (hi : i < L.length) (hj : j < L.length) : (swp L i j).Perm L := by
  classical
  rw [List.perm_iff_count]
  intro a
  unfold swp
  rw [List.count_set (by simpa using hj), List.count_set hi, at_get hi, at_get hj]
  have h1 : ∀ (k : Nat) (hk : k < L.length), L[k] = a → 0 < L.count a := fun k hk e => List.count_pos_iff.2 (e ▸ List.getElem_mem hk)
  by_cases e : i = j
  · subst e
    simp only [List.getElem_set_self]
    have := h1 i hi
    by_cases c : L[i] = a
    · have := this c
      simp [c]
      omega
    · simp [c]
  · rw [List.getElem_set_ne e]
    have a1 := h1 i hi
    have a2 := h1 j hj
    by_cases c : L[i] = a <;> by_cases d : L[j] = a
    · have := a1 c
      simp [c, d]
      omega
    · have := a1 c
      simp [c, d]
      omega
    · have := a2 d
      simp [c, d]
    · simp [c, d]

variable {lt : α → α → Bool}
/-- The first n are a heap. -/
def Heap (lt : α → α → Bool) (L : List α) (n : Nat) : Prop := ∀ k, 0 < k → k < n → lt (at_ L k) (at_ L ((k - 1) / 2)) = false
theorem Heap.top (o : Ord lt) (hr : ∀ a, lt a a = false) {L : List α} {n : Nat} (h : Heap lt L n) : ∀ k, k < n → lt (at_ L k) (at_ L 0) = false := by
  intro k
  induction k using Nat.strongRecOn with
  | _ k ih =>
    intro hk
    by_cases h0 : k = 0
    · subst h0
      exact hr _
    · exact o.trans _ _ _ (ih ((k - 1) / 2) (by omega) (by omega)) (h k (by omega) hk)
structure Up (lt : α → α → Bool) (L : List α) (n j : Nat) : Prop where
  rest : ∀ k, 0 < k → k < n → k ≠ j → lt (at_ L k) (at_ L ((k - 1) / 2)) = false
  below : ∀ k, 0 < k → k < n → (k - 1) / 2 = j → 0 < j → lt (at_ L k) (at_ L ((j - 1) / 2)) = false
theorem Up.start {L : List α} {n : Nat} (h : Heap lt L n) : Up lt L (n + 1) n :=
  ⟨fun k h0 h1 h2 => h k h0 (by omega), fun k h0 h1 h2 h3 => by omega⟩
theorem Up.done0 {L : List α} {n : Nat} (h : Up lt L n 0) : Heap lt L n := fun k h0 h1 => h.rest k h0 h1 (by omega)
theorem Up.done {L : List α} {n j : Nat} (h : Up lt L n j) (hj : lt (at_ L j) (at_ L ((j - 1) / 2)) = false) : Heap lt L n := fun k h0 h1 => by
  by_cases e : k = j
  · subst e
    exact hj
  · exact h.rest k h0 h1 e
theorem Up.step (o : Ord lt) {L : List α} {n j : Nat} (h : Up lt L n j) (hn : n ≤ L.length) (h0 : 0 < j) (hj : j < n) (hl : lt (at_ L j) (at_ L ((j - 1) / 2)) = true) : Up lt (swp L ((j - 1) / 2) j) n ((j - 1) / 2) := by
  have ha := fun k => at_swp (L := L) (i := (j - 1) / 2) (j := j) (k := k) (by omega) (by omega)
  constructor
  · intro k k0 k1 k2
    rw [ha, ha]
    by_cases e : k = j
    · rw [if_pos e, if_neg (by omega), if_pos (by omega)]
      exact o.weak _ _ hl
    · rw [if_neg e, if_neg k2]
      by_cases p : (k - 1) / 2 = j
      · rw [if_pos p]
        exact h.below k k0 k1 p h0
      · rw [if_neg p]
        by_cases q : (k - 1) / 2 = (j - 1) / 2
        · rw [if_pos q]
          have := h.rest k k0 k1 e
          rw [q] at this
          exact o.trans _ _ _ (o.weak _ _ hl) this
        · rw [if_neg q]
          exact h.rest k k0 k1 e
  · intro k k0 k1 k2 k3
    have hp := h.rest ((j - 1) / 2) k3 (by omega) (by omega)
    rw [ha, ha, if_neg (show ((j - 1) / 2 - 1) / 2 ≠ j by omega), if_neg (show ((j - 1) / 2 - 1) / 2 ≠ (j - 1) / 2 by omega)]
    by_cases e : k = j
    · rw [if_pos e]
      exact hp
    · rw [if_neg e, if_neg (by omega)]
      have := h.rest k k0 k1 e
      rw [k2] at this
      exact o.trans _ _ _ hp this
/-- Whoever's parent is s or later is not less than it. -/
def HeapS (lt : α → α → Bool) (L : List α) (n s : Nat) : Prop := ∀ k, 0 < k → k < n → s ≤ (k - 1) / 2 → lt (at_ L k) (at_ L ((k - 1) / 2)) = false
theorem HeapS.heap {L : List α} {n : Nat} (h : HeapS lt L n 0) : Heap lt L n := fun k h0 h1 => h k h0 h1 (Nat.zero_le _)
structure Down (lt : α → α → Bool) (L : List α) (n s i : Nat) : Prop where
  rest : ∀ k, 0 < k → k < n → s ≤ (k - 1) / 2 → (k - 1) / 2 ≠ i → lt (at_ L k) (at_ L ((k - 1) / 2)) = false
  below : ∀ k, 0 < k → k < n → (k - 1) / 2 = i → s ≤ (i - 1) / 2 → 0 < i → lt (at_ L k) (at_ L ((i - 1) / 2)) = false
theorem Down.none {L : List α} {n s i : Nat} (h : Down lt L n s i) (hi : n ≤ 2 * i + 1) : HeapS lt L n s := fun k k0 k1 ks => h.rest k k0 k1 ks (by omega)
theorem Down.done {L : List α} {n s i : Nat} (h : Down lt L n s i) (hs : ∀ k, 0 < k → k < n → (k - 1) / 2 = i → lt (at_ L k) (at_ L i) = false) : HeapS lt L n s := fun k k0 k1 ks => by
  by_cases e : (k - 1) / 2 = i
  · rw [e]
    exact hs k k0 k1 e
  · exact h.rest k k0 k1 ks e
theorem Down.step (o : Ord lt) {L : List α} {n s i j : Nat} (h : Down lt L n s i) (hn : n ≤ L.length) (hj : j < n) (h0 : 0 < j) (hp : (j - 1) / 2 = i) (hl : lt (at_ L j) (at_ L i) = true)
    (hs : ∀ k, 0 < k → k < n → (k - 1) / 2 = i → lt (at_ L k) (at_ L j) = false) : Down lt (swp L i j) n s j := by
  have ha := fun k => at_swp (L := L) (i := i) (j := j) (k := k) (by omega) (by omega)
  constructor
  · intro k k0 k1 ks k2
    rw [ha, ha, if_neg k2]
    by_cases e : k = j
    · rw [if_pos e, if_pos (by omega)]
      exact o.weak _ _ hl
    · rw [if_neg e]
      by_cases q : k = i
      · rw [if_pos q, if_neg (by omega)]
        have := h.below j h0 hj hp (by rw [q] at ks; exact ks) (by omega)
        rw [q]
        exact this
      · rw [if_neg q]
        by_cases p : (k - 1) / 2 = i
        · rw [if_pos p]
          exact hs k k0 k1 p
        · rw [if_neg p]
          exact h.rest k k0 k1 ks p
  · intro k k0 k1 k2 ks k3
    have := h.rest k k0 k1 (by omega) (by omega)
    rw [ha, ha, if_neg (show k ≠ j by omega), if_neg (show k ≠ i by omega), if_neg (show (j - 1) / 2 ≠ j by omega), if_pos hp]
    rw [k2] at this
    exact this
/-- The last has come to the front: going down from there. -/
theorem Down.start {L : List α} {n : Nat} (h : Heap lt L (n + 1)) (hn : n < L.length) : Down lt (swp L 0 n) n 0 0 := by
  have ha := fun k => at_swp (L := L) (i := 0) (j := n) (k := k) (by omega) (by omega)
  constructor
  · intro k k0 k1 ks k2
    rw [ha, ha, if_neg (by omega), if_neg (by omega), if_neg (by omega), if_neg (by omega)]
    exact h k k0 (by omega)
  · intro k k0 k1 k2 ks k3
    omega
/-- One more at the front of those that are in order. -/
theorem Down.more {L : List α} {n s : Nat} (h : HeapS lt L n (s + 1)) : Down lt L n s s :=
  ⟨fun k k0 k1 ks k2 => h k k0 k1 (by omega), fun k k0 k1 k2 ks k3 => by omega⟩
end
end Go.Proofs.Ytahihhklijcghaa.Hp
