/-
  Tries, plainly: how many nodes and numbers there are hangs on the numbers alone.
-/
import Derived.Test.YtfehimoiccgahaaNd
namespace Go.Proofs.Ytfehimoiccgahaa
set_option linter.unusedVariables false
set_option linter.unusedSimpArgs false
theorem sum_pos {f : Nat → Int} : ∀ n, (∀ k, k < n → 0 ≤ f k) → 0 < sum n f → ∃ k, k < n ∧ 0 < f k
  | 0, _, h => by simp [sum] at h
  | n + 1, hf, h => by
    rw [sum] at h
    by_cases e : 0 < f n
    · exact ⟨n, by omega, e⟩
    · obtain ⟨k, hk, hp⟩ := sum_pos n (fun k hk => hf k (by omega)) (by omega)
      exact ⟨k, by omega, hp⟩
namespace Nd
variable {V : Type}
theorem pow_pos (r : Nat) : 0 < 16 ^ r := Nat.pow_pos (by decide)
/-- A number with a given digit ahead of another one's. -/
def ahead (r k m : Nat) : Nat := m % 16 ^ (r + 1) + k * 16 ^ (r + 1)
theorem dig_mod {r i m : Nat} (h : i ≤ r) : dig i (m % 16 ^ (r + 1)) = dig i m := by
  unfold dig
  have e : 16 ^ (r + 1) = 16 ^ i * 16 ^ (r + 1 - i) := by rw [← Nat.pow_add]; congr 1; omega
  rw [e, Nat.mod_mul_right_div_self]
  have e2 : 16 ^ (r + 1 - i) = 16 * 16 ^ (r - i) := by rw [← Nat.pow_succ', Nat.succ_eq_add_one]; congr 1; omega
  rw [e2, Nat.mod_mul_right_mod]
theorem dig_ahead {r k m i : Nat} (h : i ≤ r) : dig i (ahead r k m) = dig i m := by
  rw [← dig_mod (m := ahead r k m) h, ← dig_mod (m := m) h]
  congr 1
  unfold ahead
  rw [Nat.add_mul_mod_self_right, Nat.mod_mod]
theorem dig_ahead_top {r k m : Nat} (hk : k < 16) : dig (r + 1) (ahead r k m) = k := by
  unfold dig ahead
  rw [Nat.add_mul_div_right _ _ (pow_pos _), Nat.div_eq_of_lt (Nat.mod_lt _ (pow_pos _)), Nat.zero_add, Nat.mod_eq_of_lt hk]
theorem look_same : ∀ {r : Nat} {t : Nd V} {m n : Nat}, same r m n → look r t m = look r t n
  | 0, t, m, n, h => by
    show t.here _ = t.here _
    rw [h 0 (Nat.le_refl _)]
  | r + 1, t, m, n, h => by
    show look r (t.down _) m = look r (t.down _) n
    rw [h (r + 1) (Nat.le_refl _)]
    exact look_same (fun i hi => h i (by omega))
theorem same_symm {r m n : Nat} (h : same r m n) : same r n m := fun i hi => (h i hi).symm
theorem same_trans {r m n p : Nat} (h : same r m n) (k : same r n p) : same r m p := fun i hi => (h i hi).trans (k i hi)
theorem same_eq {m n : Nat} (hm : m < 1048576) (hn : n < 1048576) (h : same 4 m n) : m = n := by
  have h0 := h 0 (by decide)
  have h1 := h 1 (by decide)
  have h2 := h 2 (by decide)
  have h3 := h 3 (by decide)
  have h4 := h 4 (by decide)
  simp only [dig, Nat.pow_zero, Nat.div_one, Nat.reducePow] at h0 h1 h2 h3 h4
  omega
theorem Good.has : ∀ {r : Nat} {t : Nd V}, Good r t → 0 < t.size → ∃ m, look r t m ≠ none
  | 0, t, h, hp => by
    rw [h.2] at hp
    obtain ⟨k, hk, h1⟩ := sum_pos 16 (fun k _ => one_nonneg _) hp
    refine ⟨k, ?_⟩
    show t.here (dig 0 k) ≠ none
    have e : dig 0 k = k := by simp only [dig, Nat.pow_zero, Nat.div_one]; exact Nat.mod_eq_of_lt hk
    rw [e]
    intro e2
    rw [e2] at h1
    exact absurd h1 (by rw [one_none]; decide)
  | r + 1, t, h, hp => by
    rw [h.2.2] at hp
    obtain ⟨k, hk, h1⟩ := sum_pos 16 (fun k _ => (h.2.1 k).1.nonneg) hp
    obtain ⟨m, hm⟩ := Good.has (h.2.1 k).1 h1
    refine ⟨ahead r k m, ?_⟩
    show look r (t.down (dig (r + 1) (ahead r k m))) (ahead r k m) ≠ none
    rw [dig_ahead_top hk, look_same (n := m) (fun i hi => dig_ahead hi)]
    exact hm
/-- These are the numbers that have something. -/
def Keys (r : Nat) (t : Nd V) (L : List Nat) : Prop := ∀ m, look r t m ≠ none ↔ ∃ x, x ∈ L ∧ same r m x
def pick (r k : Nat) (L : List Nat) : List Nat := L.filter fun x => dig r x == k
theorem Keys.down {r : Nat} {t : Nd V} {L : List Nat} (h : Keys (r + 1) t L) {k : Nat} (hk : k < 16) : Keys r (t.down k) (pick (r + 1) k L) := by
  intro m
  have hm := h (ahead r k m)
  have e : look (r + 1) t (ahead r k m) = look r (t.down k) m := by
    show look r (t.down (dig (r + 1) (ahead r k m))) (ahead r k m) = _
    rw [dig_ahead_top hk, look_same (n := m) (fun i hi => dig_ahead hi)]
  rw [e] at hm
  rw [hm]
  unfold pick
  constructor
  · rintro ⟨x, hx, hs⟩
    refine ⟨x, List.mem_filter.2 ⟨hx, ?_⟩, fun i hi => ?_⟩
    · rw [beq_iff_eq, ← hs (r + 1) (Nat.le_refl _), dig_ahead_top hk]
    · rw [← hs i (by omega), dig_ahead hi]
  · rintro ⟨x, hx, hs⟩
    obtain ⟨hx1, hx2⟩ := List.mem_filter.1 hx
    rw [beq_iff_eq] at hx2
    refine ⟨x, hx1, fun i hi => ?_⟩
    by_cases e : i = r + 1
    · subst e
      rw [dig_ahead_top hk, hx2]
    · rw [dig_ahead (by omega)]
      exact hs i (by omega)
theorem Keys.nil_iff {r : Nat} {t : Nd V} {L : List Nat} (hg : Good r t) (hp : Pos t) (h : Keys r t L) : t = nil ↔ L = [] := by
  constructor
  · intro e
    subst e
    cases L with
    | nil => rfl
    | cons x L => exact absurd (look_nil r x) ((h x).2 ⟨x, List.mem_cons_self, same_refl _ _⟩)
  · intro e
    subst e
    rcases hp with e | e
    · exact e
    · obtain ⟨m, hm⟩ := hg.has e
      obtain ⟨x, hx, _⟩ := (h m).1 hm
      simp at hx
/-- How many nodes these numbers want. -/
def nk : Nat → List Nat → Int
  | 0, _ => 1
  | r + 1, L => 1 + sum 16 (fun k => if pick (r + 1) k L = [] then 0 else nk r (pick (r + 1) k L))
/-- How many numbers these are. -/
def zk : Nat → List Nat → Int
  | 0, L => sum 16 (fun k => if pick 0 k L = [] then 0 else 1)
  | r + 1, L => sum 16 (fun k => if pick (r + 1) k L = [] then 0 else zk r (pick (r + 1) k L))
theorem nodes_eq : ∀ {r : Nat} {t : Nd V} {L : List Nat}, Good r t → t ≠ nil → Keys r t L → frsh nil t = nk r L
  | r, nil, L, _, h0, _ => absurd rfl h0
  | 0, node a d h s, L, hg, h0, hk => by
    rw [frsh, if_neg (fun e => by cases e), sum_zero 16 (fun k _ => by have := hg.1 k; rw [show d k = nil from this, frsh_nil])]
    rfl
  | r + 1, node a d h s, L, hg, h0, hk => by
    rw [frsh, if_neg (fun e => by cases e), nk]
    congr 1
    refine sum_congr 16 (fun k hk16 => ?_)
    have hd : Keys r (d k) (pick (r + 1) k L) := hk.down hk16
    have hg2 : Good r (d k) ∧ Pos (d k) := hg.2.1 k
    have hn := hd.nil_iff hg2.1 hg2.2
    by_cases e : pick (r + 1) k L = []
    · rw [if_pos e, hn.2 e, frsh_nil]
    · rw [if_neg e]
      exact nodes_eq hg2.1 (fun e2 => e (hn.1 e2)) hd
theorem size_eq : ∀ {r : Nat} {t : Nd V} {L : List Nat}, Good r t → Keys r t L → t.size = zk r L
  | 0, t, L, hg, hk => by
    rw [hg.2, zk]
    refine sum_congr 16 (fun k hk16 => ?_)
    have e : dig 0 k = k := by simp only [dig, Nat.pow_zero, Nat.div_one]; exact Nat.mod_eq_of_lt hk16
    have h := hk k
    have e2 : look 0 t k = t.here k := by show t.here (dig 0 k) = _; rw [e]
    rw [e2] at h
    by_cases e3 : pick 0 k L = []
    · rw [if_pos e3]
      have : t.here k = none := Classical.byContradiction fun hn => by
        obtain ⟨x, hx, hs⟩ := h.1 hn
        have : x ∈ pick 0 k L := List.mem_filter.2 ⟨hx, by rw [beq_iff_eq, ← hs 0 (Nat.le_refl _), e]⟩
        rw [e3] at this
        simp at this
      rw [this]
      rfl
    · rw [if_neg e3]
      have : t.here k ≠ none := h.2 (by
        cases hp : pick 0 k L with
        | nil => exact absurd hp e3
        | cons x l =>
          have hx : x ∈ pick 0 k L := by rw [hp]; exact List.mem_cons_self
          obtain ⟨hx1, hx2⟩ := List.mem_filter.1 hx
          rw [beq_iff_eq] at hx2
          exact ⟨x, hx1, fun i hi => by
            obtain rfl : i = 0 := by omega
            rw [e, hx2]⟩)
      cases hh : t.here k with
      | none => exact absurd hh this
      | some x => rfl
  | r + 1, t, L, hg, hk => by
    rw [hg.2.2, zk]
    refine sum_congr 16 (fun k hk16 => ?_)
    have hd := hk.down hk16
    by_cases e : pick (r + 1) k L = []
    · rw [if_pos e, (hd.nil_iff (hg.2.1 k).1 (hg.2.1 k).2).2 e]
      rfl
    · rw [if_neg e]
      exact size_eq (hg.2.1 k).1 hd
end Nd
end Go.Proofs.Ytfehimoiccgahaa
