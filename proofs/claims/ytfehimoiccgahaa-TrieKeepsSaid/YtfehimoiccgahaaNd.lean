/-
  Tries, plainly: nodes with their places in memory; what another value for a number leaves.
-/
namespace Go.Proofs.Ytfehimoiccgahaa
set_option linter.unusedVariables false
set_option linter.unusedSimpArgs false
set_option linter.unusedSectionVars false

def sum (n : Nat) (f : Nat → Int) : Int := match n with
  | 0 => 0
  | n + 1 => sum n f + f n
theorem sum_congr {f g : Nat → Int} : ∀ n, (∀ k, k < n → f k = g k) → sum n f = sum n g
  | 0, _ => rfl
  | n + 1, h => by
    rw [sum, sum, sum_congr n (fun k hk => h k (by omega)), h n (by omega)]
theorem sum_zero {f : Nat → Int} : ∀ n, (∀ k, k < n → f k = 0) → sum n f = 0
  | 0, _ => rfl
  | n + 1, h => by rw [sum, sum_zero n (fun k hk => h k (by omega)), h n (by omega)]; rfl
theorem sum_nonneg {f : Nat → Int} : ∀ n, (∀ k, k < n → 0 ≤ f k) → 0 ≤ sum n f
  | 0, _ => Int.le_refl _
  | n + 1, h => by
    have a := sum_nonneg n (fun k hk => h k (by omega))
    have b := h n (by omega)
    rw [sum]
    omega
theorem sum_one {f : Nat → Int} {i : Nat} : ∀ n, (∀ k, k < n → 0 ≤ f k) → i < n → f i ≤ sum n f
  | 0, _, hi => by omega
  | n + 1, h, hi => by
    have a := sum_nonneg n (fun k hk => h k (by omega))
    have b := h n (by omega)
    rw [sum]
    by_cases e : i = n
    · subst e
      omega
    · have := sum_one (i := i) n (fun k hk => h k (by omega)) (by omega)
      omega
theorem sum_two {f : Nat → Int} {i j : Nat} : ∀ n, (∀ k, k < n → 0 ≤ f k) → i < n → j < n → i ≠ j → f i + f j ≤ sum n f
  | 0, _, hi, _, _ => by omega
  | n + 1, h, hi, hj, hne => by
    have b := h n (by omega)
    rw [sum]
    by_cases e : i = n
    · subst e
      have := sum_one (i := j) i (fun k hk => h k (by omega)) (by omega)
      omega
    · by_cases e2 : j = n
      · subst e2
        have := sum_one (i := i) j (fun k hk => h k (by omega)) (by omega)
        omega
      · have := sum_two (i := i) (j := j) n (fun k hk => h k (by omega)) (by omega) (by omega) hne
        omega
theorem sum_le {f : Nat → Int} {c : Int} : ∀ n : Nat, (∀ k, k < n → f k ≤ c) → sum n f ≤ n * c
  | 0, _ => by simp [sum]
  | n + 1, h => by
    have a := sum_le (f := f) (c := c) n (fun k hk => h k (by omega))
    have b := h n (by omega)
    rw [sum]
    have : ((n + 1 : Nat) : Int) * c = n * c + c := by rw [Int.natCast_add, Int.add_mul]; simp
    omega
def upd {α : Type} (f : Nat → α) (k : Nat) (x : α) : Nat → α := fun i => if i = k then x else f i
theorem upd_same {α : Type} (f : Nat → α) (k : Nat) (x : α) : upd f k x k = x := if_pos rfl
theorem upd_other {α : Type} (f : Nat → α) {k i : Nat} (x : α) (h : i ≠ k) : upd f k x i = f i := if_neg h
theorem sum_upd {f g : Nat → Int} {k : Nat} {d : Int} : ∀ n, (∀ i, i < n → i ≠ k → g i = f i) → g k = f k + d → k < n → sum n g = sum n f + d
  | 0, _, _, h => by omega
  | n + 1, h, he, hk => by
    rw [sum, sum]
    by_cases e : k = n
    · subst e
      rw [he, sum_congr (f := g) (g := f) k (fun i hi => h i (by omega) (by omega))]
      omega
    · rw [sum_upd (f := f) (g := g) (k := k) (d := d) n (fun i hi => h i (by omega)) he (by omega), h n (by omega) (Ne.symm e)]
      omega

inductive Nd (V : Type) where
  | nil : Nd V
  | node (a : Nat) (down : Nat → Nd V) (here : Nat → Option (Nat × V)) (size : Int) : Nd V
namespace Nd
variable {V : Type}
def down : Nd V → Nat → Nd V
  | nil, _ => nil
  | node _ d _ _, k => d k
def here : Nd V → Nat → Option (Nat × V)
  | nil, _ => none
  | node _ _ h _, k => h k
def size : Nd V → Int
  | nil => 0
  | node _ _ _ s => s
def adr : Nd V → Option Nat
  | nil => none
  | node a _ _ _ => some a
def dig (r n : Nat) : Nat := n / 16 ^ r % 16
theorem dig_lt (r n : Nat) : dig r n < 16 := Nat.mod_lt _ (by decide)
/-- What is there for a number, r levels above the last. -/
def look : Nat → Nd V → Nat → Option (Nat × V)
  | 0, t, n => t.here (dig 0 n)
  | r + 1, t, n => look r (t.down (dig (r + 1) n)) n
theorem look_nil : ∀ r n, look r (nil : Nd V) n = none
  | 0, _ => rfl
  | r + 1, n => look_nil r n
def Pos (t : Nd V) : Prop := t = nil ∨ 0 < t.size
def one (o : Option (Nat × V)) : Int := if o.isSome then 1 else 0
theorem one_none : one (none : Option (Nat × V)) = 0 := rfl
theorem one_some (x : Nat × V) : one (some x) = 1 := rfl
theorem one_nonneg (o : Option (Nat × V)) : 0 ≤ one o := by
  cases o with
  | none => exact Int.le_refl _
  | some x => show (0 : Int) ≤ 1; decide
def Good : Nat → Nd V → Prop
  | 0, t => (∀ k, t.down k = nil) ∧ t.size = sum 16 (fun k => one (t.here k))
  | r + 1, t => (∀ k, t.here k = none) ∧ (∀ k, Good r (t.down k) ∧ Pos (t.down k)) ∧ t.size = sum 16 (fun k => (t.down k).size)
theorem good_nil : ∀ r, Good r (nil : Nd V)
  | 0 => ⟨fun _ => rfl, (sum_zero 16 (fun _ _ => rfl)).symm⟩
  | r + 1 => ⟨fun _ => rfl, fun _ => ⟨good_nil r, Or.inl rfl⟩, (sum_zero 16 (fun _ _ => rfl)).symm⟩
theorem Good.nonneg : ∀ {r : Nat} {t : Nd V}, Good r t → 0 ≤ t.size
  | 0, t, h => by
    rw [h.2]
    exact sum_nonneg 16 (fun k _ => one_nonneg _)
  | r + 1, t, h => by
    rw [h.2.2]
    exact sum_nonneg 16 (fun k _ => (h.2.1 k).1.nonneg)
theorem Good.one_le : ∀ {r : Nat} {t : Nd V} {n : Nat}, Good r t → look r t n ≠ none → 1 ≤ t.size
  | 0, t, n, h, hl => by
    rw [h.2]
    have := sum_one (f := fun k => one (t.here k)) (i := dig 0 n) 16 (fun k _ => one_nonneg _) (dig_lt 0 n)
    have e : one (t.here (dig 0 n)) = 1 := by
      have hl' : t.here (dig 0 n) ≠ none := hl
      cases hh : t.here (dig 0 n) with
      | none => exact absurd hh hl'
      | some x => rfl
    simp only [e] at this
    exact this
  | r + 1, t, n, h, hl => by
    rw [h.2.2]
    have a := Good.one_le (n := n) (h.2.1 (dig (r + 1) n)).1 hl
    have := sum_one (f := fun k => (t.down k).size) (i := dig (r + 1) n) 16 (fun k _ => (h.2.1 k).1.nonneg) (dig_lt _ n)
    exact Int.le_trans a this
theorem Good.child {r : Nat} {t : Nd V} (h : Good (r + 1) t) {k : Nat} (hk : k < 16) : (t.down k).size ≤ t.size := by
  rw [h.2.2]
  exact sum_one (f := fun k => (t.down k).size) 16 (fun k _ => (h.2.1 k).1.nonneg) hk
/-- The numbers' last digits are the same. -/
def same (r m n : Nat) : Prop := ∀ i, i ≤ r → dig i m = dig i n
theorem Good.two_le : ∀ {r : Nat} {t : Nd V} {m n : Nat}, Good r t → look r t m ≠ none → look r t n ≠ none → ¬ same r m n → 2 ≤ t.size
  | 0, t, m, n, h, hm, hn, hs => by
    have hne : dig 0 m ≠ dig 0 n := fun e => hs (fun i hi => by
      obtain rfl : i = 0 := by omega
      exact e)
    rw [h.2]
    have := sum_two (f := fun k => one (t.here k)) (i := dig 0 m) (j := dig 0 n) 16 (fun k _ => one_nonneg _) (dig_lt 0 m) (dig_lt 0 n) hne
    have e : ∀ q, look 0 t q ≠ none → one (t.here (dig 0 q)) = 1 := fun q hl => by
      have hl' : t.here (dig 0 q) ≠ none := hl
      cases hh : t.here (dig 0 q) with
      | none => exact absurd hh hl'
      | some x => rfl
    simp only [e m hm, e n hn] at this
    exact this
  | r + 1, t, m, n, h, hm, hn, hs => by
    rw [h.2.2]
    by_cases hd : dig (r + 1) m = dig (r + 1) n
    · have hs2 : ¬ same r m n := fun k => hs (fun i hi => by
        by_cases e : i = r + 1
        · subst e
          exact hd
        · exact k i (by omega))
      have hm' : look r (t.down (dig (r + 1) n)) m ≠ none := by
        have : look r (t.down (dig (r + 1) m)) m ≠ none := hm
        rwa [hd] at this
      have a := Good.two_le (m := m) (n := n) (h.2.1 (dig (r + 1) n)).1 hm' hn hs2
      exact Int.le_trans a (sum_one (f := fun k => (t.down k).size) (i := dig (r + 1) n) 16 (fun k _ => (h.2.1 k).1.nonneg) (dig_lt _ n))
    · have a := Good.one_le (n := m) (h.2.1 (dig (r + 1) m)).1 hm
      have b := Good.one_le (n := n) (h.2.1 (dig (r + 1) n)).1 hn
      have := sum_two (f := fun k => (t.down k).size) (i := dig (r + 1) m) (j := dig (r + 1) n) 16 (fun k _ => (h.2.1 k).1.nonneg) (dig_lt _ m) (dig_lt _ n) hd
      omega
/-- With another value for a number: what lies at B or above is new. -/
def With (B n : Nat) (hv : Option (Nat × V)) (more : Int) : Nat → Nd V → Nd V → Prop
  | 0, t, u => (t.size + more = 0 ∧ u = nil) ∨ (t.size + more ≠ 0 ∧ ∃ a, B ≤ a ∧ u = node a t.down (upd t.here (dig 0 n) hv) (t.size + more))
  | r + 1, t, u => (t.size + more = 0 ∧ r + 1 < 4 ∧ u = nil) ∨ ((t.size + more ≠ 0 ∨ 4 ≤ r + 1) ∧ ∃ a x, B ≤ a ∧ With B n hv more r (t.down (dig (r + 1) n)) x ∧ u = node a (upd t.down (dig (r + 1) n) x) t.here (t.size + more))
theorem With.mono {B B' n : Nat} {hv : Option (Nat × V)} {more : Int} (hB : B' ≤ B) : ∀ {r : Nat} {t u : Nd V}, With B n hv more r t u → With B' n hv more r t u
  | 0, t, u, h => h.imp id (fun ⟨a, b, c, d⟩ => ⟨a, b, Nat.le_trans hB c, d⟩)
  | r + 1, t, u, h => h.imp id (fun ⟨a, b, x, c, d, e⟩ => ⟨a, b, x, Nat.le_trans hB c, With.mono hB d, e⟩)
theorem same_refl (r n : Nat) : same r n n := fun _ _ => rfl
instance (r m n : Nat) : Decidable (same r m n) := inferInstanceAs (Decidable (∀ i, i ≤ r → dig i m = dig i n))
/-- What is left of a node that goes. -/
theorem gone {r : Nat} {t : Nd V} {n : Nat} {hv : Option (Nat × V)} (h : Good r t) (h0 : t.size + (one hv - one (look r t n)) = 0) (m : Nat) : (if same r m n then hv else look r t m) = none := by
  have hn := h.nonneg
  cases hv with
  | some x =>
    rw [one_some] at h0
    cases hl : look r t n with
    | none => rw [hl, one_none] at h0; omega
    | some y =>
      have := h.one_le (n := n) (by rw [hl]; exact fun e => by cases e)
      rw [hl, one_some] at h0
      omega
  | none =>
    split
    · rfl
    · rename_i hs
      rw [one_none] at h0
      refine Classical.byContradiction fun hm => ?_
      cases hl : look r t n with
      | none =>
        have := h.one_le hm
        rw [hl, one_none] at h0
        omega
      | some y =>
        have := h.two_le hm (n := n) (by rw [hl]; exact fun e => by cases e) hs
        rw [hl, one_some] at h0
        omega
theorem With.spec {B n : Nat} {hv : Option (Nat × V)} {more : Int} : ∀ {r : Nat} {t u : Nd V}, With B n hv more r t u → Good r t → r ≤ 4 → more = one hv - one (look r t n) →
    Good r u ∧ (r < 4 → Pos u) ∧ u.size = t.size + more ∧ (∀ m, look r u m = if same r m n then hv else look r t m) ∧ (r = 4 → u ≠ nil)
  | 0, t, u, h, hg, h4, hm => by
    rcases h with ⟨h0, rfl⟩ | ⟨h0, a, ha, rfl⟩
    · refine ⟨good_nil 0, fun _ => Or.inl rfl, h0.symm, fun m => ?_, fun e => by cases e⟩
      rw [look_nil, gone hg (by rw [← hm]; exact h0)]
    · have hsz : t.size + more = sum 16 (fun k => one (upd t.here (dig 0 n) hv k)) := by
        rw [hg.2]
        refine (sum_upd (k := dig 0 n) (d := more) 16 (fun i _ hi => by rw [upd_other _ _ hi]) ?_ (dig_lt 0 n)).symm
        rw [upd_same, hm]
        show _ = one (look 0 t n) + _
        omega
      refine ⟨⟨hg.1, hsz⟩, fun _ => Or.inr ?_, rfl, fun m => ?_, fun e => by cases e⟩
      · have : 0 ≤ t.size + more := by rw [hsz]; exact sum_nonneg 16 (fun k _ => one_nonneg _)
        show 0 < t.size + more
        omega
      · show upd t.here (dig 0 n) hv (dig 0 m) = _
        by_cases hs : dig 0 m = dig 0 n
        · have hs2 : same 0 m n := fun i hi => by
            obtain rfl : i = 0 := by omega
            exact hs
          rw [hs, upd_same, if_pos hs2]
        · have hs3 : ¬ same 0 m n := fun k => hs (k 0 (Nat.le_refl _))
          rw [upd_other _ _ hs, if_neg hs3]
          rfl
  | r + 1, t, u, h, hg, h4, hm => by
    rcases h with ⟨h0, h1, rfl⟩ | ⟨h0, a, x, ha, hx, rfl⟩
    · refine ⟨good_nil (r + 1), fun _ => Or.inl rfl, h0.symm, fun m => ?_, fun e => by omega⟩
      rw [look_nil, gone hg (by rw [← hm]; exact h0)]
    · obtain ⟨g1, g2, g3, g4, _⟩ := With.spec hx (hg.2.1 _).1 (by omega) hm
      have hsz : t.size + more = sum 16 (fun k => (upd t.down (dig (r + 1) n) x k).size) := by
        rw [hg.2.2]
        refine (sum_upd (k := dig (r + 1) n) (d := more) 16 (fun i _ hi => by rw [upd_other _ _ hi]) ?_ (dig_lt _ n)).symm
        rw [upd_same, g3]
      have hnn : 0 ≤ t.size + more := by
        rw [hsz]
        refine sum_nonneg 16 (fun k _ => ?_)
        by_cases e : k = dig (r + 1) n
        · subst e
          rw [upd_same]
          exact g1.nonneg
        · rw [upd_other _ _ e]
          exact (hg.2.1 k).1.nonneg
      refine ⟨⟨hg.1, fun k => ?_, hsz⟩, fun hr => Or.inr ?_, rfl, fun m => ?_, fun _ e => by cases e⟩
      · show Good r (upd t.down (dig (r + 1) n) x k) ∧ Pos (upd t.down (dig (r + 1) n) x k)
        by_cases e : k = dig (r + 1) n
        · subst e
          rw [upd_same]
          exact ⟨g1, g2 (by omega)⟩
        · rw [upd_other _ _ e]
          exact hg.2.1 k
      · show 0 < t.size + more
        rcases h0 with h0 | h0 <;> omega
      · show look r (upd t.down (dig (r + 1) n) x (dig (r + 1) m)) m = _
        by_cases hs : dig (r + 1) m = dig (r + 1) n
        · rw [hs, upd_same, g4]
          by_cases hs2 : same r m n
          · have hs3 : same (r + 1) m n := fun i hi => by
              by_cases e : i = r + 1
              · subst e
                exact hs
              · exact hs2 i (by omega)
            rw [if_pos hs2, if_pos hs3]
          · have hs3 : ¬ same (r + 1) m n := fun k => hs2 (fun i hi => k i (by omega))
            rw [if_neg hs2, if_neg hs3]
            show _ = look r (t.down (dig (r + 1) m)) m
            rw [hs]
        · have hs3 : ¬ same (r + 1) m n := fun k => hs (k (r + 1) (Nat.le_refl _))
          rw [upd_other _ _ hs, if_neg hs3]
          rfl

/-! ### how many nodes, and how many are new -/
/-- fresh: the nodes from 'now' on that are not 'old''s. -/
def frsh (old : Nd V) : Nd V → Int
  | nil => 0
  | node a d h s => if old.adr = some a then 0 else 1 + sum 16 (fun k => frsh (old.down k) (d k))
theorem frsh_nil (o : Nd V) : frsh o nil = 0 := by rw [frsh]
theorem frsh_self : ∀ t : Nd V, frsh t t = 0
  | nil => frsh_nil _
  | node a d h s => by
    rw [frsh]
    exact if_pos rfl
theorem frsh_nonneg : ∀ (t o : Nd V), 0 ≤ frsh o t
  | nil, o => by rw [frsh_nil]; exact Int.le_refl _
  | node a d h s, o => by
    rw [frsh]
    split
    · exact Int.le_refl _
    · have := sum_nonneg (f := fun k => frsh (o.down k) (d k)) 16 (fun k _ => frsh_nonneg (d k) _)
      omega
/-- The most nodes r levels above the last. -/
def most : Nat → Int
  | 0 => 1
  | r + 1 => 1 + 16 * most r
theorem frsh_most : ∀ {r : Nat} {t o : Nd V}, Good r t → frsh o t ≤ most r
  | 0, nil, o, _ => by rw [frsh_nil]; decide
  | 0, node a d h s, o, hg => by
    rw [frsh]
    split
    · decide
    · rw [sum_zero (f := fun k => frsh (o.down k) (d k)) 16 (fun k _ => by have := hg.1 k; rw [show d k = nil from this, frsh_nil])]
      decide
  | r + 1, nil, o, _ => by
    rw [frsh_nil, most]
    have : 0 ≤ most r := by
      have := frsh_most (r := r) (t := nil) (o := nil) (good_nil (V := V) r)
      rwa [frsh_nil] at this
    omega
  | r + 1, node a d h s, o, hg => by
    have hm : 0 ≤ most r := by
      have := frsh_most (r := r) (t := nil) (o := nil) (good_nil (V := V) r)
      rwa [frsh_nil] at this
    rw [frsh, most]
    split
    · omega
    · have := sum_le (f := fun k => frsh (o.down k) (d k)) (c := most r) 16 (fun k _ => frsh_most (hg.2.1 k).1)
      simp only [Int.cast_ofNat_Int] at this
      omega
/-- All of a node's places lie below. -/
def Under (B : Nat) : Nd V → Prop
  | nil => True
  | node a d h s => a < B ∧ ∀ k, k < 16 → Under B (d k)
theorem Under.down {B : Nat} {t : Nd V} (h : Under B t) {k : Nat} (hk : k < 16) : Under B (t.down k) := by
  cases t with
  | nil => trivial
  | node a d h2 s => exact h.2 k hk
/-- Of what is like another one but for one number, no more nodes are new than levels. -/
theorem With.fresh {B n : Nat} {hv : Option (Nat × V)} {more : Int} : ∀ {r : Nat} {t u : Nd V}, With B n hv more r t u → Under B t → Good r t → frsh t u ≤ r + 1
  | 0, t, u, h, ht, hg => by
    rcases h with ⟨h0, rfl⟩ | ⟨h0, a, ha, rfl⟩
    · rw [frsh_nil]; decide
    · rw [frsh]
      split
      · decide
      · rw [sum_zero (f := fun k => frsh (t.down k) (t.down k)) 16 (fun k _ => frsh_self _)]
        decide
  | r + 1, t, u, h, ht, hg => by
    rcases h with ⟨h0, h1, rfl⟩ | ⟨h0, a, x, ha, hx, rfl⟩
    · rw [frsh_nil]; omega
    · have ih := With.fresh hx (ht.down (dig_lt _ n)) (hg.2.1 _).1
      rw [frsh]
      split
      · omega
      · have hs := sum_upd (f := fun _ => (0 : Int)) (g := fun k => frsh (t.down k) (upd t.down (dig (r + 1) n) x k)) (k := dig (r + 1) n) (d := frsh (t.down (dig (r + 1) n)) x) 16 (fun i _ hi => by
          show frsh (t.down i) (upd t.down (dig (r + 1) n) x i) = 0
          rw [upd_other _ _ hi, frsh_self]) (by show frsh _ (upd t.down _ x _) = _; rw [upd_same]; omega) (dig_lt _ n)
        rw [hs, sum_zero 16 (fun _ _ => rfl)]
        omega
/-- If none goes, there are just as many as levels. -/
theorem With.five {B n : Nat} {hv : Option (Nat × V)} {more : Int} : ∀ {r : Nat} {t u : Nd V}, With B n hv more r t u → Under B t → Good r t → r ≤ 4 → more = one hv - one (look r t n) → hv.isSome = true → frsh t u = r + 1
  | 0, t, u, h, ht, hg, h4, hm, hsm => by
    rcases h with ⟨h0, rfl⟩ | ⟨h0, a, ha, rfl⟩
    · exfalso
      have := gone hg (hv := hv) (by rw [← hm]; exact h0) n
      rw [if_pos (same_refl _ _)] at this
      rw [this] at hsm
      cases hsm
    · rw [frsh, if_neg]
      · rw [sum_zero (f := fun k => frsh (t.down k) (t.down k)) 16 (fun k _ => frsh_self _)]
        rfl
      · intro e
        cases t with
        | nil => cases e
        | node b d h2 s =>
          injection e with e
          have := ht.1
          omega
  | r + 1, t, u, h, ht, hg, h4, hm, hsm => by
    rcases h with ⟨h0, h1, rfl⟩ | ⟨h0, a, x, ha, hx, rfl⟩
    · exfalso
      have := gone hg (hv := hv) (by rw [← hm]; exact h0) n
      rw [if_pos (same_refl _ _)] at this
      rw [this] at hsm
      cases hsm
    · have ih := With.five hx (ht.down (dig_lt _ n)) (hg.2.1 _).1 (by omega) hm hsm
      rw [frsh, if_neg]
      · have hs := sum_upd (f := fun _ => (0 : Int)) (g := fun k => frsh (t.down k) (upd t.down (dig (r + 1) n) x k)) (k := dig (r + 1) n) (d := frsh (t.down (dig (r + 1) n)) x) 16 (fun i _ hi => by
          show frsh (t.down i) (upd t.down (dig (r + 1) n) x i) = 0
          rw [upd_other _ _ hi, frsh_self]) (by show frsh _ (upd t.down _ x _) = _; rw [upd_same]; omega) (dig_lt _ n)
        rw [hs, sum_zero 16 (fun _ _ => rfl), ih]
        omega
      · intro e
        cases t with
        | nil => cases e
        | node b d h2 s =>
          injection e with e
          have := ht.1
          omega
end Nd
end Go.Proofs.Ytfehimoiccgahaa
