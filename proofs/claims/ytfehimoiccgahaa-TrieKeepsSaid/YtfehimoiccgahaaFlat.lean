/-
  What a trie has, rising.
-/
import Derived.Test.YtfehimoiccgahaaLives
namespace Go.Proofs.Ytfehimoiccgahaa
open Go.RowKit
set_option linter.unusedVariables false
set_option linter.unusedSimpArgs false
namespace Nd
variable {V : Type}
def own (f k : Nat) : Option (Nat × V) → List (Nat × V)
  | some x => [(f * 16 + k, x.2)]
  | none => []
def flat : Nd V → Nat → List (Nat × V)
  | nil, _ => []
  | node a d h s, f => (List.range 16).flatMap fun k => own f k (h k) ++ flat (d k) (f * 16 + k)
/-- The part of a branch. -/
def piece (t : Nd V) (f k : Nat) : List (Nat × V) := own f k (t.here k) ++ flat (t.down k) (f * 16 + k)
def upto (t : Nd V) (f n : Nat) : List (Nat × V) := (List.range n).flatMap (piece t f)
theorem flat_eq : ∀ (t : Nd V) (f : Nat), flat t f = upto t f 16
  | nil, f => by
    rw [flat, upto]
    symm
    rw [List.flatMap_eq_nil_iff]
    intro k _
    show own f k none ++ flat nil _ = []
    rw [flat]
    rfl
  | node a d h s, f => by rw [flat]; rfl
theorem upto_succ (t : Nd V) (f n : Nat) : upto t f (n + 1) = upto t f n ++ piece t f n := by
  unfold upto
  rw [List.range_succ, List.flatMap_append]
  simp
theorem upto_zero (t : Nd V) (f : Nat) : upto t f 0 = [] := rfl
theorem mem_upto {t : Nd V} {f n : Nat} {x : Nat × V} : x ∈ upto t f n ↔ ∃ k, k < n ∧ x ∈ piece t f k := by
  unfold upto
  rw [List.mem_flatMap]
  simp
theorem flat_mem : ∀ {r : Nat} {t : Nd V} {f m : Nat} {v : V}, Good r t → ((m, v) ∈ flat t f ↔ m / 16 ^ (r + 1) = f ∧ (look r t m).map Prod.snd = some v)
  | 0, t, f, m, v, hg => by
    rw [flat_eq, mem_upto]
    show _ ↔ _ ∧ ((t.here (dig 0 m)).map Prod.snd = some v)
    have hd : dig 0 m = m % 16 := by simp [dig]
    rw [hd]
    constructor
    · rintro ⟨k, hk, h⟩
      unfold piece at h
      rw [hg.1 k, flat, List.append_nil] at h
      cases hh : t.here k with
      | none => rw [hh] at h; cases h
      | some x =>
        rw [hh] at h
        have e := List.mem_singleton.1 h
        injection e with e1 e2
        have : m % 16 = k := by omega
        rw [this, hh]
        refine ⟨by simp; omega, by rw [e2]; rfl⟩
    · rintro ⟨h1, h2⟩
      refine ⟨m % 16, Nat.mod_lt _ (by decide), ?_⟩
      unfold piece
      cases hh : t.here (m % 16) with
      | none => rw [hh] at h2; cases h2
      | some x =>
        rw [hh] at h2
        injection h2 with h2
        refine List.mem_append_left _ (List.mem_singleton.2 ?_)
        rw [← h2]
        congr 1
        simp at h1
        omega
  | r + 1, t, f, m, v, hg => by
    rw [flat_eq, mem_upto]
    show _ ↔ _ ∧ ((look r (t.down (dig (r + 1) m)) m).map Prod.snd = some v)
    have hp : m / 16 ^ (r + 1 + 1) = m / 16 ^ (r + 1) / 16 := by rw [Nat.pow_succ, Nat.div_div_eq_div_mul]
    have hd : dig (r + 1) m = m / 16 ^ (r + 1) % 16 := rfl
    rw [hp, hd]
    generalize hq : m / 16 ^ (r + 1) = q
    constructor
    · rintro ⟨k, hk, h⟩
      unfold piece at h
      rw [hg.1 k] at h
      have h' : (m, v) ∈ flat (t.down k) (f * 16 + k) := h
      rw [flat_mem (hg.2.1 k).1, hq] at h'
      obtain ⟨h1, h2⟩ := h'
      have hk2 : q % 16 = k := by omega
      rw [hk2]
      exact ⟨by omega, h2⟩
    · rintro ⟨h1, h2⟩
      refine ⟨q % 16, Nat.mod_lt _ (by decide), ?_⟩
      unfold piece
      rw [hg.1]
      show (m, v) ∈ flat _ _
      rw [flat_mem (hg.2.1 _).1, hq]
      exact ⟨by omega, h2⟩
theorem piece_div {r : Nat} {t : Nd V} (hg : Good r t) {f k : Nat} (hk : k < 16) {x : Nat × V} (hx : x ∈ piece t f k) : x.1 / 16 ^ r = f * 16 + k := by
  unfold piece at hx
  cases r with
  | zero =>
    rw [hg.1 k, flat, List.append_nil] at hx
    cases hh : t.here k with
    | none => rw [hh] at hx; cases hx
    | some y =>
      rw [hh] at hx
      rw [List.mem_singleton.1 hx]
      simp
  | succ r =>
    rw [hg.1 k] at hx
    have hx : (x.1, x.2) ∈ flat (t.down k) (f * 16 + k) := hx
    exact ((flat_mem (hg.2.1 k).1).1 hx).1
theorem div_lt_of {a b d : Nat} (h : a / d < b / d) : a < b := Nat.lt_of_not_le fun hn => Nat.not_lt.2 (Nat.div_le_div_right hn) h
theorem flat_sorted : ∀ {r : Nat} {t : Nd V} {f : Nat}, Good r t → (flat t f).Pairwise (fun a b => a.1 < b.1) := by
  intro r
  induction r with
  | zero =>
    intro t f hg
    rw [flat_eq]
    unfold upto
    rw [List.pairwise_flatMap]
    refine ⟨fun k hk => ?_, ?_⟩
    · unfold piece
      rw [hg.1 k, flat, List.append_nil]
      cases t.here k with
      | none => exact List.Pairwise.nil
      | some x => exact List.pairwise_singleton _ _
    · refine List.pairwise_lt_range.imp_of_mem ?_
      intro i j hi hj hij x hx y hy
      have h1 := piece_div hg (List.mem_range.1 hi) hx
      have h2 := piece_div hg (List.mem_range.1 hj) hy
      exact div_lt_of (d := 16 ^ 0) (by rw [h1, h2]; omega)
  | succ r ih =>
    intro t f hg
    rw [flat_eq]
    unfold upto
    rw [List.pairwise_flatMap]
    refine ⟨fun k hk => ?_, ?_⟩
    · unfold piece
      rw [hg.1 k]
      exact ih (hg.2.1 k).1
    · refine List.pairwise_lt_range.imp_of_mem ?_
      intro i j hi hj hij x hx y hy
      have h1 := piece_div hg (List.mem_range.1 hi) hx
      have h2 := piece_div hg (List.mem_range.1 hj) hy
      exact div_lt_of (d := 16 ^ (r + 1)) (by rw [h1, h2]; omega)
theorem upto_length (t : Nd V) (f : Nat) : ∀ n, ((upto t f n).length : Int) = sum n (fun k => ((piece t f k).length : Int))
  | 0 => rfl
  | n + 1 => by
    rw [upto_succ, List.length_append, sum, ← upto_length t f n]
    omega
theorem own_length (f k : Nat) (o : Option (Nat × V)) : ((own f k o).length : Int) = one o := by cases o <;> rfl
theorem flat_length : ∀ {r : Nat} {t : Nd V} {f : Nat}, Good r t → ((flat t f).length : Int) = t.size
  | 0, t, f, hg => by
    rw [flat_eq, upto_length, hg.2]
    refine sum_congr 16 (fun k hk => ?_)
    unfold piece
    rw [hg.1 k, flat, List.append_nil, own_length]
  | r + 1, t, f, hg => by
    rw [flat_eq, upto_length, hg.2.2]
    refine sum_congr 16 (fun k hk => ?_)
    unfold piece
    rw [hg.1 k]
    exact flat_length (hg.2.1 k).1
/-- Two rising lists of the same members. -/
theorem sorted_eq : ∀ {l k : List (Nat × V)}, l.Pairwise (fun a b => a.1 < b.1) → k.Pairwise (fun a b => a.1 < b.1) → (∀ x, x ∈ l ↔ x ∈ k) → l = k
  | [], [], _, _, _ => rfl
  | [], b :: k, _, _, h => by have := (h b).2 (List.mem_cons_self ..); cases this
  | a :: l, [], _, _, h => by have := (h a).1 (List.mem_cons_self ..); cases this
  | a :: l, b :: k, hl, hk, h => by
    rw [List.pairwise_cons] at hl hk
    have hab : a = b := by
      rcases List.mem_cons.1 ((h a).1 (List.mem_cons_self ..)) with e | e
      · exact e
      · rcases List.mem_cons.1 ((h b).2 (List.mem_cons_self ..)) with e2 | e2
        · exact e2.symm
        · have h1 := hl.1 b e2
          have h2 := hk.1 a e
          omega
    subst hab
    congr 1
    refine sorted_eq hl.2 hk.2 (fun x => ⟨fun hx => ?_, fun hx => ?_⟩)
    · rcases List.mem_cons.1 ((h x).1 (List.mem_cons_of_mem _ hx)) with e | e
      · subst e
        exact absurd (hl.1 x hx) (Nat.lt_irrefl _)
      · exact e
    · rcases List.mem_cons.1 ((h x).2 (List.mem_cons_of_mem _ hx)) with e | e
      · subst e
        exact absurd (hk.1 x hx) (Nat.lt_irrefl _)
      · exact e
end Nd
end Go.Proofs.Ytfehimoiccgahaa
