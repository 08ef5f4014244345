/-
  What Winner, Less, light and lives of package cascade come to, in plain Lean.
-/
import Derived.Test.YtahihhklijcghaaPCascadeSortsx4
namespace Go.Proofs.Ytahihhklijcghaa.PCascadeSorts
open Go.RowKit Go.Proofs.YtahihhklijcghaaW.PrintWords
set_option linter.unusedVariables false

def rankS (e : S26) : Int := if e.f2 < 1 ∨ e.f2 > 3 then 0 else if e.f3 = true then wrap64 (7 - e.f2) else e.f2
theorem rank_f (e : S26) (k : Nat) : cascade_Rank.f (k + 1) e.f0 e.f1 e.f2 e.f3 e.f4.f0 e.f4.f1 e.f4.f2 e.f5 = some (rankS e) := by
  unfold cascade_Rank.f rankS
  rw [cascade_Rank.j0, cascade_Rank.j0]
  by_cases h1 : e.f2 < 1
  · rw [if_pos h1, if_pos rfl, if_pos (Or.inl h1)]
  · rw [if_neg h1]
    by_cases h2 : e.f2 > 3
    · rw [if_pos (decide_eq_true h2), if_pos (Or.inr h2)]
    · have h3 : ¬ (e.f2 < 1 ∨ e.f2 > 3) := by omega
      rw [if_neg (by simp only [decide_eq_true_eq]; exact h2), if_neg h3]
      by_cases h4 : e.f3 = true
      · rw [if_pos h4, if_pos h4]
      · rw [if_neg h4, if_neg h4]
def specLess (a b : S24) : Bool := if a.f0 = b.f0 then (if a.f1 = b.f1 then decide (a.f2 < b.f2) else decide (a.f1 < b.f1)) else decide (a.f0 < b.f0)
def sameSpec (a b : S24) : Bool := a.f0 == b.f0 && (a.f1 == b.f1 && a.f2 == b.f2)
def lessS (a b : S26) : Bool := if rankS a = rankS b then (if sameSpec a.f4 b.f4 = false then specLess a.f4 b.f4 else decide (a.f5 < b.f5)) else decide (rankS a < rankS b)
theorem less_f (a b : S26) (k : Nat) : cascade_Less.f (k + 1) a.f0 a.f1 a.f2 a.f3 a.f4.f0 a.f4.f1 a.f4.f2 a.f5 b.f0 b.f1 b.f2 b.f3 b.f4.f0 b.f4.f1 b.f4.f2 b.f5 = some (lessS a b) := by
  unfold cascade_Less.f lessS
  rw [rank_f, Option.bind_some, rank_f, Option.bind_some]
  by_cases h : rankS a = rankS b
  · rw [if_pos h, if_pos h]
    have e : ((!(a.f4.f0 == b.f4.f0) || (!(a.f4.f1 == b.f4.f1) || (!(a.f4.f2 == b.f4.f2)))) = true) = (sameSpec a.f4 b.f4 = false) := by
      unfold sameSpec
      rw [← Bool.not_and, ← Bool.not_and, Bool.not_eq_true']
    simp only [e]
    by_cases h2 : sameSpec a.f4 b.f4 = false
    · rw [if_pos h2, if_pos h2]
      unfold selector_Less.f specLess
      split
      · split <;> rfl
      · rfl
    · rw [if_neg h2, if_neg h2]
  · rw [if_neg h, if_neg h]

theorem less_g (a b : S26) (k : Nat) (hk : 1 ≤ k) : cascade_Less.f k a.f0 a.f1 a.f2 a.f3 a.f4.f0 a.f4.f1 a.f4.f2 a.f5 b.f0 b.f1 b.f2 b.f3 b.f4.f0 b.f4.f1 b.f4.f2 b.f5 = some (lessS a b) := by
  obtain ⟨k, rfl⟩ : ∃ m, k = m + 1 := ⟨k - 1, by omega⟩
  exact less_f a b k

/-- One entry more. -/
def winStep (name : ByteArray) (s : S26 × Bool) (e : S26) : S26 × Bool := if e.f0.toList = name.toList ∧ (s.2 = false ∨ lessS e s.1 = false) then (e, true) else s
def winS (l : List S26) (name : ByteArray) : S26 × Bool := l.foldl (winStep name) (z26, false)
theorem winS_snoc (l : List S26) (e : S26) (name : ByteArray) : winS (l ++ [e]) name = winStep name (winS l name) e := by simp [winS]

theorem wrap_next {i : Int} {n : Nat} (h0 : 0 ≤ i) (h : i < (n : Int)) (hn : n ≤ 1759218604441) : wrap64 (i + 1) = i + 1 := by
  unfold wrap64
  omega
theorem rd_at (l : List S26) (i : Nat) (h : i < l.length) : rd_T26 l (i : Int) = l[i] := by
  unfold rd_T26
  rw [Int.toNat_natCast, List.getD_eq_getElem?_getD, List.getElem?_eq_getElem h]
  rfl

theorem win_l0 (name : ByteArray) (l : List S26) (hn : l.length ≤ 1759218604441) (d : Nat) : ∀ (k i : Nat) (b : S26) (f : Bool), i + d = l.length → d + 1 < k →
    cascade_Winner.l0 k name f l (l.length : Int) (i : Int) b.f0 b.f1 b.f2 b.f3 b.f4.f0 b.f4.f1 b.f4.f2 b.f5 =
      some (((l.drop i).foldl (winStep name) (b, f)).1.f0, ((l.drop i).foldl (winStep name) (b, f)).1.f1, ((l.drop i).foldl (winStep name) (b, f)).1.f2, ((l.drop i).foldl (winStep name) (b, f)).1.f3, ((l.drop i).foldl (winStep name) (b, f)).1.f4.f0, ((l.drop i).foldl (winStep name) (b, f)).1.f4.f1, ((l.drop i).foldl (winStep name) (b, f)).1.f4.f2, ((l.drop i).foldl (winStep name) (b, f)).1.f5, ((l.drop i).foldl (winStep name) (b, f)).2) := by
  induction d with
  | zero =>
    intro k i b f hi hk
    obtain ⟨k, rfl⟩ : ∃ m, k = m + 1 := ⟨k - 1, by omega⟩
    simp only [cascade_Winner.l0]
    rw [if_neg (by omega), List.drop_of_length_le (by omega)]
    rfl
  | succ d ih =>
    intro k i b f hi hk
    obtain ⟨k, rfl⟩ : ∃ m, k = m + 1 := ⟨k - 1, by omega⟩
    have hlt : i < l.length := by omega
    have hw : wrap64 ((i : Int) + 1) = ((i + 1 : Nat) : Int) := by rw [wrap_next (n := l.length) (by omega) (by omega) hn]; omega
    rw [List.drop_eq_getElem_cons hlt, List.foldl_cons]
    simp only [cascade_Winner.l0]
    rw [if_pos (by omega), if_pos (by omega), if_pos (by omega), rd_at l i hlt, hw]
    generalize l[i] = e
    by_cases h1 : e.f0.toList = name.toList
    · rw [if_pos h1]
      cases f with
      | true =>
        rw [if_pos rfl, less_g e b k (by omega), Option.bind_some]
        by_cases h2 : lessS e b = true
        · rw [if_pos h2, ih k (i + 1) b true (by omega) (by omega)]
          have e1 : winStep name (b, true) e = (b, true) := by unfold winStep; rw [if_neg (by simp [h2])]
          rw [e1]
        · rw [if_neg h2, ih k (i + 1) e true (by omega) (by omega)]
          have e1 : winStep name (b, true) e = (e, true) := by unfold winStep; rw [if_pos ⟨h1, Or.inr (by simpa using h2)⟩]
          rw [e1]
      | false =>
        rw [if_neg (by decide), ih k (i + 1) e true (by omega) (by omega)]
        have e1 : winStep name (b, false) e = (e, true) := by unfold winStep; rw [if_pos ⟨h1, Or.inl rfl⟩]
        rw [e1]
    · rw [if_neg h1, ih k (i + 1) b f (by omega) (by omega)]
      have e1 : winStep name (b, f) e = (b, f) := by unfold winStep; rw [if_neg (fun h => h1 h.1)]
      rw [e1]
theorem win_f (name : ByteArray) (l : List S26) (hn : l.length ≤ 1759218604441) (k : Nat) (hk : l.length + 1 < k) :
    cascade_Winner.f k l name = some ((winS l name).1.f0, (winS l name).1.f1, (winS l name).1.f2, (winS l name).1.f3, (winS l name).1.f4.f0, (winS l name).1.f4.f1, (winS l name).1.f4.f2, (winS l name).1.f5, (winS l name).2) :=
  win_l0 name l hn l.length k 0 z26 false (by omega) hk

theorem light_l0 (l : List S26) (hn : l.length ≤ 1759218604441) (d : Nat) : ∀ (k i : Nat) (n : Int), i + d = l.length → d < k → ∃ r, gouachelaw17_light.l0 k n l (l.length : Int) (i : Int) = some r := by
  induction d with
  | zero =>
    intro k i n hi hk
    obtain ⟨k, rfl⟩ : ∃ m, k = m + 1 := ⟨k - 1, by omega⟩
    simp only [gouachelaw17_light.l0]
    rw [if_neg (by omega)]
    exact ⟨_, rfl⟩
  | succ d ih =>
    intro k i n hi hk
    obtain ⟨k, rfl⟩ : ∃ m, k = m + 1 := ⟨k - 1, by omega⟩
    have hw : wrap64 ((i : Int) + 1) = ((i + 1 : Nat) : Int) := by rw [wrap_next (n := l.length) (by omega) (by omega) hn]; omega
    simp only [gouachelaw17_light.l0]
    rw [if_pos (by omega), if_pos (by omega), if_pos (by omega), hw]
    split
    · exact ⟨_, rfl⟩
    · exact ih k (i + 1) _ (by omega) (by omega)
theorem light_f (l : List S26) (hn : l.length ≤ 1759218604441) (k : Nat) (hk : l.length < k) : ∃ r, gouachelaw17_light.f k l = some r := light_l0 l hn l.length k 0 0 (by omega) hk
theorem lives_f (k : Nat) (hk : 9 ≤ k) : gouachelaw17_lives.f k = some true := at_rounds gouachelaw17_lives.mono hk (by decide +kernel)

/-! ### the calls -/
/-- An entry as a value. -/
abbrev ev (x : S26) : Value := .agg #[.string x.f0, .string x.f1, .int .i64 x.f2, .bool x.f3, .int .i64 x.f4.f0, .int .i64 x.f4.f1, .int .i64 x.f4.f2, .int .i64 x.f5]
theorem less_c (a b : S26) (W : World) : Calls Try.prog 11 #[ev a, ev b] W fun e w' => e = .returned (.bool (lessS a b)) ∧ Below W.heap.size W w' :=
  cascade_Less.calls 1 _ _ _ _ _ _ _ _ _ _ _ _ _ _ _ _ _ W (less_f a b 0)
theorem rank_c (a : S26) (W : World) : Calls Try.prog 12 #[ev a] W fun e w' => e = .returned (.int .i64 (rankS a)) ∧ Below W.heap.size W w' :=
  cascade_Rank.calls 1 _ _ _ _ _ _ _ _ _ W (rank_f a 0)
theorem lives_c (W : World) : Calls Try.prog 9 #[] W fun e w' => e = .returned (.bool true) ∧ Below W.heap.size W w' :=
  gouachelaw17_lives.calls 9 true W (lives_f 9 (by decide))
end Go.Proofs.Ytahihhklijcghaa.PCascadeSorts
