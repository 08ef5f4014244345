/-
  The order of entries and of numbered entries, plainly.
-/
import Derived.Test.YtahihhklijcghaaHp
import Derived.Test.YtahihhklijcghaaPile
namespace Go.Proofs.Ytahihhklijcghaa
open Go.RowKit Go.Proofs.YtahihhklijcghaaW.PrintWords PCascadeSorts
set_option linter.unusedVariables false
set_option linter.unusedSimpArgs false
section
variable {α : Type}
def lexK (k : α → Int) (lt : α → α → Bool) (a b : α) : Bool := if k a = k b then lt a b else decide (k a < k b)
theorem ord_none : Hp.Ord (fun _ _ : α => false) := ⟨fun _ _ _ _ _ => rfl, fun _ _ _ => rfl⟩
theorem lexK_ord {k : α → Int} {lt : α → α → Bool} (o : Hp.Ord lt) : Hp.Ord (lexK k lt) := by
  constructor
  · intro a b c h1 h2
    unfold lexK at *
    by_cases e1 : k b = k a <;> by_cases e2 : k c = k b
    · rw [if_pos e1] at h1
      rw [if_pos e2] at h2
      rw [if_pos (e2.trans e1)]
      exact o.trans _ _ _ h1 h2
    · rw [if_neg e2, decide_eq_false_iff_not] at h2
      rw [if_neg (by omega), decide_eq_false_iff_not]
      omega
    · rw [if_neg e1, decide_eq_false_iff_not] at h1
      rw [if_neg (by omega), decide_eq_false_iff_not]
      omega
    · rw [if_neg e1, decide_eq_false_iff_not] at h1
      rw [if_neg e2, decide_eq_false_iff_not] at h2
      rw [if_neg (by omega), decide_eq_false_iff_not]
      omega
  · intro a b h
    unfold lexK at *
    by_cases e : k a = k b
    · rw [if_pos e] at h
      rw [if_pos e.symm]
      exact o.weak _ _ h
    · rw [if_neg e, decide_eq_true_iff] at h
      rw [if_neg (by omega), decide_eq_false_iff_not]
      omega
end
theorem lessS_lex : lessS = lexK rankS (lexK (·.f4.f0) (lexK (·.f4.f1) (lexK (·.f4.f2) (lexK (·.f5) (fun _ _ => false))))) := by
  funext a b
  unfold lessS lexK sameSpec specLess
  by_cases h : rankS a = rankS b
  · rw [if_pos h, if_pos h]
    by_cases h0 : a.f4.f0 = b.f4.f0
    · rw [if_pos h0]
      by_cases h1 : a.f4.f1 = b.f4.f1
      · rw [if_pos h1]
        by_cases h2 : a.f4.f2 = b.f4.f2
        · rw [if_pos h2, if_neg (by simp [h0, h1, h2])]
          by_cases h3 : a.f5 = b.f5
          · rw [if_pos h3, decide_eq_false (by omega)]
            simp [h0, h1]
          · rw [if_neg h3]
            simp [h0, h1]
        · rw [if_neg h2, if_pos (by simp [h2]), if_pos h0, if_pos h1]
      · rw [if_neg h1, if_pos (by simp [h1]), if_pos h0, if_neg h1]
    · rw [if_neg h0, if_pos (by simp [h0]), if_neg h0]
  · rw [if_neg h, if_neg h]
theorem lessS_ord : Hp.Ord lessS := by
  rw [lessS_lex]
  exact lexK_ord (lexK_ord (lexK_ord (lexK_ord (lexK_ord ord_none))))
theorem lessS_self (a : S26) : lessS a a = false := by
  cases h : lessS a a with
  | false => rfl
  | true => exact absurd (lessS_ord.weak _ _ h) (by simp [h])
/-- Less than the middle one's follower. -/
theorem lessS_lt {a b c : S26} (h1 : lessS a b = true) (h2 : lessS c b = false) : lessS a c = true := by
  cases h : lessS a c with
  | true => rfl
  | false => exact absurd (lessS_ord.trans b c a h2 h) (by simp [h1])
theorem lessV_false {a b : It} : lessV a b = false ↔ lessS a.f0 b.f0 = false ∧ (b.f1 ≤ a.f1 ∨ lessS b.f0 a.f0 = true) := by
  unfold lessV
  cases lessS a.f0 b.f0 <;> cases lessS b.f0 a.f0 <;> simp
theorem lessV_ord : Hp.Ord lessV := by
  constructor
  · intro a b c h1 h2
    rw [lessV_false] at *
    obtain ⟨h1, k1⟩ := h1
    obtain ⟨h2, k2⟩ := h2
    refine ⟨lessS_ord.trans _ _ _ h1 h2, ?_⟩
    rcases k1 with k1 | k1
    · rcases k2 with k2 | k2
      · exact Or.inl (by omega)
      · right
        cases h : lessS a.f0 c.f0 with
        | true => rfl
        | false => exact absurd (lessS_ord.trans _ _ _ h h1) (by simp [k2])
    · exact Or.inr (lessS_lt k1 h2)
  · intro a b h
    have h' : ¬ lessV a b = false := by simp [h]
    rw [lessV_false] at h' ⊢
    cases e1 : lessS a.f0 b.f0 with
    | true => exact ⟨lessS_ord.weak _ _ e1, Or.inr rfl⟩
    | false =>
      cases e2 : lessS b.f0 a.f0 with
      | true => exact absurd ⟨e1, Or.inr e2⟩ h'
      | false =>
        refine ⟨rfl, Or.inl ?_⟩
        have : ¬ (b.f1 ≤ a.f1) := fun h => h' ⟨e1, Or.inl h⟩
        omega
theorem lessV_self (a : It) : lessV a a = false := by
  rw [lessV_false]
  exact ⟨lessS_self _, Or.inl (Int.le_refl _)⟩
end Go.Proofs.Ytahihhklijcghaa
