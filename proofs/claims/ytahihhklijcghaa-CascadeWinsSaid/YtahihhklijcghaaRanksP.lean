/-
  What CascadeRanks asks, plainly: sorted twice is sorted once; ranks.
-/
import Derived.Test.YtahihhklijcghaaSortsW
namespace Go.Proofs.Ytahihhklijcghaa
open Go.RowKit Go.Proofs.YtahihhklijcghaaW Go.Proofs.YtahihhklijcghaaW.PrintWords PCascadeSorts
set_option linter.unusedVariables false
set_option linter.unusedSimpArgs false
theorem insR_perm (x : S26) : ∀ r : List S26, (insR x r).Perm (x :: r)
  | [] => .refl _
  | y :: r => by
    unfold insR
    split
    · exact ((insR_perm x r).cons y).trans (.swap ..)
    · exact .refl _
theorem insR_sorted (x : S26) : ∀ {r : List S26}, r.Pairwise (fun a b => lessS a b = false) → (insR x r).Pairwise (fun a b => lessS a b = false)
  | [], _ => by simp [insR]
  | y :: r, h => by
    have h1 := List.pairwise_cons.1 h
    unfold insR
    split
    · next hl =>
      refine List.pairwise_cons.2 ⟨fun b hb => ?_, insR_sorted x h1.2⟩
      rcases List.mem_cons.1 ((insR_perm x r).subset hb) with rfl | hb
      · exact lessS_ord.weak _ _ hl
      · exact h1.1 b hb
    · next hl =>
      have hl : lessS x y = false := by simpa using hl
      refine List.pairwise_cons.2 ⟨fun b hb => ?_, h⟩
      rcases List.mem_cons.1 hb with rfl | hb
      · exact hl
      · exact lessS_ord.trans _ _ _ (h1.1 b hb) hl
theorem foldR_all : ∀ (N r : List S26), r.Pairwise (fun a b => lessS a b = false) → (N.foldl (fun r x => insR x r) r).Perm (N ++ r) ∧ (N.foldl (fun r x => insR x r) r).Pairwise (fun a b => lessS a b = false)
  | [], r, h => ⟨.refl _, h⟩
  | x :: N, r, h => by
    obtain ⟨h1, h2⟩ := foldR_all N (insR x r) (insR_sorted x h)
    exact ⟨h1.trans (((insR_perm x r).append_left N).trans List.perm_middle), h2⟩
/-- Sorted: none is less than one ahead. -/
def Sorted (l : List S26) : Prop := l.Pairwise (fun a b => lessS b a = false)
theorem sortE_sorted (l : List S26) : Sorted (sortE l) := by
  have := sortE_rev l []
  unfold sortE
  rw [this]
  exact List.pairwise_reverse.2 (foldR_all l [] .nil).2
theorem sortE_perm (l : List S26) : (sortE l).Perm l := by
  have := sortE_rev l []
  unfold sortE
  rw [this]
  refine (List.reverse_perm _).trans ?_
  have h := (foldR_all l [] .nil).1
  rw [List.append_nil] at h
  exact h
theorem sortE_idem_aux : ∀ (l R : List S26), Sorted (R ++ l) → l.foldl (fun R x => insE x R) R = R ++ l
  | [], R, _ => by simp
  | x :: l, R, h => by
    rw [List.foldl_cons]
    have e : insE x R = R ++ [x] := by
      rcases List.eq_nil_or_concat R with rfl | ⟨A, y, rfl⟩
      · rfl
      · rw [List.concat_eq_append] at *
        refine insE_not A ?_
        have := (List.pairwise_append.1 h).2.2 y (by simp) x (by simp)
        exact this
    rw [e, sortE_idem_aux l (R ++ [x]) (by rw [List.append_assoc]; exact h), List.append_assoc]
    rfl
theorem sortE_of_sorted {l : List S26} (h : Sorted l) : sortE l = l := by
  have := sortE_idem_aux l [] (by simpa using h)
  simpa [sortE] using this
theorem sortE_twice (l : List S26) : sortE (sortE l) = sortE l := sortE_of_sorted (sortE_sorted l)
/-- The entry, important or not. -/
def imp (x : S26) (b : Bool) : S26 := ⟨x.f0, x.f1, x.f2, b, x.f4, x.f5⟩
def known (a b : S26) : Prop := (1 ≤ a.f2 ∧ a.f2 ≤ 3) ∧ 1 ≤ b.f2 ∧ b.f2 ≤ 3
theorem rank_yes {a : S26} (h : 1 ≤ a.f2 ∧ a.f2 ≤ 3) : rankS (imp a true) = 7 - a.f2 := by
  unfold rankS imp
  rw [if_neg (by simp; omega), if_pos rfl]
  unfold wrap64
  simp
  omega
theorem rank_no {a : S26} (h : 1 ≤ a.f2 ∧ a.f2 ≤ 3) : rankS (imp a false) = a.f2 := by
  unfold rankS imp
  rw [if_neg (by simp; omega), if_neg (by simp)]
theorem rank_out {a : S26} (h : ¬ (1 ≤ a.f2 ∧ a.f2 ≤ 3)) (b : Bool) : rankS (imp a b) = 0 := by
  unfold rankS imp
  rw [if_pos (by simp; omega)]
theorem lessS_rank {a b : S26} (h : rankS a ≠ rankS b) : lessS a b = decide (rankS a < rankS b) := by
  unfold lessS
  rw [if_neg h]
theorem known_less {a b : S26} (h : known a b) : lessS (imp b false) (imp a true) = true ∧ lessS (imp a true) (imp b false) = false := by
  obtain ⟨h1, h2⟩ := h
  have e1 := rank_yes h1
  have e2 := rank_no h2
  rw [lessS_rank (by omega), lessS_rank (by omega), e1, e2]
  exact ⟨decide_eq_true (by omega), decide_eq_false (by omega)⟩
theorem known_turn {a b : S26} (h : known a b) (hne : a.f2 ≠ b.f2) : (lessS (imp a true) (imp b true) == lessS (imp a false) (imp b false)) = false := by
  obtain ⟨h1, h2⟩ := h
  have e1 := rank_yes h1
  have e2 := rank_yes h2
  have e3 := rank_no h1
  have e4 := rank_no h2
  rw [lessS_rank (by omega), lessS_rank (by omega), e1, e2, e3, e4]
  by_cases c : a.f2 < b.f2
  · rw [decide_eq_false (by omega), decide_eq_true c]
    rfl
  · rw [decide_eq_true (by omega), decide_eq_false c]
    rfl
end Go.Proofs.Ytahihhklijcghaa
