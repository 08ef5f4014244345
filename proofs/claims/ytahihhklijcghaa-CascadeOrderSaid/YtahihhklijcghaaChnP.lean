/-
  The winner is the first of the Chain; what is sorted is in order.
-/
import Derived.Test.YtahihhklijcghaaChain
import Derived.Test.YtahihhklijcghaaRanksP
namespace Go.Proofs.Ytahihhklijcghaa
open Go.RowKit Go.Proofs.YtahihhklijcghaaW Go.Proofs.YtahihhklijcghaaW.PrintWords PCascadeSorts
set_option linter.unusedVariables false
set_option linter.unusedSimpArgs false
theorem snoc_ind {α : Type} {P : List α → Prop} (h0 : P []) (h1 : ∀ l x, P l → P (l ++ [x])) (l : List α) : P l := by
  have key : ∀ r : List α, P r.reverse := fun r => by
    induction r with
    | nil => exact h0
    | cons x r ih => rw [List.reverse_cons]; exact h1 _ _ ih
  have := key l.reverse
  rwa [List.reverse_reverse] at this
def firstW : List S26 → S26 × Bool
  | [] => (z26, false)
  | e :: _ => (e, true)
theorem win_chain (name : ByteArray) (l : List S26) : winS l name = firstW (chainE l name) := by
  refine snoc_ind (P := fun l => winS l name = firstW (chainE l name)) rfl (fun l x ih => ?_) l
  · rw [winS_snoc, ih]
    unfold chainE
    rw [List.filter_append]
    cases hx : ofN name x with
    | false =>
      have hne : ¬ x.f0.toList = name.toList := by
        intro e
        unfold ofN at hx
        rw [e] at hx
        simp at hx
      have : List.filter (ofN name) [x] = [] := by simp [hx]
      rw [this, List.append_nil]
      unfold winStep
      rw [if_neg (fun h => hne h.1)]
    | true =>
      have he : x.f0.toList = name.toList := by
        unfold ofN at hx
        simpa using hx
      have : List.filter (ofN name) [x] = [x] := by simp [hx]
      rw [this, sortE_snoc]
      generalize sortE (l.filter (ofN name)) = R
      rcases List.eq_nil_or_concat R with h0 | ⟨A, y, h0⟩
      · subst h0
        rw [insE_nil]
        unfold winStep
        simp [firstW, he]
      · rw [List.concat_eq_append] at h0
        subst h0
        cases hl : lessS x y with
        | true =>
          rw [insE_less A hl]
          unfold winStep
          simp [firstW, hl]
        | false =>
          rw [insE_not A hl]
          unfold winStep
          simp [firstW, hl, he]
theorem less_asym {a b : S26} (h : lessS a b = true) : lessS b a = false := lessS_ord.weak _ _ h
theorem less_trans {a b c : S26} (h1 : lessS a b = true) (h2 : lessS b c = true) : lessS a c = true := lessS_lt h1 (less_asym h2)
theorem sorted_at {l : List S26} (h : Sorted l) {i : Nat} (hi : i + 1 < l.length) : lessS (l[i + 1]) (l[i]'(by omega)) = false := by
  unfold Sorted at h
  rw [List.pairwise_iff_getElem] at h
  exact h i (i + 1) (by omega) hi (by omega)
end Go.Proofs.Ytahihhklijcghaa
