/-
  What Sort gives is the document's Sort, in plain Lean.
-/
import Derived.Test.YtahihhklijcghaaRefS
namespace Go.Proofs.Ytahihhklijcghaa
open Go.RowKit Go.Proofs.YtahihhklijcghaaW Go.Proofs.YtahihhklijcghaaW.PrintWords PCascadeSorts
set_option linter.unusedVariables false
set_option linter.unusedSimpArgs false
theorem uniq {α : Type} {le : α → α → Prop} : ∀ {L M : List α}, L.Perm M → L.Pairwise le → M.Pairwise le → (∀ a ∈ L, ∀ b ∈ L, le a b → le b a → a = b) → L = M
  | [], M, h, _, _, _ => (List.nil_perm.1 h).symm
  | a :: L, M, h, hL, hM, anti => by
    match M, h, hM with
    | [], h, _ => exact absurd h.length_eq (by simp)
    | m :: M, h, hM =>
      have hm : m ∈ a :: L := h.symm.subset (List.mem_cons_self ..)
      have ha : a ∈ m :: M := h.subset (List.mem_cons_self ..)
      have e : a = m := by
        rcases List.mem_cons.1 hm with e | hm'
        · exact e.symm
        · rcases List.mem_cons.1 ha with e | ha'
          · exact e
          · exact anti a (List.mem_cons_self ..) m hm ((List.pairwise_cons.1 hL).1 m hm') ((List.pairwise_cons.1 hM).1 a ha')
      subst e
      rw [uniq (List.Perm.cons_inv h) (List.pairwise_cons.1 hL).2 (List.pairwise_cons.1 hM).2 (fun x hx y hy => anti x (List.mem_cons_of_mem _ hx) y (List.mem_cons_of_mem _ hy))]
/-- Insertion of numbered entries. -/
def insN (x : It) : List It → List It
  | [] => [x]
  | y :: r => if lessV x y = true then y :: insN x r else x :: y :: r
theorem insN_perm (x : It) : ∀ r : List It, (insN x r).Perm (x :: r)
  | [] => .refl _
  | y :: r => by
    unfold insN
    split
    · exact ((insN_perm x r).cons y).trans (.swap ..)
    · exact .refl _
theorem insN_sorted (x : It) : ∀ {r : List It}, r.Pairwise (fun a b => lessV a b = false) → (insN x r).Pairwise (fun a b => lessV a b = false)
  | [], _ => by simp [insN]
  | y :: r, h => by
    have h1 := List.pairwise_cons.1 h
    unfold insN
    split
    · next hl =>
      refine List.pairwise_cons.2 ⟨fun b hb => ?_, insN_sorted x h1.2⟩
      rcases List.mem_cons.1 ((insN_perm x r).subset hb) with rfl | hb
      · exact lessV_ord.weak _ _ hl
      · exact h1.1 b hb
    · next hl =>
      have hl : lessV x y = false := by simpa using hl
      refine List.pairwise_cons.2 ⟨fun b hb => ?_, h⟩
      rcases List.mem_cons.1 hb with rfl | hb
      · exact hl
      · exact lessV_ord.trans _ _ _ (h1.1 b hb) hl
theorem insN_ents {x : It} : ∀ {r : List It}, (∀ y ∈ r, y.f1 < x.f1) → ents (insN x r) = insR x.f0 (ents r)
  | [], _ => rfl
  | y :: r, h => by
    have e : lessV x y = lessS x.f0 y.f0 := by
      unfold lessV
      have := h y (List.mem_cons_self ..)
      rw [decide_eq_false (show ¬ x.f1 < y.f1 by omega)]
      simp
    unfold insN
    show _ = insR x.f0 (y.f0 :: ents r)
    unfold insR
    rw [e]
    split
    · show y.f0 :: ents (insN x r) = _
      rw [insN_ents (fun z hz => h z (List.mem_cons_of_mem _ hz))]
    · rfl
def sortN (N : List It) (r : List It) : List It := N.foldl (fun r x => insN x r) r
theorem sortN_all : ∀ (N r : List It), r.Pairwise (fun a b => lessV a b = false) → (sortN N r).Perm (N ++ r) ∧ (sortN N r).Pairwise (fun a b => lessV a b = false)
  | [], r, h => ⟨.refl _, h⟩
  | x :: N, r, h => by
    obtain ⟨h1, h2⟩ := sortN_all N (insN x r) (insN_sorted x h)
    exact ⟨h1.trans (((insN_perm x r).append_left N).trans List.perm_middle), h2⟩
theorem sortE_rev : ∀ (l R : List S26), l.foldl (fun R x => insE x R) R = (l.foldl (fun r x => insR x r) R.reverse).reverse
  | [], R => by simp
  | x :: l, R => by
    rw [List.foldl_cons, List.foldl_cons, sortE_rev l (insE x R)]
    unfold insE
    rw [List.reverse_reverse]
theorem sortN_ents : ∀ (l : List S26) (k : Nat) (r : List It), (∀ y ∈ r, y.f1 < (k : Int)) → ents (sortN (nums_ k l) r) = l.foldl (fun r x => insR x r) (ents r)
  | [], _, _, _ => rfl
  | x :: l, k, r, h => by
    show ents (sortN (nums_ (k + 1) l) (insN ⟨x, (k : Int)⟩ r)) = _
    rw [sortN_ents l (k + 1) _ (fun y hy => by
      rcases List.mem_cons.1 ((insN_perm _ r).subset hy) with rfl | hy
      · show (k : Int) < _
        omega
      · have := h y hy
        omega), insN_ents h, List.foldl_cons]
theorem nums_at : ∀ (k : Nat) (l : List S26), (nums_ k l).Pairwise (fun a b => a.f1 < b.f1) ∧ ∀ a ∈ nums_ k l, (k : Int) ≤ a.f1
  | _, [] => ⟨.nil, fun a h => by cases h⟩
  | k, x :: l => by
    obtain ⟨h1, h2⟩ := nums_at (k + 1) l
    refine ⟨List.pairwise_cons.2 ⟨fun b hb => ?_, h1⟩, fun a ha => ?_⟩
    · have := h2 b hb
      show (k : Int) < _
      omega
    · rcases List.mem_cons.1 ha with rfl | ha
      · exact Int.le_refl _
      · have := h2 a ha
        omega
theorem at_inj {N : List It} (h : N.Pairwise (fun a b => a.f1 < b.f1)) {a b : It} (ha : a ∈ N) (hb : b ∈ N) (e : a.f1 = b.f1) : a = b := by
  induction h with
  | nil => cases ha
  | cons h1 h2 ih =>
    rcases List.mem_cons.1 ha with e1 | ha1 <;> rcases List.mem_cons.1 hb with e2 | hb1
    · rw [e1, e2]
    · have := h1 _ hb1
      rw [← e1] at this
      omega
    · have := h1 _ ha1
      rw [← e2] at this
      omega
    · exact ih ha1 hb1
theorem Pops.ents_eq {l : List S26} {O : List It} (h : Pops (nums_ 0 l) O []) : ents O = sortE l := by
  obtain ⟨h1, h2⟩ := sortN_all (nums_ 0 l) [] .nil
  rw [List.append_nil] at h1
  have hp := h.perm
  rw [List.append_nil] at hp
  have e : O = (sortN (nums_ 0 l) []).reverse := by
    refine uniq (le := fun a b => lessV b a = false) (hp.trans (h1.symm.trans (List.reverse_perm _).symm)) h.sorted (List.pairwise_reverse.2 h2) ?_
    intro a ha b hb k1 k2
    rw [lessV_false] at k1 k2
    have e : a.f1 = b.f1 := by
      rcases k1 with ⟨k1, k3⟩
      rcases k2 with ⟨k2, k4⟩
      rw [k2] at k3
      rw [k1] at k4
      simp at k3 k4
      omega
    exact at_inj (nums_at 0 l).1 (hp.subset ha) (hp.subset hb) e
  rw [e]
  unfold ents
  rw [List.map_reverse]
  have := sortN_ents l 0 [] (fun y hy => by cases hy)
  unfold ents at this
  rw [this]
  exact (sortE_rev l []).symm
/-- What Sort gives, in the document's words. -/
theorem sorts_c {W : World} {A : Option Addr} {c : Nat} {l : List S26} (h : Kd.C k26 W A l.length l) (hn : l.length ≤ 100) :
    Calls Try.prog 17 #[.slice A l.length c] W fun e w' => ∃ v, e = .returned v ∧ Rw 26 w' W.heap.size v (sortE l) ∧ Below W.heap.size W w' :=
  (sort_c h hn).mono fun e w' ⟨v, O, he, hr, hp, hb⟩ => ⟨v, he, by rw [← hp.ents_eq]; exact hr, hb⟩
end Go.Proofs.Ytahihhklijcghaa
