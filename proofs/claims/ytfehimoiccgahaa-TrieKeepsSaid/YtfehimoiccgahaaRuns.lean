/-
  How many nodes there are, by runs in the rising pairs (plain).
-/
import Derived.Test.YtfehimoiccgahaaRefT
namespace Go.Proofs.Ytfehimoiccgahaa
open Go.RowKit
set_option linter.unusedVariables false
set_option linter.unusedSimpArgs false
namespace Nd
variable {V : Type}
theorem sum_add {f g : Nat → Int} : ∀ n, sum n (fun k => f k + g k) = sum n f + sum n g
  | 0 => rfl
  | n + 1 => by
    rw [sum, sum, sum, sum_add n]
    omega
/-- How often the front changes. -/
def runs (q : Nat) (last : Int) : List (Nat × V) → Int
  | [] => 0
  | x :: r => if ((x.1 / 16 ^ q : Nat) : Int) = last then runs q last r else 1 + runs q ((x.1 / 16 ^ q : Nat) : Int) r
def endl (q : Nat) (last : Int) : List (Nat × V) → Int
  | [] => last
  | x :: r => endl q ((x.1 / 16 ^ q : Nat) : Int) r
theorem runs_append (q : Nat) : ∀ (a b : List (Nat × V)) (last : Int), runs q last (a ++ b) = runs q last a + runs q (endl q last a) b
  | [], b, last => by simp [runs, endl]
  | x :: a, b, last => by
    rw [List.cons_append, runs, runs, endl]
    split
    · rename_i h
      rw [runs_append q a b last, h]
    · rw [runs_append q a b]
      omega
theorem endl_append (q : Nat) : ∀ (a b : List (Nat × V)) (last : Int), endl q last (a ++ b) = endl q (endl q last a) b
  | [], b, last => rfl
  | x :: a, b, last => by rw [List.cons_append, endl, endl, endl_append q a b]
theorem endl_or (q : Nat) : ∀ (a : List (Nat × V)) (last : Int), endl q last a = last ∨ ∃ x, x ∈ a ∧ endl q last a = ((x.1 / 16 ^ q : Nat) : Int)
  | [], last => .inl rfl
  | x :: a, last => by
    right
    rw [endl]
    rcases endl_or q a ((x.1 / 16 ^ q : Nat) : Int) with h | ⟨y, hy, h⟩
    · exact ⟨x, List.mem_cons_self .., h⟩
    · exact ⟨y, List.mem_cons_of_mem _ hy, h⟩
theorem runs_const (q c : Nat) : ∀ (l : List (Nat × V)), (∀ x, x ∈ l → x.1 / 16 ^ q = c) → runs q (c : Int) l = 0
  | [], _ => rfl
  | x :: l, h => by
    rw [runs, if_pos (by rw [h x (List.mem_cons_self ..)])]
    exact runs_const q c l (fun y hy => h y (List.mem_cons_of_mem _ hy))
theorem runs_one (q c : Nat) {last : Int} {l : List (Nat × V)} (hl : l ≠ []) (h : ∀ x, x ∈ l → x.1 / 16 ^ q = c) (hc : (c : Int) ≠ last) : runs q last l = 1 := by
  cases l with
  | nil => exact absurd rfl hl
  | cons x l =>
    have hx := h x (List.mem_cons_self ..)
    rw [runs, hx, if_neg hc, runs_const q c l (fun y hy => h y (List.mem_cons_of_mem _ hy))]
    rfl
theorem div_up {a b q r : Nat} (hq : q ≤ r) (h : a / 16 ^ q = b / 16 ^ q) : a / 16 ^ r = b / 16 ^ r := by
  have e : 16 ^ r = 16 ^ q * 16 ^ (r - q) := by rw [← Nat.pow_add]; congr 1; omega
  rw [e, ← Nat.div_div_eq_div_mul, ← Nat.div_div_eq_div_mul, h]
theorem runs_sum : ∀ (r : Nat) (t : Nd V) (f : Nat) (last : Nat → Int), Good r t → t ≠ nil → (∀ q, q < r → ∀ x, x ∈ flat t f → ((x.1 / 16 ^ (q + 1) : Nat) : Int) ≠ last q) →
    sum r (fun q => runs (q + 1) (last q) (flat t f)) = frsh nil t - 1
  | 0, nil, f, last, _, h0, _ => absurd rfl h0
  | r + 1, nil, f, last, _, h0, _ => absurd rfl h0
  | 0, node a d h s, f, last, hg, h0, _ => by
    rw [frsh, if_neg (fun e => by cases e), sum_zero 16 (fun k _ => by have := hg.1 k; rw [show d k = nil from this, frsh_nil])]
    rfl
  | r + 1, node a d h s, f, last, hg, h0, hl => by
    have key : ∀ n, n ≤ 16 → sum (r + 1) (fun q => runs (q + 1) (last q) (upto (node a d h s) f n)) = sum n (fun k => frsh nil (d k)) := by
      intro n
      induction n with
      | zero => exact fun _ => sum_zero _ (fun _ _ => rfl)
      | succ n ih =>
        intro hn
        have hp : piece (node a d h s) f n = flat (d n) (f * 16 + n) := by
          unfold piece
          rw [hg.1 n]
          rfl
        have hin : ∀ x, x ∈ flat (d n) (f * 16 + n) → x ∈ flat (node a d h s) f := fun x hx => by
          rw [flat_eq, mem_upto]
          exact ⟨n, by omega, by rw [hp]; exact hx⟩
        have hdv : ∀ x, x ∈ flat (d n) (f * 16 + n) → x.1 / 16 ^ (r + 1) = f * 16 + n := fun x hx => piece_div hg (k := n) (by omega) (by rw [hp]; exact hx)
        have hfr : ∀ q, q < r + 1 → ∀ x, x ∈ flat (d n) (f * 16 + n) → ((x.1 / 16 ^ (q + 1) : Nat) : Int) ≠ endl (q + 1) (last q) (upto (node a d h s) f n) := by
          intro q hq x hx e
          rcases endl_or (q + 1) (upto (node a d h s) f n) (last q) with h1 | ⟨y, hy, h1⟩
          · rw [h1] at e
            exact hl q hq x (hin x hx) e
          · rw [h1] at e
            obtain ⟨k, hk, hy⟩ := mem_upto.1 hy
            have e1 := piece_div hg (k := k) (by omega) hy
            have e2 := div_up (show q + 1 ≤ r + 1 by omega) (Int.ofNat_inj.1 e)
            rw [e1, hdv x hx] at e2
            omega
        rw [sum_congr (g := fun q => runs (q + 1) (last q) (upto (node a d h s) f n) + runs (q + 1) (endl (q + 1) (last q) (upto (node a d h s) f n)) (flat (d n) (f * 16 + n))) (r + 1) (fun q _ => by rw [upto_succ, runs_append, hp]), sum_add, ih (by omega)]
        show _ = sum n (fun k => frsh nil (d k)) + frsh nil (d n)
        congr 1
        cases hd : d n with
        | nil =>
          rw [frsh_nil]
          exact sum_zero _ (fun _ _ => by rw [flat]; rfl)
        | node a2 d2 h2 s2 =>
          have hg2 : Good r (d n) := (hg.2.1 n).1
          have hne : flat (d n) (f * 16 + n) ≠ [] := fun e => by
            have h3 := flat_length (f := f * 16 + n) hg2
            rw [e] at h3
            rcases (hg.2.1 n).2 with h4 | h4
            · rw [show (node a d h s).down n = d n from rfl, hd] at h4
              cases h4
            · have : (0 : Int) = (d n).size := h3
              rw [show (node a d h s).down n = d n from rfl] at h4
              omega
          rw [← hd]
          rw [sum, runs_one (r + 1) (f * 16 + n) hne hdv (fun e => by
            obtain ⟨x, hx⟩ := List.exists_mem_of_ne_nil _ hne
            exact hfr r (by omega) x hx (by rw [hdv x hx]; exact e)),
            runs_sum r (d n) (f * 16 + n) _ hg2 (by rw [hd]; exact fun e => by cases e) (fun q hq x hx => hfr q (by omega) x hx)]
          omega
    rw [flat_eq, key 16 (Nat.le_refl _), frsh, if_neg (fun e => by cases e)]
    show _ = 1 + sum 16 (fun k => frsh nil (d k)) - 1
    omega
end Nd
end Go.Proofs.Ytfehimoiccgahaa
