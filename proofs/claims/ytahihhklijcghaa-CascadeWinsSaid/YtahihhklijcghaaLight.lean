/-
  Whatever is light is short.
-/
import Derived.Test.YtahihhklijcghaaUniq
namespace Go.Proofs.Ytahihhklijcghaa
open Go.RowKit Go.Proofs.YtahihhklijcghaaW Go.Proofs.YtahihhklijcghaaW.PrintWords PCascadeSorts
set_option linter.unusedVariables false
set_option linter.unusedSimpArgs false
/-- Texts that fit into a memory. -/
def Fits (l : List S26) : Prop := ∀ x ∈ l, x.f0.size ≤ 140737488351232 ∧ x.f1.size ≤ 140737488351232
theorem weight {a b : Nat} (ha : a ≤ 140737488351232) (hb : b ≤ 140737488351232) {n : Int} (h0 : 0 ≤ n) (h1 : n ≤ 100) : n + 1 ≤ wrap64 (n + (wrap64 (1 + (wrap64 (Int.tdiv (wrap64 ((a : Int) + (b : Int))) 100))))) := by
  have e1 : wrap64 ((a : Int) + (b : Int)) = ((a + b : Nat) : Int) := by unfold wrap64; omega
  rw [e1]
  have e2 : ((a + b : Nat) : Int).tdiv 100 = (((a + b) / 100 : Nat) : Int) := by
    rw [Int.tdiv_eq_ediv_of_nonneg (by omega)]
    omega
  rw [e2]
  have hq : (a + b) / 100 ≤ 2814749767025 := by omega
  generalize (a + b) / 100 = q at *
  have e3 : wrap64 (q : Int) = (q : Int) := by unfold wrap64; omega
  rw [e3]
  have e4 : wrap64 (1 + (q : Int)) = 1 + (q : Int) := by unfold wrap64; omega
  rw [e4]
  unfold wrap64
  omega
theorem light_l0_true {l : List S26} (hf : Fits l) (hn : l.length ≤ 1759218604441) : ∀ (k : Nat) (n : Int) (i : Nat), i ≤ l.length → 0 ≤ n → n ≤ 100 → gouachelaw17_light.l0 k n l (l.length : Int) (i : Int) = some true → n + ((l.length : Int) - (i : Int)) ≤ 100
  | 0, n, i, _, _, _, h => by simp [gouachelaw17_light.l0] at h
  | k + 1, n, i, hi, h0, h1, h => by
    simp only [gouachelaw17_light.l0] at h
    by_cases hlt : i < l.length
    · rw [if_pos (by omega), if_pos (by omega), if_pos (by omega), rd_at l i hlt] at h
      obtain ⟨ha, hb⟩ := hf l[i] (List.getElem_mem hlt)
      have hw := weight ha hb h0 h1
      generalize wrap64 (n + (wrap64 (1 + (wrap64 (Int.tdiv (wrap64 ((l[i].f0.size : Int) + (l[i].f1.size : Int))) 100))))) = m at *
      have hw2 : wrap64 ((i : Int) + 1) = ((i + 1 : Nat) : Int) := by rw [wrap_next (n := l.length) (by omega) (by omega) hn]; omega
      rw [hw2] at h
      by_cases hm : m > 100
      · rw [if_pos hm] at h
        cases h
      · rw [if_neg hm] at h
        have := light_l0_true hf hn k m (i + 1) (by omega) (by omega) (by omega) h
        omega
    · omega
theorem light_true {l : List S26} (hf : Fits l) (hn : l.length ≤ 1759218604441) {k : Nat} (h : gouachelaw17_light.f k l = some true) : l.length ≤ 100 := by
  have := light_l0_true hf hn k 0 0 (Nat.zero_le _) (Int.le_refl _) (by decide) h
  omega
theorem light_c {W : World} {A : Option Addr} {c : Nat} {l : List S26} (h : Kd.C k26 W A l.length l) (hc : l.length ≤ c) (hf : Fits l) (hn : l.length ≤ 1759218604441) :
    Calls Try.prog 8 #[.slice A l.length c] W fun e w' => ∃ b : Bool, e = .returned (.bool b) ∧ (b = true → l.length ≤ 100) ∧ Below W.heap.size W w' := by
  obtain ⟨r, hr⟩ := light_f l hn (l.length + 1) (Nat.lt_succ_self _)
  refine (gouachelaw17_light.calls (l.length + 1) A c l r W h hc hr).mono ?_
  intro e w' hp
  refine ⟨r, ?_, fun e => light_true hf hn (by rw [← e]; exact hr), ?_⟩
  · exact hp.1
  · exact hp.2
end Go.Proofs.Ytahihhklijcghaa
