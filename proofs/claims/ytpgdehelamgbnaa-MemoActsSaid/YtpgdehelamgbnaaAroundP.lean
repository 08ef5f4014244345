/-
  MemoAround's plain law: entries of one home fill the cells from there on, around.
-/
import Derived.Test.YtpgdehelamgbnaaLives
namespace Go.Proofs.Ytpgdehelamgbnaa
open Go.RowKit Go.Proofs.YtpgdehelamgbnaaW Go.Proofs.YtpgdehelamgbnaaW.PrintWords PMemoActs
set_option linter.unusedVariables false
set_option linter.unusedSimpArgs false
def passes (ep nd : Int) (c : Nat × Option S31) : Prop := ∃ y, c.2 = some y ∧ keyed ep nd y = false
theorem scan_free_at {ep nd : Int} : ∀ (i : Nat) (l : List (Nat × Option S31)) (hi : i < l.length), (∀ j (hj : j < i), passes ep nd (l[j]'(by omega))) → l[i].2 = none → scan ep nd l = .free l[i].1
  | 0, (m, u) :: r, _, _, hn => by
    simp only [List.getElem_cons_zero] at hn ⊢
    subst hn
    rfl
  | i + 1, (m, u) :: r, hi, hp, hn => by
    obtain ⟨y, hy, hk⟩ := hp 0 (by omega)
    simp only [List.getElem_cons_zero] at hy
    subst hy
    have ih := scan_free_at i r (by simpa using hi) (fun j hj => by have := hp (j + 1) (by omega); simpa using this) (by simpa using hn)
    simp only [scan, hk, List.getElem_cons_succ]
    exact ih
theorem scan_hit_at {ep nd : Int} : ∀ (i : Nat) (l : List (Nat × Option S31)) (hi : i < l.length) (y : S31), (∀ j (hj : j < i), passes ep nd (l[j]'(by omega))) → l[i].2 = some y → keyed ep nd y = true → scan ep nd l = .hit l[i].1 y
  | 0, (m, u) :: r, _, y, _, hn, hk => by
    simp only [List.getElem_cons_zero] at hn ⊢
    subst hn
    simp only [scan, hk]
  | i + 1, (m, u) :: r, hi, y, hp, hn, hk => by
    obtain ⟨z, hz, hkz⟩ := hp 0 (by omega)
    simp only [List.getElem_cons_zero] at hz
    subst hz
    have ih := scan_hit_at i r (by simpa using hi) y (fun j hj => by have := hp (j + 1) (by omega); simpa using this) (by simpa using hn) hk
    simp only [scan, hkz, List.getElem_cons_succ]
    exact ih
theorem scan_full_all {ep nd : Int} : ∀ (l : List (Nat × Option S31)), (∀ c ∈ l, passes ep nd c) → scan ep nd l = .full
  | [], _ => rfl
  | (m, u) :: r, hp => by
    obtain ⟨y, hy, hk⟩ := hp (m, u) (List.mem_cons_self ..)
    simp only at hy
    subst hy
    simp only [scan, hk]
    exact scan_full_all r (fun c hc => hp c (List.mem_cons_of_mem _ hc))
theorem line_at (T : List (Option S31)) (h j : Nat) (hj : j < T.length) : (line T h)[j]'(by simp [line]; exact hj) = ((h + j) % T.length, T.getD ((h + j) % T.length) none) := by simp [line]
theorem line_length (T : List (Option S31)) (h : Nat) : (line T h).length = T.length := by simp [line]
theorem add_mod {n h j : Nat} (hh : h < n) (hj : j < n) : (h + j) % n = if h + j < n then h + j else h + j - n := by
  split
  · next hl => exact Nat.mod_eq_of_lt hl
  · next hl =>
    rw [Nat.mod_eq_sub_mod (by omega)]
    exact Nat.mod_eq_of_lt (by omega)
theorem mod_inj {n h i j : Nat} (hh : h < n) (hi : i < n) (hj : j < n) (e : (h + i) % n = (h + j) % n) : i = j := by
  rw [add_mod hh hi, add_mod hh hj] at e
  split at e <;> split at e <;> omega
theorem mod_surj {n h k : Nat} (hh : h < n) (hk : k < n) : ∃ j, j < n ∧ (h + j) % n = k := by
  by_cases hl : h ≤ k
  · exact ⟨k - h, by omega, by rw [add_mod hh (by omega)]; split <;> omega⟩
  · exact ⟨k + n - h, by omega, by rw [add_mod hh (by omega)]; split <;> omega⟩
def exx : List ByteArray := [bs [120]]
def ent (nd : Nat) : S31 := ⟨0, (nd : Int), exx⟩
/-- The first i cells from h on, around, are. -/
def Filled (T : List (Option S31)) (n h i : Nat) : Prop := T.length = n ∧ ∀ j, j < n → T.getD ((h + j) % n) none = if j < i then some (ent (h + j * n)) else none
theorem filled_0 (n h : Nat) (hn : h < n) : Filled (List.replicate n none) n h 0 := ⟨by simp, fun j hj => by
  have : (h + j) % n < n := Nat.mod_lt _ (by omega)
  simp [this]⟩
theorem home_at {n h i : Nat} (hn : h < n) (hN : n ≤ 30) (hi : i ≤ n) : homeN n 0 ((h + i * n : Nat) : Int) = h := by
  have hb : i * n ≤ 30 * 30 := Nat.mul_le_mul (by omega) hN
  have hm : (h + i * n) % n = h := by rw [Nat.add_mul_mod_self_right]; exact Nat.mod_eq_of_lt hn
  unfold homeN homeI
  rw [if_neg (by omega)]
  have hw : IntKind.u64.wrap ((h + i * n : Nat) : Int) = ((h + i * n : Nat) : Int) := by
    have hz : h + i * n ≤ 930 := by omega
    clear hm hb
    generalize h + i * n = z at *
    unfold IntKind.wrap
    simp [IntKind.bits, IntKind.signed]
    omega
  have hw0 : IntKind.u64.wrap (IntKind.u64.wrap 0 * 31) = 0 := by decide
  rw [hw0, hw, Int.zero_add, hw, Int.tmod_eq_emod_of_nonneg (by omega)]
  have : ((h + i * n : Nat) : Int) % (n : Int) = (h : Int) := by
    rw [← hm]
    simp
  rw [this]
  have : wrap64 (h : Int) = (h : Int) := by unfold wrap64; omega
  rw [this]
  exact Int.toNat_natCast h
theorem ent_other {a b : Nat} (h : a ≠ b) : keyed 0 (b : Int) (ent a) = false := by
  unfold keyed ent
  simp
  omega
theorem filled_step {T : List (Option S31)} {n h i : Nat} (hf : Filled T n h i) (hn : h < n) (hN : n ≤ 30) (hi : i < n) :
    putB T (ent (h + i * n)) = true ∧ putT T (ent (h + i * n)) = T.set ((h + i) % n) (some (ent (h + i * n))) ∧ Filled (putT T (ent (h + i * n))) n h (i + 1) := by
  obtain ⟨hl, hc⟩ := hf
  have hh := home_at hn hN (Nat.le_of_lt hi)
  have hmi : ∀ j, j < i → h + j * n ≠ h + i * n := fun j hj e => by
    have : j * n < i * n := Nat.mul_lt_mul_of_pos_right hj (by omega)
    omega
  have hs : scan 0 ((h + i * n : Nat) : Int) (line T h) = .free ((h + i) % n) := by
    have := scan_free_at (ep := 0) (nd := ((h + i * n : Nat) : Int)) i (line T h) (by rw [line_length, hl]; exact hi) (fun j hj => by
      rw [line_at T h j (by omega), hl]
      refine ⟨ent (h + j * n), ?_, ent_other (hmi j hj)⟩
      rw [hc j (by omega), if_pos hj]) (by
      rw [line_at T h i (by omega), hl]
      rw [hc i hi, if_neg (by omega)])
    rw [this, line_at T h i (by omega), hl]
  have hputT : putT T (ent (h + i * n)) = T.set ((h + i) % n) (some (ent (h + i * n))) := by
    unfold putT
    show (match scan 0 ((h + i * n : Nat) : Int) (line T (homeN T.length 0 ((h + i * n : Nat) : Int))) with | .free k => _ | _ => _) = _
    rw [hl, hh, hs]
  refine ⟨?_, hputT, ?_⟩
  · unfold putB
    show (match scan 0 ((h + i * n : Nat) : Int) (line T (homeN T.length 0 ((h + i * n : Nat) : Int))) with | .free k => _ | _ => _) = _
    rw [hl, hh, hs]
  · rw [hputT]
    refine ⟨by rw [List.length_set]; exact hl, fun j hj => ?_⟩
    rw [List.getD_eq_getElem?_getD, List.getElem?_set]
    have hlt : (h + i) % n < T.length := by rw [hl]; exact Nat.mod_lt _ (by omega)
    by_cases e : i = j
    · subst e
      rw [if_pos rfl, if_pos hlt, if_pos (by omega)]
      rfl
    · rw [if_neg (fun e2 => e (mod_inj hn hi hj e2)), ← List.getD_eq_getElem?_getD, hc j hj]
      by_cases h1 : j < i
      · rw [if_pos h1, if_pos (by omega)]
      · rw [if_neg h1, if_neg (by omega)]
theorem filled_look {T : List (Option S31)} {n h i : Nat} (hf : Filled T n h (i + 1)) (hi : i < n) : lookT T (((h + i) % n : Nat) : Int) = some (ent (h + i * n)) := by
  unfold lookT
  rw [if_neg (by omega), Int.toNat_natCast, hf.2 i hi, if_pos (by omega)]
theorem filled_full {T : List (Option S31)} {n h : Nat} (hf : Filled T n h n) (hn : h < n) (hN : n ≤ 30) :
    putB T ⟨0, ((h + n * n : Nat) : Int), []⟩ = false ∧ putT T ⟨0, ((h + n * n : Nat) : Int), []⟩ = T ∧ used T = n ∧ casB T (h : Int) = false := by
  obtain ⟨hl, hc⟩ := hf
  have hh := home_at hn hN (Nat.le_refl n)
  have hs : scan 0 ((h + n * n : Nat) : Int) (line T h) = .full := by
    refine scan_full_all _ (fun c hcm => ?_)
    obtain ⟨j, hj, rfl⟩ := List.getElem_of_mem hcm
    rw [line_length, hl] at hj
    rw [line_at T h j (by omega), hl]
    refine ⟨ent (h + j * n), ?_, ent_other (fun e => ?_)⟩
    · rw [hc j hj, if_pos hj]
    · have : j * n < n * n := Nat.mul_lt_mul_of_pos_right hj (by omega)
      omega
  have hall : ∀ k, k < n → (T.getD k none).isSome = true := fun k hk => by
    obtain ⟨j, hj, rfl⟩ := mod_surj hn hk
    rw [hc j hj, if_pos hj]
    rfl
  refine ⟨?_, ?_, ?_, ?_⟩
  · unfold putB
    show (match scan 0 ((h + n * n : Nat) : Int) (line T (homeN T.length 0 ((h + n * n : Nat) : Int))) with | .free k => _ | _ => _) = _
    rw [hl, hh, hs]
  · unfold putT
    show (match scan 0 ((h + n * n : Nat) : Int) (line T (homeN T.length 0 ((h + n * n : Nat) : Int))) with | .free k => _ | _ => _) = _
    rw [hl, hh, hs]
  · unfold used
    rw [List.filter_eq_self.2 (fun u hu => ?_), hl]
    obtain ⟨k, hk, rfl⟩ := List.getElem_of_mem hu
    have := hall k (by omega)
    rw [List.getD_eq_getElem?_getD, List.getElem?_eq_getElem hk] at this
    exact this
  · unfold casB lookT
    rw [if_neg (by omega), Int.toNat_natCast]
    have := hall h hn
    cases hq : T.getD h none with
    | none => rw [hq] at this; cases this
    | some y => simp
end Go.Proofs.Ytpgdehelamgbnaa
