/-
  The document's pairs: what Put, Drop, Get tell (plain).
-/
import Derived.Test.YtfehimoiccgahaaFlat
import Derived.Test.YtfehimoiccgahaaStepS
import Derived.Test.YtfehimoiccgahaaPTrieActsx1
import Derived.Test.YtfehimoiccgahaaPTrieActsx2
namespace Go.Proofs.Ytfehimoiccgahaa
open Go.RowKit Go.Proofs.YtfehimoiccgahaaW.PrintWords PTrieActs
set_option linter.unusedVariables false
set_option linter.unusedSimpArgs false
theorem nx {i n : Nat} (h : i < n) (hn : n ≤ 140737488355328) : wrap64 ((i : Int) + 1) = ((i + 1 : Nat) : Int) := by
  rw [IntWalk.wrap64_in _ (by omega)]
  omega
theorem rd79_at (l : List S79) (i : Nat) (h : i < l.length) : rd_T79 l (i : Int) = l[i] := by
  unfold rd_T79
  rw [Int.toNat_natCast, List.getD_eq_getElem?_getD, List.getElem?_eq_getElem h]
  rfl
/-- What Drop leaves. -/
def dropL (n : Int) (l : List S79) : List S79 := l.filter fun p => p.f0 != n
theorem drop_l0 (n : Int) (l : List S79) (hn : l.length ≤ 1000000000000) : ∀ (d i : Nat) (o : List S79), i + d = l.length → o.length ≤ i → ∃ k, gouacheref06_Drop.l0 k n o l (l.length : Int) (i : Int) = some (o ++ dropL n (l.drop i))
  | 0, i, o, h, ho => ⟨1, by
    simp only [gouacheref06_Drop.l0]
    rw [if_neg (by omega), List.drop_of_length_le (by omega)]
    simp [dropL]⟩
  | d + 1, i, o, h, ho => by
    have hi : i < l.length := by omega
    have hd : l.drop i = l[i] :: l.drop (i + 1) := List.drop_eq_getElem_cons hi
    by_cases he : (l[i]).f0 = n
    · obtain ⟨k, hk⟩ := drop_l0 n l hn d (i + 1) o (by omega) (by omega)
      refine ⟨k + 1, ?_⟩
      simp only [gouacheref06_Drop.l0]
      rw [if_pos (by omega), if_pos (by omega), if_pos (by omega), rd79_at l i hi, if_pos he, nx hi (by omega), hk, hd]
      generalize l.drop (i + 1) = r
      simp [dropL, he]
    · obtain ⟨k, hk⟩ := drop_l0 n l hn d (i + 1) (o ++ [l[i]]) (by omega) (by simp; omega)
      refine ⟨k + 1, ?_⟩
      simp only [gouacheref06_Drop.l0]
      rw [if_pos (by omega), if_pos (by omega), if_pos (by omega), rd79_at l i hi, if_neg he, if_pos (by omega), nx hi (by omega)]
      rw [show ([(⟨(l[i]).f0, (l[i]).f1⟩ : S79)] : List S79) = [l[i]] from rfl, hk, hd]
      generalize l.drop (i + 1) = r
      simp [dropL, he]
theorem drop_f (n : Int) (l : List S79) (hn : l.length ≤ 1000000000000) : ∃ k, gouacheref06_Drop.f k l n = some (dropL n l) := by
  obtain ⟨k, hk⟩ := drop_l0 n l hn l.length 0 [] (by omega) (by simp)
  exact ⟨k, by unfold gouacheref06_Drop.f; rw [show (0 : Int) = ((0 : Nat) : Int) from rfl, hk]; simp⟩
/-- What Get tells. -/
def getL (n : Int) (l : List S79) : Option S79 := l.find? fun p => p.f0 == n
def getR : Option S79 → ByteArray × Bool
  | some p => (p.f1, true)
  | none => (⟨#[]⟩, false)
theorem get_l0 (n : Int) (l : List S79) (hn : l.length ≤ 1000000000000) : ∀ (d i : Nat), i + d = l.length → ∃ k, gouacheref06_Get.l0 k n ⟨#[]⟩ l (l.length : Int) (i : Int) = some (getR (getL n (l.drop i)))
  | 0, i, h => ⟨1, by
    simp only [gouacheref06_Get.l0]
    rw [if_neg (by omega), List.drop_of_length_le (by omega)]
    rfl⟩
  | d + 1, i, h => by
    have hi : i < l.length := by omega
    have hd : l.drop i = l[i] :: l.drop (i + 1) := List.drop_eq_getElem_cons hi
    by_cases he : (l[i]).f0 = n
    · refine ⟨1, ?_⟩
      simp only [gouacheref06_Get.l0]
      rw [if_pos (by omega), if_pos (by omega), if_pos (by omega), rd79_at l i hi, if_pos he, hd]
      generalize l.drop (i + 1) = r
      simp [getL, getR, he]
    · obtain ⟨k, hk⟩ := get_l0 n l hn d (i + 1) (by omega)
      refine ⟨k + 1, ?_⟩
      simp only [gouacheref06_Get.l0]
      rw [if_pos (by omega), if_pos (by omega), if_pos (by omega), rd79_at l i hi, if_neg he, nx hi (by omega), hk, hd]
      generalize l.drop (i + 1) = r
      simp [getL, he]
theorem get_f (n : Int) (l : List S79) (hn : l.length ≤ 1000000000000) : ∃ k, gouacheref06_Get.f k l n = some ((getR (getL n l)).1, (getR (getL n l)).2) := by
  obtain ⟨k, hk⟩ := get_l0 n l hn l.length 0 (by omega)
  exact ⟨k, by unfold gouacheref06_Get.f; rw [show (0 : Int) = ((0 : Nat) : Int) from rfl, hk]; simp⟩
/-- What Put leaves. -/
def insL (n : Int) (v : ByteArray) : Bool → List S79 → List S79
  | true, l => dropL n l
  | false, [] => [⟨n, v⟩]
  | false, p :: r => if p.f0 ≥ n then ⟨n, v⟩ :: dropL n (p :: r) else p :: insL n v false r
theorem put_l0 (n : Int) (v : ByteArray) (l : List S79) (hn : l.length ≤ 1000000000000) : ∀ (d i : Nat) (o : List S79) (b : Bool), i + d = l.length → o.length ≤ 2 * i + 1 → ∃ k, gouacheref06_Put.l0 k n v o b l (l.length : Int) (i : Int) = some (o ++ insL n v b (l.drop i))
  | 0, i, o, b, h, ho => ⟨1, by
    simp only [gouacheref06_Put.l0]
    rw [if_neg (by omega), List.drop_of_length_le (by omega)]
    cases b with
    | true => simp [insL, dropL]
    | false => rw [if_neg (by decide), if_pos (by omega)]; rfl⟩
  | d + 1, i, o, b, h, ho => by
    have hi : i < l.length := by omega
    have hd : l.drop i = l[i] :: l.drop (i + 1) := List.drop_eq_getElem_cons hi
    have hx : ([(⟨(l[i]).f0, (l[i]).f1⟩ : S79)] : List S79) = [l[i]] := rfl
    by_cases hg : (l[i]).f0 ≥ n
    · cases b with
      | true =>
        by_cases he : (l[i]).f0 = n
        · obtain ⟨k, hk⟩ := put_l0 n v l hn d (i + 1) o true (by omega) (by omega)
          refine ⟨k + 2, ?_⟩
          simp only [gouacheref06_Put.l0, gouacheref06_Put.j2]
          rw [if_pos (by omega), if_pos (by omega), if_pos (by omega), rd79_at l i hi, if_pos hg, if_neg (by decide), if_pos he, nx hi (by omega), hk, hd]
          generalize l.drop (i + 1) = r
          simp [insL, dropL, he]
        · obtain ⟨k, hk⟩ := put_l0 n v l hn d (i + 1) (o ++ [l[i]]) true (by omega) (by simp; omega)
          refine ⟨k + 2, ?_⟩
          simp only [gouacheref06_Put.l0, gouacheref06_Put.j2]
          rw [if_pos (by omega), if_pos (by omega), if_pos (by omega), rd79_at l i hi, if_pos hg, if_neg (by decide), if_neg he, if_pos (by omega), nx hi (by omega), hx, hk, hd]
          generalize l.drop (i + 1) = r
          simp [insL, dropL, he]
      | false =>
        by_cases he : (l[i]).f0 = n
        · obtain ⟨k, hk⟩ := put_l0 n v l hn d (i + 1) (o ++ [⟨n, v⟩]) true (by omega) (by simp; omega)
          refine ⟨k + 2, ?_⟩
          simp only [gouacheref06_Put.l0, gouacheref06_Put.j2]
          rw [if_pos (by omega), if_pos (by omega), if_pos (by omega), rd79_at l i hi, if_pos hg, if_pos (by decide), if_pos (by omega)]
          simp only [Option.bind_some]
          rw [if_pos he, nx hi (by omega), hk, hd]
          generalize l.drop (i + 1) = r
          simp [insL, dropL, he]
        · obtain ⟨k, hk⟩ := put_l0 n v l hn d (i + 1) (o ++ [⟨n, v⟩] ++ [l[i]]) true (by omega) (by simp; omega)
          refine ⟨k + 2, ?_⟩
          simp only [gouacheref06_Put.l0, gouacheref06_Put.j2]
          rw [if_pos (by omega), if_pos (by omega), if_pos (by omega), rd79_at l i hi, if_pos hg, if_pos (by decide), if_pos (by omega)]
          simp only [Option.bind_some]
          rw [if_neg he, if_pos (by simp; omega), nx hi (by omega), hx, hk, hd]
          generalize l.drop (i + 1) = r
          simp [insL, dropL, he, hg]
    · have he : ¬ (l[i]).f0 = n := by omega
      obtain ⟨k, hk⟩ := put_l0 n v l hn d (i + 1) (o ++ [l[i]]) b (by omega) (by simp; omega)
      refine ⟨k + 2, ?_⟩
      simp only [gouacheref06_Put.l0, gouacheref06_Put.j2]
      rw [if_pos (by omega), if_pos (by omega), if_pos (by omega), rd79_at l i hi, if_neg hg, if_neg (by decide), if_neg he, if_pos (by omega), nx hi (by omega), hx, hk, hd]
      cases b with
      | true =>
        generalize l.drop (i + 1) = r
        simp [insL, dropL, he]
      | false =>
        rw [show insL n v false (l[i] :: l.drop (i + 1)) = l[i] :: insL n v false (l.drop (i + 1)) from by rw [insL, if_neg hg]]
        generalize l.drop (i + 1) = r
        simp
theorem put_f (n : Int) (v : ByteArray) (l : List S79) (hn : l.length ≤ 1000000000000) : ∃ k, gouacheref06_Put.f k l n v = some (if 0 ≤ n ∧ n < 1048576 then insL n v false l else l) := by
  by_cases h0 : n < 0
  · exact ⟨1, by unfold gouacheref06_Put.f; rw [if_pos h0]; simp only [gouacheref06_Put.j0]; rw [if_pos trivial, if_neg (by omega)]⟩
  · by_cases h1 : n ≥ 1048576
    · exact ⟨1, by unfold gouacheref06_Put.f; rw [if_neg h0, decide_eq_true h1]; simp only [gouacheref06_Put.j0]; rw [if_pos trivial, if_neg (by omega)]⟩
    · obtain ⟨k, hk⟩ := put_l0 n v l hn l.length 0 [] false (by omega) (by simp)
      exact ⟨k + 1, by unfold gouacheref06_Put.f; rw [if_neg h0, decide_eq_false h1]; simp only [gouacheref06_Put.j0]; rw [if_neg (by decide), show (0 : Int) = ((0 : Nat) : Int) from rfl, hk, if_pos (by omega)]; simp⟩
/-! ### rising pairs -/
def Rising (l : List S79) : Prop := l.Pairwise fun a b => a.f0 < b.f0
theorem rising_eq : ∀ {l k : List S79}, Rising l → Rising k → (∀ x, x ∈ l ↔ x ∈ k) → l = k
  | [], [], _, _, _ => rfl
  | [], b :: k, _, _, h => by have := (h b).2 (List.mem_cons_self ..); cases this
  | a :: l, [], _, _, h => by have := (h a).1 (List.mem_cons_self ..); cases this
  | a :: l, b :: k, hl, hk, h => by
    unfold Rising at hl hk
    rw [List.pairwise_cons] at hl hk
    have hab : a = b := by
      rcases List.mem_cons.1 ((h a).1 (List.mem_cons_self ..)) with e | e
      · exact e
      · rcases List.mem_cons.1 ((h b).2 (List.mem_cons_self ..)) with e2 | e2
        · exact e2.symm
        · have h1 := hl.1 b e2
          have h2 := hk.1 a e
          omega
    subst hab
    congr 1
    refine rising_eq hl.2 hk.2 (fun x => ⟨fun hx => ?_, fun hx => ?_⟩)
    · rcases List.mem_cons.1 ((h x).1 (List.mem_cons_of_mem _ hx)) with e | e
      · subst e
        exact absurd (hl.1 x hx) (Int.lt_irrefl _)
      · exact e
    · rcases List.mem_cons.1 ((h x).2 (List.mem_cons_of_mem _ hx)) with e | e
      · subst e
        exact absurd (hk.1 x hx) (Int.lt_irrefl _)
      · exact e
theorem mem_dropL {n : Int} {l : List S79} {x : S79} : x ∈ dropL n l ↔ x ∈ l ∧ x.f0 ≠ n := by simp [dropL]
theorem rising_dropL {n : Int} {l : List S79} (h : Rising l) : Rising (dropL n l) := List.Pairwise.filter _ h
theorem mem_insL {n : Int} {v : ByteArray} : ∀ {l : List S79} {x : S79}, x ∈ insL n v false l ↔ x = ⟨n, v⟩ ∨ (x ∈ l ∧ x.f0 ≠ n)
  | [], x => by simp [insL]
  | p :: r, x => by
    rw [insL]
    split
    · rw [List.mem_cons, mem_dropL]
    · rename_i hg
      rw [List.mem_cons, List.mem_cons, mem_insL]
      constructor
      · rintro (h | h | ⟨h, h2⟩)
        · subst h
          exact .inr ⟨.inl rfl, by omega⟩
        · exact .inl h
        · exact .inr ⟨.inr h, h2⟩
      · rintro (h | ⟨h | h, h2⟩)
        · exact .inr (.inl h)
        · exact .inl h
        · exact .inr (.inr ⟨h, h2⟩)
theorem rising_insL {n : Int} {v : ByteArray} : ∀ {l : List S79}, Rising l → Rising (insL n v false l)
  | [], _ => by simp [insL, Rising]
  | p :: r, h => by
    rw [insL]
    have hh : Rising (p :: r) := h
    unfold Rising at h
    rw [List.pairwise_cons] at h
    split
    · rename_i hg
      refine List.pairwise_cons.2 ⟨fun x hx => ?_, rising_dropL hh⟩
      rw [mem_dropL] at hx
      obtain ⟨hx, hne⟩ := hx
      show n < x.f0
      rcases List.mem_cons.1 hx with e | e
      · subst e
        omega
      · have := h.1 x e
        omega
    · rename_i hg
      refine List.pairwise_cons.2 ⟨fun x hx => ?_, rising_insL h.2⟩
      rcases mem_insL.1 hx with e | ⟨e, _⟩
      · subst e
        show p.f0 < n
        omega
      · exact h.1 x e
/-- The pairs of a trie. -/
structure Prs (l : List S79) (t : Nd ByteArray) : Prop where
  up : Rising l
  mem : ∀ x : S79, x ∈ l ↔ 0 ≤ x.f0 ∧ x.f0 < 1048576 ∧ t.val x.f0.toNat = some x.f1
def prs (t : Nd ByteArray) : List S79 := (Nd.flat t 0).map fun x => ⟨(x.1 : Int), x.2⟩
theorem prs_prs {t : Nd ByteArray} (hg : Nd.Good 4 t) : Prs (prs t) t := by
  constructor
  · unfold Rising prs
    rw [List.pairwise_map]
    exact (Nd.flat_sorted hg).imp (fun h => Int.ofNat_lt.2 h)
  · intro x
    unfold prs
    rw [List.mem_map]
    constructor
    · rintro ⟨y, hy, rfl⟩
      have h := (Nd.flat_mem (v := y.2) (m := y.1) hg).1 hy
      obtain ⟨h1, h2⟩ := h
      have h1 : y.1 / 1048576 = 0 := h1
      exact ⟨by show (0 : Int) ≤ (y.1 : Int); omega, by show (y.1 : Int) < 1048576; omega, by show t.val ((y.1 : Int)).toNat = _; rw [Int.toNat_natCast]; exact h2⟩
    · rintro ⟨h0, h1, h2⟩
      refine ⟨(x.f0.toNat, x.f1), (Nd.flat_mem hg).2 ⟨?_, h2⟩, ?_⟩
      · show x.f0.toNat / 1048576 = 0
        omega
      · have : ((x.f0.toNat : Nat) : Int) = x.f0 := by omega
        show (⟨((x.f0.toNat : Nat) : Int), x.f1⟩ : S79) = x
        rw [this]
theorem Prs.eq {l : List S79} {t : Nd ByteArray} (h : Prs l t) (hg : Nd.Good 4 t) : l = prs t := rising_eq h.up (prs_prs hg).up (fun x => (h.mem x).trans ((prs_prs hg).mem x).symm)
theorem Prs.length {l : List S79} {t : Nd ByteArray} (h : Prs l t) (hg : Nd.Good 4 t) : (l.length : Int) = t.size := by
  rw [h.eq hg]
  unfold prs
  rw [List.length_map, Nd.flat_length hg]
theorem Prs.put {l : List S79} {t u : Nd ByteArray} {n : Int} {v : ByteArray} (h : Prs l t) (hv : ∀ m, m < 1048576 → u.val m = if (m : Int) = n then some v else t.val m) : Prs (if 0 ≤ n ∧ n < 1048576 then insL n v false l else l) u := by
  by_cases hn : 0 ≤ n ∧ n < 1048576
  · rw [if_pos hn]
    refine ⟨rising_insL h.up, fun x => ?_⟩
    rw [mem_insL, h.mem]
    constructor
    · rintro (e | ⟨⟨h0, h1, h2⟩, h3⟩)
      · subst e
        refine ⟨hn.1, hn.2, ?_⟩
        show u.val n.toNat = some v
        rw [hv _ (by omega), if_pos (by omega)]
      · refine ⟨h0, h1, ?_⟩
        rw [hv _ (by omega), if_neg (by omega)]
        exact h2
    · rintro ⟨h0, h1, h2⟩
      rw [hv _ (by omega)] at h2
      by_cases he : x.f0 = n
      · left
        rw [if_pos (by omega)] at h2
        injection h2 with h2
        rw [← he, h2]
      · right
        rw [if_neg (by omega)] at h2
        exact ⟨⟨h0, h1, h2⟩, he⟩
  · rw [if_neg hn]
    refine ⟨h.up, fun x => ?_⟩
    rw [h.mem]
    constructor
    · rintro ⟨h0, h1, h2⟩
      exact ⟨h0, h1, by rw [hv _ (by omega), if_neg (by omega)]; exact h2⟩
    · rintro ⟨h0, h1, h2⟩
      rw [hv _ (by omega), if_neg (by omega)] at h2
      exact ⟨h0, h1, h2⟩
theorem Prs.drop {l : List S79} {t u : Nd ByteArray} {n : Int} (h : Prs l t) (hv : ∀ m, m < 1048576 → u.val m = if (m : Int) = n then none else t.val m) : Prs (dropL n l) u := by
  refine ⟨rising_dropL h.up, fun x => ?_⟩
  rw [mem_dropL, h.mem]
  constructor
  · rintro ⟨⟨h0, h1, h2⟩, h3⟩
    exact ⟨h0, h1, by rw [hv _ (by omega), if_neg (by omega)]; exact h2⟩
  · rintro ⟨h0, h1, h2⟩
    rw [hv _ (by omega)] at h2
    by_cases he : x.f0 = n
    · rw [if_pos (by omega)] at h2
      cases h2
    · rw [if_neg (by omega)] at h2
      exact ⟨⟨h0, h1, h2⟩, he⟩
theorem Prs.get {l : List S79} {t : Nd ByteArray} (h : Prs l t) (n : Int) : (getL n l).map S79.f1 = S.getV t n := by
  rw [S.getV_val]
  unfold getL
  cases hf : l.find? (fun p => p.f0 == n) with
  | none =>
    rw [List.find?_eq_none] at hf
    show none = _
    split
    · rename_i hn
      cases hv : t.val n.toNat with
      | none => rfl
      | some v =>
        have := hf ⟨n, v⟩ ((h.mem _).2 ⟨hn.1, hn.2, hv⟩)
        simp at this
    · rfl
  | some p =>
    have h1 := List.mem_of_find?_eq_some hf
    have h2 := List.find?_some hf
    have h3 : p.f0 = n := by simpa using h2
    obtain ⟨a, b, c⟩ := (h.mem p).1 h1
    rw [h3] at a b c
    rw [if_pos ⟨a, b⟩, c]
    rfl
end Go.Proofs.Ytfehimoiccgahaa
