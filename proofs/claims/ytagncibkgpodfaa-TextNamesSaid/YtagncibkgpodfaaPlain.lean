/-
  The plain law of characters: lists of numbers alone, no program and no memory.
-/
import Derived.Lib.DecodeN
import Derived.Lib.RuneBytes
import Derived.Laws.BytesArg
namespace Go.Proofs.Ytagncibkgpodfaa.T
open Go.Lib

/-- The character at the head of bytes, and its width. -/
def dec (l : List Int) : Int × Nat :=
  (((decodeN l.length (l.getD 0 0).toNat (l.getD 1 0).toNat (l.getD 2 0).toNat (l.getD 3 0).toNat).1 : Nat),
    (decodeN l.length (l.getD 0 0).toNat (l.getD 1 0).toNat (l.getD 2 0).toNat (l.getD 3 0).toNat).2)
def Byt (l : List Int) : Prop := ∀ x ∈ l, 0 ≤ x ∧ x < 256
def Good (c : Int) : Prop := 0 ≤ c ∧ c ≤ 1114111 ∧ ¬ (55296 ≤ c ∧ c < 57344)
def fix (c : Int) : Int := if 0 ≤ c ∧ c ≤ 1114111 ∧ ¬ (55296 ≤ c ∧ c < 57344) then c else 65533

theorem fix_good {c : Int} (h : Good c) : fix c = c := if_pos h
theorem good_fix (c : Int) : Good (fix c) := by
  unfold fix
  split
  · assumption
  · exact ⟨by omega, by omega, by omega⟩

theorem decodeN_good (n b0 b1 b2 b3 : Nat) (h0 : b0 < 256) : Good ((decodeN n b0 b1 b2 b3).1 : Nat) ∧ 1 ≤ (decodeN n b0 b1 b2 b3).2 ∧ (decodeN n b0 b1 b2 b3).2 ≤ max n 1 := by
  unfold decodeN Good
  repeat' split
  all_goals (refine ⟨⟨?_, ?_, ?_⟩, ?_, ?_⟩ <;> dsimp only <;> omega)

theorem getD_byt {l : List Int} (h : Byt l) (i : Nat) : 0 ≤ l.getD i 0 ∧ l.getD i 0 < 256 := by
  rcases Nat.lt_or_ge i l.length with hi | hi
  · rw [List.getD_eq_getElem?_getD, List.getElem?_eq_getElem hi]
    exact h _ (List.getElem_mem hi)
  · rw [List.getD_eq_getElem?_getD, List.getElem?_eq_none hi]
    exact ⟨by decide, by decide⟩
theorem Byt.drop {l : List Int} (h : Byt l) (n : Nat) : Byt (l.drop n) := fun x hx => h x (List.mem_of_mem_drop hx)
theorem Byt.append {l m : List Int} (h : Byt l) (k : Byt m) : Byt (l ++ m) := fun x hx => by
  rcases List.mem_append.1 hx with hx | hx
  · exact h x hx
  · exact k x hx

theorem dec_good {l : List Int} (h : Byt l) : Good (dec l).1 := by
  have := getD_byt h 0
  exact (decodeN_good _ _ _ _ _ (by omega)).1
theorem dec_width {l : List Int} (h : Byt l) (hl : l ≠ []) : 1 ≤ (dec l).2 ∧ (dec l).2 ≤ l.length := by
  have h0 := getD_byt h 0
  have h1 := (decodeN_good l.length (l.getD 0 0).toNat (l.getD 1 0).toNat (l.getD 2 0).toNat (l.getD 3 0).toNat (by omega)).2
  have h2 : 0 < l.length := List.length_pos_iff.2 hl
  refine ⟨h1.1, ?_⟩
  have := h1.2
  show (decodeN _ _ _ _ _).2 ≤ _
  omega

theorem get_nums (l : List Int) (h : Byt l) (i : Nat) : (((strOfNums l).get! i).toNat : Int) = l.getD i 0 := by
  have e : (strOfNums l).get! i = (l.map fun n => UInt8.ofNat n.toNat).getD i 0 := by
    show (l.map fun n => UInt8.ofNat n.toNat).toArray[i]! = _
    rcases Nat.lt_or_ge i l.length with hi | hi
    · rw [getElem!_pos _ i (by simpa using hi)]; simp [List.getD_eq_getElem?_getD, hi]
    · rw [getElem!_neg _ i (by simpa using hi)]; simp [List.getD_eq_getElem?_getD, hi]; rfl
  rw [e, List.getD_eq_getElem?_getD, List.getD_eq_getElem?_getD, List.getElem?_map]
  rcases Nat.lt_or_ge i l.length with hi | hi
  · have := h _ (List.getElem_mem hi)
    rw [List.getElem?_eq_getElem hi]
    simp
    omega
  · rw [List.getElem?_eq_none hi]
    rfl
theorem getD_drop (l : List Int) (p k : Nat) : (l.drop p).getD k 0 = l.getD (p + k) 0 := by simp [List.getD_eq_getElem?_getD, List.getElem?_drop]

/-- The model's own decoding, at a place of bytes. -/
theorem decode_dec (l : List Int) (h : Byt l) (p : Nat) : ((Utf8.decode (strOfNums l) p).1 : Int) = (dec (l.drop p)).1 ∧ (Utf8.decode (strOfNums l) p).2 = (dec (l.drop p)).2 := by
  have g : ∀ i, ((strOfNums l).get! i).toNat = (l.getD i 0).toNat := fun i => by have := get_nums l h i; omega
  have e : Utf8.decode (strOfNums l) p = decodeN (l.drop p).length ((l.drop p).getD 0 0).toNat ((l.drop p).getD 1 0).toNat ((l.drop p).getD 2 0).toNat ((l.drop p).getD 3 0).toNat := by
    rw [decode_at, g, g, g, g, strOfNums_size, getD_drop, getD_drop, getD_drop, getD_drop, List.length_drop]
    rfl
  rw [e]
  exact ⟨rfl, rfl⟩

/-! ### characters -/
def charsF : Nat → List Int → List Int
  | 0, _ => []
  | _ + 1, [] => []
  | n + 1, x :: l => (dec (x :: l)).1 :: charsF n ((x :: l).drop (dec (x :: l)).2)
def chars (l : List Int) : List Int := charsF l.length l

theorem charsF_more {l : List Int} (h : Byt l) : ∀ n m, l.length ≤ n → l.length ≤ m → charsF n l = charsF m l := by
  intro n
  induction n generalizing l with
  | zero =>
    intro m hn _
    obtain rfl : l = [] := List.eq_nil_of_length_eq_zero (by omega)
    cases m <;> rfl
  | succ n ih =>
    intro m hn hm
    cases l with
    | nil => cases m <;> rfl
    | cons x l =>
      cases m with
      | zero => simp at hm
      | succ m =>
        have hw := dec_width h (by simp)
        simp only [charsF]
        rw [ih (h.drop _) m]
        · simp only [List.length_drop, List.length_cons] at *; omega
        · simp only [List.length_drop, List.length_cons] at *; omega
theorem chars_nil : chars [] = [] := rfl
theorem chars_cons {l : List Int} (h : Byt l) (hl : l ≠ []) : chars l = (dec l).1 :: chars (l.drop (dec l).2) := by
  cases l with
  | nil => exact absurd rfl hl
  | cons x l =>
    have hw := dec_width h (by simp)
    show charsF (l.length + 1) (x :: l) = _
    simp only [charsF, chars]
    rw [charsF_more (h.drop _) l.length _ _ (Nat.le_refl _)]
    simp only [List.length_drop, List.length_cons] at *; omega
theorem chars_length {l : List Int} (h : Byt l) : (chars l).length ≤ l.length := by
  suffices hs : ∀ n (l : List Int), Byt l → l.length ≤ n → (chars l).length ≤ l.length from hs _ l h (Nat.le_refl _)
  intro n
  induction n with
  | zero =>
    intro l _ hn
    obtain rfl : l = [] := List.eq_nil_of_length_eq_zero (by omega)
    simp [chars_nil]
  | succ n ih =>
    intro l h hn
    by_cases hl : l = []
    · subst hl; simp [chars_nil]
    · have hw := dec_width h hl
      rw [chars_cons h hl, List.length_cons]
      have := ih (l.drop (dec l).2) (h.drop _) (by simp only [List.length_drop]; omega)
      simp only [List.length_drop] at this
      omega
theorem chars_good {l : List Int} (h : Byt l) : ∀ c ∈ chars l, Good c := by
  suffices hs : ∀ n (l : List Int), Byt l → l.length ≤ n → ∀ c ∈ chars l, Good c from hs _ l h (Nat.le_refl _)
  intro n
  induction n with
  | zero =>
    intro l _ hn
    obtain rfl : l = [] := List.eq_nil_of_length_eq_zero (by omega)
    simp [chars_nil]
  | succ n ih =>
    intro l h hn
    by_cases hl : l = []
    · subst hl; simp [chars_nil]
    · have hw := dec_width h hl
      rw [chars_cons h hl]
      intro c hc
      rcases List.mem_cons.1 hc with rfl | hc
      · exact dec_good h
      · exact ih (l.drop (dec l).2) (h.drop _) (by simp only [List.length_drop]; omega) c hc

/-! ### lines' ends -/
def norm1 (was c : Int) : List Int := if c = 10 ∧ was = 13 then [] else [if c = 13 ∨ c = 12 then 10 else if c = 0 then 65533 else c]
def norm : Int → List Int → List Int
  | _, [] => []
  | was, c :: l => norm1 was c ++ norm c l
def runes (l : List Int) : List Int := norm 0 (chars l)

theorem norm1_length (was c : Int) : (norm1 was c).length ≤ 1 := by unfold norm1; split <;> simp
theorem norm_length (was : Int) (l : List Int) : (norm was l).length ≤ l.length := by
  induction l generalizing was with
  | nil => simp [norm]
  | cons c l ih => simp only [norm, List.length_append, List.length_cons]; have := ih c; have := norm1_length was c; omega
theorem runes_length {l : List Int} (h : Byt l) : (runes l).length ≤ l.length := Nat.le_trans (norm_length _ _) (chars_length h)

/-- What a character of Runes is. -/
def Told (c : Int) : Prop := Good c ∧ c ≠ 13 ∧ c ≠ 12 ∧ c ≠ 0
theorem norm1_told {was c : Int} (h : Good c) : ∀ d ∈ norm1 was c, Told d := by
  intro d hd
  unfold norm1 at hd
  split at hd
  · simp at hd
  · obtain rfl := List.mem_singleton.1 hd
    unfold Told Good at *
    split
    · omega
    · split <;> omega
theorem norm_told {was : Int} {l : List Int} (h : ∀ c ∈ l, Good c) : ∀ d ∈ norm was l, Told d := by
  induction l generalizing was with
  | nil => simp [norm]
  | cons c l ih =>
    intro d hd
    rcases List.mem_append.1 hd with hd | hd
    · exact norm1_told (h c (by simp)) d hd
    · exact ih (fun x hx => h x (by simp [hx])) d hd
theorem runes_told {l : List Int} (h : Byt l) : ∀ d ∈ runes l, Told d := norm_told (chars_good h)
/-- What is told stays. -/
theorem norm_same {l : List Int} (h : ∀ c ∈ l, Told c) (m : List Int) : ∀ was : Int, was ≠ 13 → ∃ was' : Int, was' ≠ 13 ∧ norm was (l ++ m) = l ++ norm was' m := by
  induction l with
  | nil => exact fun was hw => ⟨was, hw, rfl⟩
  | cons c l ih =>
    intro was hw
    have hc := h c (by simp)
    obtain ⟨w', h1, h2⟩ := ih (fun x hx => h x (by simp [hx])) c hc.2.1
    refine ⟨w', h1, ?_⟩
    have e : norm1 was c = [c] := by
      unfold norm1
      rw [if_neg (by omega), if_neg (by have := hc.2; omega), if_neg (by have := hc.2; omega)]
    rw [List.cons_append, norm, h2, e]
    rfl
theorem norm_was {was : Int} (h : was ≠ 13) (m : List Int) : norm was m = norm 0 m := by
  cases m with
  | nil => rfl
  | cons c m => simp [norm, norm1, h]

/-! ### characters in bytes -/
def bytes (r : List Int) : List Int := (r.map encodeRuneZ).flatten
theorem bytes_nil : bytes [] = [] := rfl
theorem bytes_cons (c : Int) (r : List Int) : bytes (c :: r) = encodeRuneZ c ++ bytes r := rfl
theorem bytes_append (a b : List Int) : bytes (a ++ b) = bytes a ++ bytes b := by simp [bytes]

/-- A character's bytes tell it again, whatever stands behind. -/
theorem dec_encode (c : Int) (t : List Int) : dec (encodeRuneZ c ++ t) = (fix c, (encodeRuneZ c).length) := by
  unfold fix encodeRuneZ
  by_cases h1 : 0 ≤ c ∧ c ≤ 127
  · rw [if_pos h1, if_pos (by omega)]
    simp only [dec, List.cons_append, List.nil_append, List.getD_cons_zero, decodeN]
    rw [if_pos (by omega)]
    simp only [List.length_cons, List.length_nil]
    rw [Int.toNat_of_nonneg h1.1]
  · rw [if_neg h1]
    by_cases h2 : 128 ≤ c ∧ c ≤ 2047
    · rw [if_pos h2, if_pos (by omega)]
      simp only [dec, List.cons_append, List.nil_append, List.getD_cons_zero, List.getD_cons_succ, decodeN, List.length_cons]
      rw [if_neg (by omega), if_pos (by omega), if_pos (by omega)]
      simp only [List.length_nil]
      exact Prod.ext (by dsimp only; omega) rfl
    · rw [if_neg h2]
      by_cases h3 : (2048 ≤ c ∧ c < 55296) ∨ (57343 < c ∧ c ≤ 65535)
      · rw [if_pos h3, if_pos (by omega)]
        simp only [dec, List.cons_append, List.nil_append, List.getD_cons_zero, List.getD_cons_succ, decodeN, List.length_cons]
        rw [if_neg (by omega), if_neg (by omega), if_pos (by omega), if_pos (by omega)]
        simp only [List.length_nil]
        exact Prod.ext (by dsimp only; omega) rfl
      · rw [if_neg h3]
        by_cases h4 : 65536 ≤ c ∧ c ≤ 1114111
        · rw [if_pos h4, if_pos (by omega)]
          simp only [dec, List.cons_append, List.nil_append, List.getD_cons_zero, List.getD_cons_succ, decodeN, List.length_cons]
          rw [if_neg (by omega), if_neg (by omega), if_neg (by omega), if_pos (by omega), if_pos (by omega)]
          simp only [List.length_nil]
          exact Prod.ext (by dsimp only; omega) rfl
        · rw [if_neg h4, if_neg (by omega)]
          simp only [dec, List.cons_append, List.nil_append, List.getD_cons_zero, List.getD_cons_succ, decodeN, List.length_cons]
          rw [if_neg (by decide), if_neg (fun h => absurd h.1 (by decide)), if_pos ⟨by decide, ⟨by omega, by decide⟩, ⟨by omega, by decide⟩⟩, if_pos (by decide)]
          rfl
theorem encode_byt (c : Int) : Byt (encodeRuneZ c) := by
  unfold encodeRuneZ Byt
  intro x hx
  by_cases h1 : 0 ≤ c ∧ c ≤ 127
  · rw [if_pos h1] at hx; simp at hx; omega
  · rw [if_neg h1] at hx
    by_cases h2 : 128 ≤ c ∧ c ≤ 2047
    · rw [if_pos h2] at hx; simp at hx; omega
    · rw [if_neg h2] at hx
      by_cases h3 : (2048 ≤ c ∧ c < 55296) ∨ (57343 < c ∧ c ≤ 65535)
      · rw [if_pos h3] at hx; simp at hx; omega
      · rw [if_neg h3] at hx
        by_cases h4 : 65536 ≤ c ∧ c ≤ 1114111
        · rw [if_pos h4] at hx; simp at hx; omega
        · rw [if_neg h4] at hx; simp at hx; omega
theorem bytes_byt (r : List Int) : Byt (bytes r) := by
  induction r with
  | nil => intro x hx; simp [bytes_nil] at hx
  | cons c r ih => rw [bytes_cons]; exact (encode_byt c).append ih
theorem encode_ne (c : Int) : encodeRuneZ c ≠ [] := by
  unfold encodeRuneZ
  repeat' split
  all_goals simp
theorem encode_length (c : Int) : 1 ≤ (encodeRuneZ c).length ∧ (encodeRuneZ c).length ≤ 4 := by
  unfold encodeRuneZ
  repeat' split
  all_goals simp
theorem bytes_length (r : List Int) : (bytes r).length ≤ 4 * r.length := by
  induction r with
  | nil => simp [bytes_nil]
  | cons c r ih => rw [bytes_cons, List.length_append, List.length_cons]; have := encode_length c; omega

theorem chars_bytes (r : List Int) (t : List Int) (ht : Byt t) : chars (bytes r ++ t) = r.map fix ++ chars t := by
  induction r with
  | nil => rfl
  | cons c r ih =>
    rw [bytes_cons, List.append_assoc, chars_cons ((encode_byt c).append ((bytes_byt r).append ht)) (by simp [encode_ne]), dec_encode]
    dsimp only
    rw [List.drop_left, ih]
    rfl
theorem map_fix {r : List Int} (h : ∀ c ∈ r, Told c) : r.map fix = r := by
  conv => rhs; rw [← List.map_id r]
  exact List.map_congr_left fun c hc => fix_good (h c hc).1

/-- What is told once is told the same again. -/
theorem runes_back {l : List Int} (h : Byt l) : runes (bytes (runes l)) = runes l := by
  have ht := runes_told h
  have e := chars_bytes (runes l) [] (fun x hx => by simp at hx)
  rw [List.append_nil, chars_nil, List.append_nil, map_fix ht] at e
  rw [runes, e]
  obtain ⟨w', _, h2⟩ := norm_same ht [] 0 (by decide)
  simpa [norm] using h2
/-- Two texts that do not break a character, nor a line's end. -/
theorem runes_joins {a b : List Int} (ha : Byt a) (hb : Byt b) : runes (bytes (runes a) ++ b) = runes (bytes (runes a)) ++ runes b := by
  have ht := runes_told ha
  rw [runes_back ha, runes, chars_bytes (runes a) b hb, map_fix ht]
  obtain ⟨w', h1, h2⟩ := norm_same ht (chars b) 0 (by decide)
  rw [h2, norm_was h1]
  rfl

/-! ### sizes -/
def size1 (c : Int) : Int := if 0 ≤ c ∧ c < 128 then 1 else if 0 ≤ c ∧ c < 2048 then 2 else if c < 0 ∨ c < 65536 ∨ 1114111 < c then 3 else 4
theorem encode_size (c : Int) : ((encodeRuneZ c).length : Int) = size1 c := by
  unfold encodeRuneZ size1
  by_cases h1 : 0 ≤ c ∧ c ≤ 127
  · rw [if_pos h1, if_pos (show 0 ≤ c ∧ c < 128 by omega)]; rfl
  · rw [if_neg h1, if_neg (show ¬ (0 ≤ c ∧ c < 128) by omega)]
    by_cases h2 : 128 ≤ c ∧ c ≤ 2047
    · rw [if_pos h2, if_pos (show 0 ≤ c ∧ c < 2048 by omega)]; rfl
    · rw [if_neg h2, if_neg (show ¬ (0 ≤ c ∧ c < 2048) by omega)]
      by_cases h3 : (2048 ≤ c ∧ c < 55296) ∨ (57343 < c ∧ c ≤ 65535)
      · rw [if_pos h3, if_pos (show c < 0 ∨ c < 65536 ∨ 1114111 < c by omega)]; rfl
      · rw [if_neg h3]
        by_cases h4 : 65536 ≤ c ∧ c ≤ 1114111
        · rw [if_pos h4, if_neg (show ¬ (c < 0 ∨ c < 65536 ∨ 1114111 < c) by omega)]; rfl
        · rw [if_neg h4, if_pos (show c < 0 ∨ c < 65536 ∨ 1114111 < c by omega)]; rfl
def sizes : List Int → Int
  | [] => 0
  | c :: r => size1 c + sizes r
theorem bytes_sizes (r : List Int) : ((bytes r).length : Int) = sizes r := by
  induction r with
  | nil => rfl
  | cons c r ih => rw [bytes_cons, List.length_append, sizes, ← encode_size, ← ih]; omega
theorem chars_count (r : List Int) : (chars (bytes r)).length = r.length := by
  have e := chars_bytes r [] (fun x hx => by simp at hx)
  rw [List.append_nil, chars_nil, List.append_nil] at e
  rw [e, List.length_map]

end Go.Proofs.Ytagncibkgpodfaa.T
