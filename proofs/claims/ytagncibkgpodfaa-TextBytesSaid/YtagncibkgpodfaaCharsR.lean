/-
  The document's Chars and Runes, for whatever bytes: the Go text comes to the plain law's characters.
-/
import Derived.Test.YtagncibkgpodfaaChar
namespace Go.Proofs.Ytagncibkgpodfaa
open Go.RowKit Go.Proofs.YtagncibkgpodfaaW.PrintWords Go.Proofs.YtagncibkgpodfaaW.PrintLast Go.Proofs.YtagncibkgpodfaaW.PrintMore
open Go.Lib (decodeN)
set_option linter.unusedVariables false
set_option linter.unusedSimpArgs false

theorem charV_cons (b0 : Int) (t : List Int) : charV (b0 :: t) = (if b0 < 128 then (b0, 1)
    else if 192 ≤ b0 ∧ b0 < 224 then charS 1 128 (b0 - 192) (b0 :: t)
    else if 224 ≤ b0 ∧ b0 < 240 then charS 2 2048 (b0 - 224) (b0 :: t)
    else if 240 ≤ b0 ∧ b0 < 248 then charS 3 65536 (b0 - 240) (b0 :: t)
    else (0, 0)) := rfl
theorem contOk_iff (x : Int) : contOk x = true ↔ 128 ≤ x ∧ x < 192 := by simp [contOk]

theorem fin_bad {q least : Int} {n : Nat} (h : q < least ∨ q > 1114111 ∨ (55296 ≤ q ∧ q < 57344)) :
    (if (if q < least ∨ q > 1114111 ∨ (55296 ≤ q ∧ q < 57344) then ((0 : Int), (0 : Int)) else (q, (n : Int) + 1)).2 = 0 then ((65533 : Int), 1)
      else ((if q < least ∨ q > 1114111 ∨ (55296 ≤ q ∧ q < 57344) then ((0 : Int), (0 : Int)) else (q, (n : Int) + 1)).1, (if q < least ∨ q > 1114111 ∨ (55296 ≤ q ∧ q < 57344) then ((0 : Int), (0 : Int)) else (q, (n : Int) + 1)).2.toNat)) = (65533, 1) := by
  rw [if_pos h]
  rfl
theorem fin_good {q least : Int} {n : Nat} (h : ¬ (q < least ∨ q > 1114111 ∨ (55296 ≤ q ∧ q < 57344))) :
    (if (if q < least ∨ q > 1114111 ∨ (55296 ≤ q ∧ q < 57344) then ((0 : Int), (0 : Int)) else (q, (n : Int) + 1)).2 = 0 then ((65533 : Int), 1)
      else ((if q < least ∨ q > 1114111 ∨ (55296 ≤ q ∧ q < 57344) then ((0 : Int), (0 : Int)) else (q, (n : Int) + 1)).1, (if q < least ∨ q > 1114111 ∨ (55296 ≤ q ∧ q < 57344) then ((0 : Int), (0 : Int)) else (q, (n : Int) + 1)).2.toNat)) = (q, n + 1) := by
  rw [if_neg h, if_neg (show ¬ (q, (n : Int) + 1).2 = 0 by dsimp only; omega)]
  exact Prod.ext rfl (by dsimp only; omega)
set_option maxRecDepth 100000 in
set_option maxHeartbeats 1000000 in
/-- The document's char and the model's decoding tell the same. -/
theorem char_dec {l : List Int} (h : T.Byt l) (hl : l ≠ []) : T.dec l = (if (charV l).2 = 0 then (65533, 1) else ((charV l).1, (charV l).2.toNat)) := by
  match l, hl with
  | b0 :: t, _ =>
    have h0 := h b0 (by simp)
    obtain ⟨n0, rfl⟩ := Int.eq_ofNat_of_zero_le h0.1
    by_cases c1 : n0 < 128
    · have e : charV ((n0 : Int) :: t) = ((n0 : Int), 1) := by rw [charV_cons, if_pos (by omega)]
      rw [e]
      simp only [T.dec, List.getD_cons_zero, Int.toNat_natCast, decodeN]
      rw [if_pos c1]
      rfl
    by_cases c2 : 192 ≤ n0 ∧ n0 < 224
    · have e : charV ((n0 : Int) :: t) = charS 1 128 ((n0 : Int) - 192) ((n0 : Int) :: t) := by rw [charV_cons, if_neg (by omega), if_pos (by omega)]
      rw [e]
      match t with
      | [] =>
        simp only [charS, T.dec, List.length_cons, List.length_nil, List.getD_cons_zero, List.getD_cons_succ, List.getD_nil, Int.toNat_natCast, decodeN]
        rw [if_neg (by omega), if_neg (by omega), if_neg (by omega), if_neg (by omega)]
        rfl
      | b1 :: t =>
        have h1 := h b1 (by simp)
        obtain ⟨n1, rfl⟩ := Int.eq_ofNat_of_zero_le h1.1
        simp only [charS, T.dec, List.length_cons, List.getD_cons_zero, List.getD_cons_succ, Int.toNat_natCast, decodeN, List.take_succ_cons, List.take_zero, List.drop_succ_cons, List.drop_zero, foldC, List.foldl_cons, List.foldl_nil, List.all_cons, List.all_nil, Bool.and_true, contOk_iff]
        rw [if_neg (show ¬ n0 < 128 by omega), if_neg (show ¬ (t.length + 1 + 1 < 1 + 1) by omega)]
        by_cases k1 : n1 / 64 = 2
        · rw [if_pos (show n0 / 32 = 6 ∧ 1 < t.length + 1 + 1 ∧ n1 / 64 = 2 from ⟨by omega, by omega, k1⟩), if_pos (show (128 : Int) ≤ n1 ∧ (n1 : Int) < 192 by omega)]
          by_cases k2 : n0 % 32 * 64 + n1 % 64 ≥ 128
          · rw [if_pos k2, fin_good (by omega)]
            exact Prod.ext (by dsimp only; omega) rfl
          · rw [if_neg k2, fin_bad (by omega)]
            rfl
        · rw [if_neg (show ¬ (n0 / 32 = 6 ∧ 1 < t.length + 1 + 1 ∧ n1 / 64 = 2) from fun h => k1 h.2.2), if_neg (by omega), if_neg (by omega), if_neg (show ¬ ((128 : Int) ≤ n1 ∧ (n1 : Int) < 192) by omega), if_pos rfl]
          rfl
    by_cases c3 : 224 ≤ n0 ∧ n0 < 240
    · have e : charV ((n0 : Int) :: t) = charS 2 2048 ((n0 : Int) - 224) ((n0 : Int) :: t) := by rw [charV_cons, if_neg (by omega), if_neg (by omega), if_pos (by omega)]
      rw [e]
      match t with
      | [] =>
        simp only [charS, T.dec, List.length_cons, List.length_nil, List.getD_cons_zero, List.getD_cons_succ, List.getD_nil, Int.toNat_natCast, decodeN]
        rw [if_neg (by omega), if_neg (by omega), if_neg (by omega), if_neg (by omega)]
        rfl
      | [b1] =>
        simp only [charS, T.dec, List.length_cons, List.length_nil, List.getD_cons_zero, List.getD_cons_succ, List.getD_nil, Int.toNat_natCast, decodeN]
        rw [if_neg (by omega), if_neg (by omega), if_neg (by omega), if_neg (by omega)]
        rfl
      | b1 :: b2 :: t =>
        have h1 := h b1 (by simp)
        have h2 := h b2 (by simp)
        obtain ⟨n1, rfl⟩ := Int.eq_ofNat_of_zero_le h1.1
        obtain ⟨n2, rfl⟩ := Int.eq_ofNat_of_zero_le h2.1
        simp only [charS, T.dec, List.length_cons, List.getD_cons_zero, List.getD_cons_succ, Int.toNat_natCast, decodeN, List.take_succ_cons, List.take_zero, List.drop_succ_cons, List.drop_zero, foldC, List.foldl_cons, List.foldl_nil, List.all_cons, List.all_nil, Bool.and_true, Bool.and_eq_true, contOk_iff]
        rw [if_neg (show ¬ n0 < 128 by omega), if_neg (show ¬ (t.length + 1 + 1 + 1 < 2 + 1) by omega), if_neg (show ¬ (n0 / 32 = 6 ∧ 1 < t.length + 1 + 1 + 1 ∧ n1 / 64 = 2) from fun h => by omega)]
        by_cases k1 : n1 / 64 = 2 ∧ n2 / 64 = 2
        · rw [if_pos (show n0 / 16 = 14 ∧ (1 < t.length + 1 + 1 + 1 ∧ n1 / 64 = 2) ∧ 2 < t.length + 1 + 1 + 1 ∧ n2 / 64 = 2 from ⟨by omega, ⟨by omega, k1.1⟩, by omega, k1.2⟩), if_pos (show ((128 : Int) ≤ n1 ∧ (n1 : Int) < 192) ∧ (128 : Int) ≤ n2 ∧ (n2 : Int) < 192 by omega)]
          by_cases k2 : n0 % 16 * 4096 + n1 % 64 * 64 + n2 % 64 ≥ 2048 ∧ (n0 % 16 * 4096 + n1 % 64 * 64 + n2 % 64 < 55296 ∨ 57344 ≤ n0 % 16 * 4096 + n1 % 64 * 64 + n2 % 64 ∧ n0 % 16 * 4096 + n1 % 64 * 64 + n2 % 64 ≤ 1114111)
          · rw [if_pos k2, fin_good (by omega)]
            exact Prod.ext (by dsimp only; omega) rfl
          · rw [if_neg k2, fin_bad (by omega)]
            rfl
        · rw [if_neg (show ¬ (n0 / 16 = 14 ∧ (1 < t.length + 1 + 1 + 1 ∧ n1 / 64 = 2) ∧ 2 < t.length + 1 + 1 + 1 ∧ n2 / 64 = 2) from fun h => k1 ⟨h.2.1.2, h.2.2.2⟩), if_neg (by omega), if_neg (show ¬ (((128 : Int) ≤ n1 ∧ (n1 : Int) < 192) ∧ (128 : Int) ≤ n2 ∧ (n2 : Int) < 192) by omega), if_pos rfl]
          rfl
    by_cases c4 : 240 ≤ n0 ∧ n0 < 248
    · have e : charV ((n0 : Int) :: t) = charS 3 65536 ((n0 : Int) - 240) ((n0 : Int) :: t) := by rw [charV_cons, if_neg (by omega), if_neg (by omega), if_neg (by omega), if_pos (by omega)]
      rw [e]
      match t with
      | [] =>
        simp only [charS, T.dec, List.length_cons, List.length_nil, List.getD_cons_zero, List.getD_cons_succ, List.getD_nil, Int.toNat_natCast, decodeN]
        rw [if_neg (by omega), if_neg (by omega), if_neg (by omega), if_neg (by omega)]
        rfl
      | [b1] =>
        simp only [charS, T.dec, List.length_cons, List.length_nil, List.getD_cons_zero, List.getD_cons_succ, List.getD_nil, Int.toNat_natCast, decodeN]
        rw [if_neg (by omega), if_neg (by omega), if_neg (by omega), if_neg (by omega)]
        rfl
      | [b1, b2] =>
        simp only [charS, T.dec, List.length_cons, List.length_nil, List.getD_cons_zero, List.getD_cons_succ, List.getD_nil, Int.toNat_natCast, decodeN]
        rw [if_neg (by omega), if_neg (by omega), if_neg (by omega), if_neg (by omega)]
        rfl
      | b1 :: b2 :: b3 :: t =>
        have h1 := h b1 (by simp)
        have h2 := h b2 (by simp)
        have h3 := h b3 (by simp)
        obtain ⟨n1, rfl⟩ := Int.eq_ofNat_of_zero_le h1.1
        obtain ⟨n2, rfl⟩ := Int.eq_ofNat_of_zero_le h2.1
        obtain ⟨n3, rfl⟩ := Int.eq_ofNat_of_zero_le h3.1
        simp only [charS, T.dec, List.length_cons, List.getD_cons_zero, List.getD_cons_succ, Int.toNat_natCast, decodeN, List.take_succ_cons, List.take_zero, List.drop_succ_cons, List.drop_zero, foldC, List.foldl_cons, List.foldl_nil, List.all_cons, List.all_nil, Bool.and_true, Bool.and_eq_true, contOk_iff]
        rw [if_neg (show ¬ n0 < 128 by omega), if_neg (show ¬ (t.length + 1 + 1 + 1 + 1 < 3 + 1) by omega), if_neg (show ¬ (n0 / 32 = 6 ∧ 1 < t.length + 1 + 1 + 1 + 1 ∧ n1 / 64 = 2) from fun h => by omega),
          if_neg (show ¬ (n0 / 16 = 14 ∧ (1 < t.length + 1 + 1 + 1 + 1 ∧ n1 / 64 = 2) ∧ 2 < t.length + 1 + 1 + 1 + 1 ∧ n2 / 64 = 2) from fun h => by omega)]
        by_cases k1 : n1 / 64 = 2 ∧ n2 / 64 = 2 ∧ n3 / 64 = 2
        · rw [if_pos (show n0 / 8 = 30 ∧ (1 < t.length + 1 + 1 + 1 + 1 ∧ n1 / 64 = 2) ∧ (2 < t.length + 1 + 1 + 1 + 1 ∧ n2 / 64 = 2) ∧ 3 < t.length + 1 + 1 + 1 + 1 ∧ n3 / 64 = 2 from ⟨by omega, ⟨by omega, k1.1⟩, ⟨by omega, k1.2.1⟩, by omega, k1.2.2⟩),
            if_pos (show ((128 : Int) ≤ n1 ∧ (n1 : Int) < 192) ∧ ((128 : Int) ≤ n2 ∧ (n2 : Int) < 192) ∧ (128 : Int) ≤ n3 ∧ (n3 : Int) < 192 by omega)]
          by_cases k2 : n0 % 8 * 262144 + n1 % 64 * 4096 + n2 % 64 * 64 + n3 % 64 ≥ 65536 ∧ (n0 % 8 * 262144 + n1 % 64 * 4096 + n2 % 64 * 64 + n3 % 64 < 55296 ∨ 57344 ≤ n0 % 8 * 262144 + n1 % 64 * 4096 + n2 % 64 * 64 + n3 % 64 ∧ n0 % 8 * 262144 + n1 % 64 * 4096 + n2 % 64 * 64 + n3 % 64 ≤ 1114111)
          · rw [if_pos k2, fin_good (by omega)]
            exact Prod.ext (by dsimp only; omega) rfl
          · rw [if_neg k2, fin_bad (by omega)]
            rfl
        · rw [if_neg (show ¬ (n0 / 8 = 30 ∧ (1 < t.length + 1 + 1 + 1 + 1 ∧ n1 / 64 = 2) ∧ (2 < t.length + 1 + 1 + 1 + 1 ∧ n2 / 64 = 2) ∧ 3 < t.length + 1 + 1 + 1 + 1 ∧ n3 / 64 = 2) from fun h => k1 ⟨h.2.1.2, h.2.2.1.2, h.2.2.2.2⟩), if_neg (show ¬ (((128 : Int) ≤ n1 ∧ (n1 : Int) < 192) ∧ ((128 : Int) ≤ n2 ∧ (n2 : Int) < 192) ∧ (128 : Int) ≤ n3 ∧ (n3 : Int) < 192) by omega), if_pos rfl]
          rfl
    have e : charV ((n0 : Int) :: t) = (0, 0) := by rw [charV_cons, if_neg (by omega), if_neg (by omega), if_neg (by omega), if_neg (by omega)]
    rw [e]
    simp only [T.dec, List.getD_cons_zero, Int.toNat_natCast, decodeN]
    rw [if_neg c1, if_neg (by omega), if_neg (by omega), if_neg (by omega), if_pos trivial]
    rfl
theorem charV_range {l : List Int} : 0 ≤ (charV l).2 := by
  cases l with
  | nil => exact Int.le_refl _
  | cons b t =>
    rw [charV_cons]
    unfold charS
    repeat' split
    all_goals first | exact Int.le_refl _ | (dsimp only; omega)
theorem charV_width {l : List Int} (h : T.Byt l) (hl : l ≠ []) (h0 : (charV l).2 ≠ 0) : 1 ≤ (charV l).2 ∧ (charV l).2 ≤ l.length := by
  have e := char_dec h hl
  rw [if_neg h0] at e
  have hw := T.dec_width h hl
  rw [e] at hw
  dsimp only at hw
  have := charV_range (l := l)
  omega

set_option maxHeartbeats 1000000 in
theorem char_c (A : Option Addr) (c : Nat) (l : List Int) (w : World) (hC : Kd.C (Kd.int .u8) w A l.length l) (hcl : l.length ≤ c) (hl : T.Byt l) (hn : l.length ≤ 9223372036854775807) (hne : l ≠ []) :
    Calls Try.prog 34 #[.slice A l.length c] w fun e w' => e = .returned (.tuple #[.int .i32 (charV l).1, .int .i64 (charV l).2]) ∧ w = w' := by
  match l, hne with
  | b0 :: t, _ =>
    obtain ⟨ad, rfl, hc⟩ := head_cell hC 0 (by simp)
    rw [add0] at hc
    have hc : w.cell? ad = some (.int .u8 b0) := hc
    have h0 := hl b0 (by simp)
    rw [charV_cons]
    by_cases c1 : b0 < 128
    · rw [if_pos c1]
      exact char_one ad c _ b0 w hc h0.1 c1 (by simp)
    rw [if_neg c1]
    by_cases c2 : 192 ≤ b0 ∧ b0 < 224
    · rw [if_pos c2]
      exact char_1 ad c (b0 :: t) b0 w hC hcl hl hc c2.1 c2.2 hn (by simp)
    rw [if_neg c2]
    by_cases c3 : 224 ≤ b0 ∧ b0 < 240
    · rw [if_pos c3]
      exact char_2 ad c (b0 :: t) b0 w hC hcl hl hc c3.1 c3.2 hn (by simp)
    rw [if_neg c3]
    by_cases c4 : 240 ≤ b0 ∧ b0 < 248
    · rw [if_pos c4]
      exact char_3 ad c (b0 :: t) b0 w hC hcl hl hc c4.1 c4.2 hn (by simp)
    rw [if_neg c4]
    exact char_none ad c _ b0 w hc (by omega) h0.2 (by omega) (by simp)

def sliceLen : Value → Nat
  | .slice _ n _ => n
  | _ => 0

set_option maxHeartbeats 2000000 in
set_option maxRecDepth 100000 in
theorem chars_c (A : Option Addr) (c : Nat) (l : List Int) (w : World) (hC : Kd.C (Kd.int .u8) w A l.length l) (hcl : l.length ≤ c) (hl : T.Byt l) (hn : l.length ≤ 1000000) :
    Calls Try.prog 30 #[.slice A l.length c] w fun e w' => ∃ v, e = .returned v ∧ Kd.R (Kd.int .i32) 21 w' w.heap.size (fun k => w.heap.size ≤ k) v (T.chars l) ∧ Below w.heap.size w w' := by
  have HC := Aside0.mk hC
  have HL := Aside0.mk hl
  have HCL := Aside0.mk hcl
  clear hC hl hcl
  go_enter Try.func30, Try.ntmps30
  go_wp2
  go_loopw [0, 3] (fun b v wr => ∃ (A1 : Option Addr) (c1 : Nat) (l1 : List Int) (acc : List Int), b = .slice A1 l1.length c1 ∧ l1.length ≤ l.length ∧ Aside0 (T.Byt l1) ∧ Aside0 (Kd.C (Kd.int .u8) w A1 l1.length l1) ∧ Aside0 (l1.length ≤ c1) ∧
      Aside0 (acc ++ T.chars l1 = T.chars l) ∧ Aside0 (acc.length + l1.length ≤ l.length) ∧ Aside0 (Kd.R (Kd.int .i32) 21 wr w.heap.size (fun k => w.heap.size ≤ k) v acc) ∧ Aside0 (Below w.heap.size w wr)) (fun b _ _ => sliceLen b)
  case atStart => exact ⟨A, c, l, [], rfl, Nat.le_refl _, HL, HC, HCL, ⟨rfl⟩, ⟨by simp⟩, ⟨Kd.R_nil _ _ _ _ _⟩, ⟨Below.refl _ _⟩⟩
  case round =>
    obtain ⟨A1, c1, l1, acc, rfl, hle, HL1, HC1, HCL1, HA, HN, HR, HB⟩ := hrel
    by_cases hp : 0 < l1.length
    · have hne : l1 ≠ [] := List.length_pos_iff.1 hp
      have hch := T.chars_cons HL1.out hne
      have hcd := char_dec HL1.out hne
      have hwd := charV_width HL1.out hne
      have HCC := Aside0.mk (char_c A1 c1 l1 wr (Kd.C_below HC1.out HB.out) HCL1.out HL1.out (by omega) hne)
      obtain ⟨i0, hi, hz0, hz1, hz2⟩ := info_parts info5
      have hs5 : w.heap.size ≤ wr.heap.size := HB.out.size
      generalize charV l1 = p at hcd hwd HCC
      obtain ⟨ch, wd⟩ := p
      dsimp only at hcd hwd HCC
      by_cases h0 : wd = 0
      · rw [if_pos h0] at hcd
        rw [hcd] at hch
        dsimp only at hch
        subst h0
        obtain ⟨A2, hrun, hrd, hle2⟩ := print_drop_of (P := Try.prog) (Value.int .u8) (0 : Int) 22 5 .i64 Try.underlying22 hi hz1 A1 c1 l1 1 (by decide) (by omega) HCL1.out
        change ∀ W : World, (Instr.slice 22 (.slice A1 l1.length c1) (some (.int .i64 1)) none none).run Try.prog W = .ok (.slice A2 (l1.drop 1).length (c1 - 1)) W at hrun
        have HC2 := Aside0.mk (Kd.C_of_reads (h1 := fun _ => rfl) (hrd w (Kd.reads_of_C (enc := Value.int .u8) (d := (0 : Int)) (h1 := fun _ => rfl) HC1.out)))
        change Aside0 (Kd.C (Kd.int .u8) w A2 (l1.drop 1).length (l1.drop 1)) at HC2
        have HLE2 := Aside0.mk hle2
        change Aside0 ((l1.drop 1).length ≤ c1 - 1) at HLE2
        have HL2 := Aside0.mk (HL1.out.drop 1)
        have hlen2 : (l1.drop 1).length + 1 = l1.length := by rw [List.length_drop]; omega
        have HA2 : Aside0 ((acc ++ [65533]) ++ T.chars (l1.drop 1) = T.chars l) := ⟨by rw [← HA.out, hch]; simp⟩
        clear hch hcd hwd hrd hle2 HA HC1 HL1 HCL1 hi hz0 hz1 hz2 hne
        generalize l1.drop 1 = l2 at hrun HC2 HLE2 HL2 hlen2 HA2
        have HLEN2 := Aside0.mk hlen2
        have hle3 : l2.length < l1.length := by omega
        have HN2 : Aside0 ((acc ++ [65533]).length + l2.length ≤ l.length) := ⟨by rw [List.length_append, List.length_cons, List.length_nil]; have := HN.out; omega⟩
        clear hlen2
        have g1 : (0 : Int) < (l1.length : Int) := by omega
        go_wp2_with (first | (go_at_call 34; refine HCC.out.mono ?_; rintro e w' ⟨rfl, rfl⟩) | (at_builtin; refine Kd.R_append (Kd.int .i32) (w0 := w) w.heap.size rfl (.tmp 16) (.tmp 18) 25 21 (.int .i32 0) 4 rfl Try.underlying25 info21 rfl (by decide) (by omega) u3 acc 65533 [.int .i32 65533] (fun k => w.heap.size ≤ k) (fun _ => False) rfl rfl ?aP (fun _ hk => hk.elim) ?aF ?aO ?aB ?aS ?aL ?_; (case aP => exact rfl); (case aF => exact (fun k hk => by omega)); (case aO => exact HR.out); (case aB => exact HB.out); (case aS => exact hs5); (case aL => have := HN.out; omega); intro v1 w5 ho hb hg hat; have HR3 := Aside0.mk ho; have HB3 := Aside0.mk hb; clear ho hb hg hat))
        go_roundw
        case rel => exact ⟨A2, c1 - 1, l2, acc ++ [65533], rfl, by omega, HL2, HC2, HLE2, HA2, HN2, HR3, HB3⟩
        case measure => simp only [sliceLen]; omega
      · rw [if_neg h0] at hcd
        rw [hcd] at hch
        dsimp only at hch
        have hw := hwd h0
        obtain ⟨A2, hrun, hrd, hle2⟩ := print_drop_of (P := Try.prog) (Value.int .u8) (0 : Int) 22 5 .i64 Try.underlying22 hi hz1 A1 c1 l1 wd (by omega) (by omega) HCL1.out
        have HC2 := Aside0.mk (Kd.C_of_reads (h1 := fun _ => rfl) (hrd w (Kd.reads_of_C (enc := Value.int .u8) (d := (0 : Int)) (h1 := fun _ => rfl) HC1.out)))
        change Aside0 (Kd.C (Kd.int .u8) w A2 (l1.drop wd.toNat).length (l1.drop wd.toNat)) at HC2
        have HLE2 := Aside0.mk hle2
        have HL2 := Aside0.mk (HL1.out.drop wd.toNat)
        have hlen2 : (l1.drop wd.toNat).length + 1 ≤ l1.length := by rw [List.length_drop]; omega
        have HA2 : Aside0 ((acc ++ [ch]) ++ T.chars (l1.drop wd.toNat) = T.chars l) := ⟨by rw [← HA.out, hch]; simp⟩
        have g2 : (wd == 0) = false := by simpa using h0
        have hw1 := hw.1
        have hw2 := hw.2
        clear hch hcd hwd hrd hle2 HA HC1 HL1 HCL1 hi hz0 hz1 hz2 hne h0 hw
        generalize l1.drop wd.toNat = l2 at hrun HC2 HLE2 HL2 hlen2 HA2
        have hle3 : l2.length < l1.length := by omega
        have HN2 : Aside0 ((acc ++ [ch]).length + l2.length ≤ l.length) := ⟨by rw [List.length_append, List.length_cons, List.length_nil]; have := HN.out; omega⟩
        clear hlen2
        have g1 : (0 : Int) < (l1.length : Int) := by omega
        go_wp2_with (first | (go_at_call 34; refine HCC.out.mono ?_; rintro e w' ⟨rfl, rfl⟩) | (at_builtin; refine Kd.R_append (Kd.int .i32) (w0 := w) w.heap.size rfl (.tmp 16) (.tmp 18) 25 21 (.int .i32 0) 4 rfl Try.underlying25 info21 rfl (by decide) (by omega) u3 acc ch [.int .i32 ch] (fun k => w.heap.size ≤ k) (fun _ => False) rfl rfl ?bP (fun _ hk => hk.elim) ?bF ?bO ?bB ?bS ?bL ?_; (case bP => exact rfl); (case bF => exact (fun k hk => by omega)); (case bO => exact HR.out); (case bB => exact HB.out); (case bS => exact hs5); (case bL => have := HN.out; omega); intro v1 w5 ho hb hg hat; have HR3 := Aside0.mk ho; have HB3 := Aside0.mk hb; clear ho hb hg hat))
        go_roundw
        case rel => exact ⟨A2, c1 - wd.toNat, l2, acc ++ [ch], rfl, by omega, HL2, HC2, HLE2, HA2, HN2, HR3, HB3⟩
        case measure => simp only [sliceLen]; omega
    · obtain rfl : l1 = [] := List.eq_nil_of_length_eq_zero (by omega)
      have HE2 : Aside0 (T.chars l = acc) := ⟨by rw [← HA.out, T.chars_nil, List.append_nil]⟩
      clear HA
      go_wp2
      go_ret
      exact ⟨_, rfl, by rw [HE2.out]; exact HR.out, HB.out⟩

end Go.Proofs.Ytagncibkgpodfaa
