/-
  The document's char: the character that bytes begin with, for whatever bytes.
-/
import Derived.Test.YtagncibkgpodfaaRunes
namespace Go.Proofs.Ytagncibkgpodfaa
open Go.RowKit Go.Proofs.YtagncibkgpodfaaW.PrintWords Go.Proofs.YtagncibkgpodfaaW.PrintLast Go.Proofs.YtagncibkgpodfaaW.PrintMore
set_option linter.unusedVariables false
set_option linter.unusedSimpArgs false

def contOk (x : Int) : Bool := decide (128 ≤ x) && decide (x < 192)
def foldC (c : Int) (m : List Int) : Int := m.foldl (fun c x => c * 64 + (x - 128)) c
def charS (n : Nat) (least c0 : Int) (l : List Int) : Int × Int :=
  if l.length < n + 1 then (0, 0)
  else if ((l.take (n + 1)).drop 1).all contOk = true then
    (if foldC c0 ((l.take (n + 1)).drop 1) < least ∨ foldC c0 ((l.take (n + 1)).drop 1) > 1114111 ∨ (55296 ≤ foldC c0 ((l.take (n + 1)).drop 1) ∧ foldC c0 ((l.take (n + 1)).drop 1) < 57344) then (0, 0)
     else (foldC c0 ((l.take (n + 1)).drop 1), (n : Int) + 1))
  else (0, 0)
def charV : List Int → Int × Int
  | [] => (0, 0)
  | b0 :: t =>
    if b0 < 128 then (b0, 1)
    else if 192 ≤ b0 ∧ b0 < 224 then charS 1 128 (b0 - 192) (b0 :: t)
    else if 224 ≤ b0 ∧ b0 < 240 then charS 2 2048 (b0 - 224) (b0 :: t)
    else if 240 ≤ b0 ∧ b0 < 248 then charS 3 65536 (b0 - 240) (b0 :: t)
    else (0, 0)

theorem foldC_snoc (c : Int) (m : List Int) (x : Int) : foldC c (m ++ [x]) = foldC c m * 64 + (x - 128) := by simp [foldC]
theorem all_snoc (m : List Int) (x : Int) : (m ++ [x]).all contOk = (m.all contOk && contOk x) := by simp
theorem take_next (m : List Int) (j : Nat) (h : j < m.length) : m.take (j + 1) = m.take j ++ [m[j]] := List.take_succ_eq_append_getElem h

/-- b's head, read. -/
theorem head_cell {W : World} {A : Option Addr} {l : List Int} (h : Kd.C (Kd.int .u8) W A l.length l) (j : Nat) (hj : j < l.length) : ∃ ad, A = some ad ∧ W.cell? (ad.add j) = some (.int .u8 l[j]) := by
  obtain ⟨ad, rfl, hc⟩ := Kd.at_int h (j : Int) (by omega) (by omega)
  refine ⟨ad, rfl, ?_⟩
  rw [Int.toNat_natCast] at hc
  rw [hc]
  unfold rd
  rw [Int.toNat_natCast, List.getD_eq_getElem?_getD, List.getElem?_eq_getElem hj]
  rfl
theorem add0 (ad : Addr) : ad.add 0 = ad := by simp [Addr.add]

set_option maxHeartbeats 1000000 in
set_option maxRecDepth 100000 in
theorem char_one (ad : Addr) (c : Nat) (n0 : Nat) (b0 : Int) (w : World) (hc : w.cell? ad = some (.int .u8 b0)) (h0 : 0 ≤ b0) (h1 : b0 < 128) (hn : 0 < n0) :
    Calls Try.prog 34 #[.slice (some ad) n0 c] w fun e w' => e = .returned (.tuple #[.int .i32 b0, .int .i64 1]) ∧ w = w' := by
  have hc0 : w.cell? (ad.add 0) = some (.int .u8 b0) := by rw [add0]; exact hc
  go_enter Try.func34, Try.ntmps34
  go_wp2
  go_ret2
  exact ⟨rfl, rfl⟩
set_option maxHeartbeats 1000000 in
set_option maxRecDepth 100000 in
theorem char_none (ad : Addr) (c : Nat) (n0 : Nat) (b0 : Int) (w : World) (hc : w.cell? ad = some (.int .u8 b0)) (h0 : 128 ≤ b0) (h1 : b0 < 256) (h2 : b0 < 192 ∨ 248 ≤ b0) (hn : 0 < n0) :
    Calls Try.prog 34 #[.slice (some ad) n0 c] w fun e w' => e = .returned (.tuple #[.int .i32 0, .int .i64 0]) ∧ w = w' := by
  have hc0 : w.cell? (ad.add 0) = some (.int .u8 b0) := by rw [add0]; exact hc
  rcases h2 with h2 | h2
  · go_enter Try.func34, Try.ntmps34
    go_wp2
    go_ret2
    exact ⟨rfl, rfl⟩
  · go_enter Try.func34, Try.ntmps34
    go_wp2
    go_ret2
    exact ⟨rfl, rfl⟩

set_option maxHeartbeats 2000000 in
set_option maxRecDepth 100000 in
theorem char_1 (ad : Addr) (c : Nat) (l : List Int) (b0 : Int) (w : World) (hC : Kd.C (Kd.int .u8) w (some ad) l.length l) (hcl : l.length ≤ c) (hl : T.Byt l) (hc : w.cell? ad = some (.int .u8 b0)) (h0 : 192 ≤ b0) (h1 : b0 < 224) (hn : l.length ≤ 9223372036854775807) (hp : 0 < l.length) :
    Calls Try.prog 34 #[.slice (some ad) l.length c] w fun e w' => e = .returned (.tuple #[.int .i32 (charS 1 128 (b0 - 192) l).1, .int .i64 (charS 1 128 (b0 - 192) l).2]) ∧ w = w' := by
  have hc0 : w.cell? (ad.add 0) = some (.int .u8 b0) := by rw [add0]; exact hc

  by_cases hlen : l.length < 2
  · have HV : Aside0 (charS 1 128 (b0 - 192) l = (0, 0)) := ⟨by unfold charS; rw [if_pos (by omega)]⟩
    have HL := Aside0.mk hl
    clear hC hl
    go_enter Try.func34, Try.ntmps34
    go_wp2
    go_ret2
    exact ⟨by rw [HV.out]; rfl, rfl⟩
  · obtain ⟨i0, hi, hz0, hz1, hz2⟩ := info_parts info5
    obtain ⟨A', hrun, hrd, hle⟩ := print_mid_int (P := Try.prog) (k := .u8) 22 5 Try.underlying22 hi hz1 (some ad) c l 1 2 (by decide) (by decide) (by omega) hcl
    have hC2 := Kd.C_of_reads (h1 := fun _ => rfl) (hrd w (Kd.reads_of_C (enc := Value.int .u8) (d := (0 : Int)) (h1 := fun _ => rfl) hC))
    have hS : charS 1 128 (b0 - 192) l = (if ((l.take 2).drop 1).all contOk = true then (if foldC (b0 - 192) ((l.take 2).drop 1) < 128 ∨ foldC (b0 - 192) ((l.take 2).drop 1) > 1114111 ∨ (55296 ≤ foldC (b0 - 192) ((l.take 2).drop 1) ∧ foldC (b0 - 192) ((l.take 2).drop 1) < 57344) then (0, 0) else (foldC (b0 - 192) ((l.take 2).drop 1), 1 + 1)) else (0, 0)) := by unfold charS; rw [if_neg (by omega)]; rfl
    have hm : ((l.take 2).drop 1).length = 1 := by rw [List.length_drop, List.length_take]; omega
    have hb : ∀ x ∈ (l.take 2).drop 1, 0 ≤ x ∧ x < 256 := fun x hx => hl x (List.mem_of_mem_take (List.mem_of_mem_drop hx))
    change Kd.C (Kd.int .u8) w A' ((l.take 2).drop 1).length ((l.take 2).drop 1) at hC2
    change ∀ W : World, (Instr.slice 22 (.slice (some ad) l.length c) (some (.int .i64 1)) (some (.int .i64 2)) none).run Try.prog W = .ok (.slice A' ((l.take 2).drop 1).length (c - 1)) W at hrun
    generalize (l.take 2).drop 1 = m at hC2 hrun hS hm hb
    have HC2 := Aside0.mk hC2
    have HB := Aside0.mk hb
    have HS := Aside0.mk hS
    have HM := Aside0.mk hm
    rw [hm] at hrun
    clear hC2 hb hS hm hrd hle hi hz0 hz1 hz2 hl hC
    have g3 : ¬ ((l.length : Int) < 2) := by omega
    go_enter Try.func34, Try.ntmps34
    go_wp2
    go_loop [4, 54] (fun v i => ∃ (j : Nat) (q : Int), i = .int .i64 j ∧ v = .int .i32 q ∧ j ≤ 1 ∧ 0 ≤ q ∧ q < 32 * 64 ^ j ∧ Aside0 (q = foldC (b0 - 192) (m.take j)) ∧ Aside0 ((m.take j).all contOk = true)) (fun _ i => 1 - (intOf i).toNat)
    case atStart => exact ⟨0, b0 - 192, rfl, rfl, Nat.zero_le _, by omega, by omega, ⟨rfl⟩, ⟨rfl⟩⟩
    case round =>
      obtain ⟨j, q, rfl, rfl, hj, hq0, hq1, HF, HA⟩ := hrel
      by_cases hlt : j < 1
      · have hjm : j < m.length := by have := HM.out; omega
        obtain ⟨ad2, rfl, hx⟩ := head_cell HC2.out j hjm
        obtain ⟨hx0, hx1⟩ := HB.out m[j] (List.getElem_mem hjm)
        have HT : Aside0 (m.take (j + 1) = m.take j ++ [m[j]]) := ⟨take_next m j hjm⟩
        have HX : Aside0 (contOk m[j] = false → m.all contOk = false) := ⟨fun h => by
          rw [List.all_eq_false]
          exact ⟨m[j], List.getElem_mem hjm, by simp [h]⟩⟩
        generalize m[j] = x at hx hx0 hx1 HT HX
        have hq2 : q < 524288 := by
          have : j = 0 ∨ j = 1 ∨ j = 2 := by omega
          rcases this with rfl | rfl | rfl <;> omega
        by_cases hok : 128 ≤ x ∧ x < 192
        · obtain ⟨hk1, hk2⟩ := hok
          have HF2 : Aside0 (q * 64 + (x - 128) = foldC (b0 - 192) (m.take (j + 1))) := ⟨by rw [HT.out, foldC_snoc, ← HF.out]⟩
          have HA2 : Aside0 ((m.take (j + 1)).all contOk = true) := ⟨by rw [HT.out, all_snoc, HA.out]; simp [contOk, hk1, hk2]⟩
          clear HF HA HT HX
          have hq3 : q * 64 + (x - 128) < 32 * 64 ^ (j + 1) := by
            have : j = 0 ∨ j = 1 ∨ j = 2 := by omega
            rcases this with rfl | rfl | rfl <;> omega
          have HQ3 := Aside0.mk hq3
          clear hq3 hq1
          go_wp2
          go_round
          case rel => exact ⟨j + 1, q * 64 + (x - 128), by go_num, rfl, hlt, by omega, HQ3.out, HF2, HA2⟩
          case measure => simp [intOf]; omega
        · have HV : Aside0 (charS 1 128 (b0 - 192) l = (0, 0)) := ⟨by
            rw [HS.out, if_neg]
            rw [HX.out (by simp [contOk]; omega)]
            decide⟩
          clear HF HA HT HX hq1
          by_cases hlow : x < 128
          · go_wp2
            go_ret2
            exact ⟨by rw [HV.out]; rfl, rfl⟩
          · have hhi : 192 ≤ x := by omega
            go_wp2
            go_ret2
            exact ⟨by rw [HV.out]; rfl, rfl⟩
      · have hjn : j = 1 := by omega
        subst hjn
        have hq2 : q < 2097152 := by omega
        have HT : Aside0 (m.take 1 = m) := ⟨List.take_of_length_le (by have := HM.out; omega)⟩
        rw [HT.out] at HF HA
        have HS2 : Aside0 (charS 1 128 (b0 - 192) l = (if q < 128 ∨ q > 1114111 ∨ (55296 ≤ q ∧ q < 57344) then (0, 0) else (q, 1 + 1))) := ⟨by rw [HS.out, if_pos HA.out, ← HF.out]⟩
        clear HF HA HT HS hq1 hlt
        by_cases k1 : q < 128
        · have HV : Aside0 (charS 1 128 (b0 - 192) l = (0, 0)) := ⟨by rw [HS2.out, if_pos (Or.inl k1)]⟩
          go_wp2
          go_ret2
          exact ⟨by rw [HV.out]; rfl, rfl⟩
        by_cases k2 : q > 1114111
        · have HV : Aside0 (charS 1 128 (b0 - 192) l = (0, 0)) := ⟨by rw [HS2.out, if_pos (Or.inr (Or.inl k2))]⟩
          go_wp2
          go_ret2
          exact ⟨by rw [HV.out]; rfl, rfl⟩
        by_cases k3 : 55296 ≤ q
        · by_cases k4 : q < 57344
          · have HV : Aside0 (charS 1 128 (b0 - 192) l = (0, 0)) := ⟨by rw [HS2.out, if_pos (Or.inr (Or.inr ⟨k3, k4⟩))]⟩
            go_wp2
            go_ret2
            exact ⟨by rw [HV.out]; rfl, rfl⟩
          · have HV : Aside0 (charS 1 128 (b0 - 192) l = (q, 1 + 1)) := ⟨by rw [HS2.out, if_neg (by omega)]⟩
            go_wp2
            go_ret2
            exact ⟨by rw [HV.out]; rfl, rfl⟩
        · have HV : Aside0 (charS 1 128 (b0 - 192) l = (q, 1 + 1)) := ⟨by rw [HS2.out, if_neg (by omega)]⟩
          go_wp2
          go_ret2
          exact ⟨by rw [HV.out]; rfl, rfl⟩

set_option maxHeartbeats 2000000 in
set_option maxRecDepth 100000 in
theorem char_2 (ad : Addr) (c : Nat) (l : List Int) (b0 : Int) (w : World) (hC : Kd.C (Kd.int .u8) w (some ad) l.length l) (hcl : l.length ≤ c) (hl : T.Byt l) (hc : w.cell? ad = some (.int .u8 b0)) (h0 : 224 ≤ b0) (h1 : b0 < 240) (hn : l.length ≤ 9223372036854775807) (hp : 0 < l.length) :
    Calls Try.prog 34 #[.slice (some ad) l.length c] w fun e w' => e = .returned (.tuple #[.int .i32 (charS 2 2048 (b0 - 224) l).1, .int .i64 (charS 2 2048 (b0 - 224) l).2]) ∧ w = w' := by
  have hc0 : w.cell? (ad.add 0) = some (.int .u8 b0) := by rw [add0]; exact hc

  by_cases hlen : l.length < 3
  · have HV : Aside0 (charS 2 2048 (b0 - 224) l = (0, 0)) := ⟨by unfold charS; rw [if_pos (by omega)]⟩
    have HL := Aside0.mk hl
    clear hC hl
    go_enter Try.func34, Try.ntmps34
    go_wp2
    go_ret2
    exact ⟨by rw [HV.out]; rfl, rfl⟩
  · obtain ⟨i0, hi, hz0, hz1, hz2⟩ := info_parts info5
    obtain ⟨A', hrun, hrd, hle⟩ := print_mid_int (P := Try.prog) (k := .u8) 22 5 Try.underlying22 hi hz1 (some ad) c l 1 3 (by decide) (by decide) (by omega) hcl
    have hC2 := Kd.C_of_reads (h1 := fun _ => rfl) (hrd w (Kd.reads_of_C (enc := Value.int .u8) (d := (0 : Int)) (h1 := fun _ => rfl) hC))
    have hS : charS 2 2048 (b0 - 224) l = (if ((l.take 3).drop 1).all contOk = true then (if foldC (b0 - 224) ((l.take 3).drop 1) < 2048 ∨ foldC (b0 - 224) ((l.take 3).drop 1) > 1114111 ∨ (55296 ≤ foldC (b0 - 224) ((l.take 3).drop 1) ∧ foldC (b0 - 224) ((l.take 3).drop 1) < 57344) then (0, 0) else (foldC (b0 - 224) ((l.take 3).drop 1), 2 + 1)) else (0, 0)) := by unfold charS; rw [if_neg (by omega)]; rfl
    have hm : ((l.take 3).drop 1).length = 2 := by rw [List.length_drop, List.length_take]; omega
    have hb : ∀ x ∈ (l.take 3).drop 1, 0 ≤ x ∧ x < 256 := fun x hx => hl x (List.mem_of_mem_take (List.mem_of_mem_drop hx))
    change Kd.C (Kd.int .u8) w A' ((l.take 3).drop 1).length ((l.take 3).drop 1) at hC2
    change ∀ W : World, (Instr.slice 22 (.slice (some ad) l.length c) (some (.int .i64 1)) (some (.int .i64 3)) none).run Try.prog W = .ok (.slice A' ((l.take 3).drop 1).length (c - 1)) W at hrun
    generalize (l.take 3).drop 1 = m at hC2 hrun hS hm hb
    have HC2 := Aside0.mk hC2
    have HB := Aside0.mk hb
    have HS := Aside0.mk hS
    have HM := Aside0.mk hm
    rw [hm] at hrun
    clear hC2 hb hS hm hrd hle hi hz0 hz1 hz2 hl hC
    have g3 : ¬ ((l.length : Int) < 3) := by omega
    go_enter Try.func34, Try.ntmps34
    go_wp2
    go_loop [4, 54] (fun v i => ∃ (j : Nat) (q : Int), i = .int .i64 j ∧ v = .int .i32 q ∧ j ≤ 2 ∧ 0 ≤ q ∧ q < 16 * 64 ^ j ∧ Aside0 (q = foldC (b0 - 224) (m.take j)) ∧ Aside0 ((m.take j).all contOk = true)) (fun _ i => 2 - (intOf i).toNat)
    case atStart => exact ⟨0, b0 - 224, rfl, rfl, Nat.zero_le _, by omega, by omega, ⟨rfl⟩, ⟨rfl⟩⟩
    case round =>
      obtain ⟨j, q, rfl, rfl, hj, hq0, hq1, HF, HA⟩ := hrel
      by_cases hlt : j < 2
      · have hjm : j < m.length := by have := HM.out; omega
        obtain ⟨ad2, rfl, hx⟩ := head_cell HC2.out j hjm
        obtain ⟨hx0, hx1⟩ := HB.out m[j] (List.getElem_mem hjm)
        have HT : Aside0 (m.take (j + 1) = m.take j ++ [m[j]]) := ⟨take_next m j hjm⟩
        have HX : Aside0 (contOk m[j] = false → m.all contOk = false) := ⟨fun h => by
          rw [List.all_eq_false]
          exact ⟨m[j], List.getElem_mem hjm, by simp [h]⟩⟩
        generalize m[j] = x at hx hx0 hx1 HT HX
        have hq2 : q < 524288 := by
          have : j = 0 ∨ j = 1 ∨ j = 2 := by omega
          rcases this with rfl | rfl | rfl <;> omega
        by_cases hok : 128 ≤ x ∧ x < 192
        · obtain ⟨hk1, hk2⟩ := hok
          have HF2 : Aside0 (q * 64 + (x - 128) = foldC (b0 - 224) (m.take (j + 1))) := ⟨by rw [HT.out, foldC_snoc, ← HF.out]⟩
          have HA2 : Aside0 ((m.take (j + 1)).all contOk = true) := ⟨by rw [HT.out, all_snoc, HA.out]; simp [contOk, hk1, hk2]⟩
          clear HF HA HT HX
          have hq3 : q * 64 + (x - 128) < 16 * 64 ^ (j + 1) := by
            have : j = 0 ∨ j = 1 ∨ j = 2 := by omega
            rcases this with rfl | rfl | rfl <;> omega
          have HQ3 := Aside0.mk hq3
          clear hq3 hq1
          go_wp2
          go_round
          case rel => exact ⟨j + 1, q * 64 + (x - 128), by go_num, rfl, hlt, by omega, HQ3.out, HF2, HA2⟩
          case measure => simp [intOf]; omega
        · have HV : Aside0 (charS 2 2048 (b0 - 224) l = (0, 0)) := ⟨by
            rw [HS.out, if_neg]
            rw [HX.out (by simp [contOk]; omega)]
            decide⟩
          clear HF HA HT HX hq1
          by_cases hlow : x < 128
          · go_wp2
            go_ret2
            exact ⟨by rw [HV.out]; rfl, rfl⟩
          · have hhi : 192 ≤ x := by omega
            go_wp2
            go_ret2
            exact ⟨by rw [HV.out]; rfl, rfl⟩
      · have hjn : j = 2 := by omega
        subst hjn
        have hq2 : q < 2097152 := by omega
        have HT : Aside0 (m.take 2 = m) := ⟨List.take_of_length_le (by have := HM.out; omega)⟩
        rw [HT.out] at HF HA
        have HS2 : Aside0 (charS 2 2048 (b0 - 224) l = (if q < 2048 ∨ q > 1114111 ∨ (55296 ≤ q ∧ q < 57344) then (0, 0) else (q, 2 + 1))) := ⟨by rw [HS.out, if_pos HA.out, ← HF.out]⟩
        clear HF HA HT HS hq1 hlt
        by_cases k1 : q < 2048
        · have HV : Aside0 (charS 2 2048 (b0 - 224) l = (0, 0)) := ⟨by rw [HS2.out, if_pos (Or.inl k1)]⟩
          go_wp2
          go_ret2
          exact ⟨by rw [HV.out]; rfl, rfl⟩
        by_cases k2 : q > 1114111
        · have HV : Aside0 (charS 2 2048 (b0 - 224) l = (0, 0)) := ⟨by rw [HS2.out, if_pos (Or.inr (Or.inl k2))]⟩
          go_wp2
          go_ret2
          exact ⟨by rw [HV.out]; rfl, rfl⟩
        by_cases k3 : 55296 ≤ q
        · by_cases k4 : q < 57344
          · have HV : Aside0 (charS 2 2048 (b0 - 224) l = (0, 0)) := ⟨by rw [HS2.out, if_pos (Or.inr (Or.inr ⟨k3, k4⟩))]⟩
            go_wp2
            go_ret2
            exact ⟨by rw [HV.out]; rfl, rfl⟩
          · have HV : Aside0 (charS 2 2048 (b0 - 224) l = (q, 2 + 1)) := ⟨by rw [HS2.out, if_neg (by omega)]⟩
            go_wp2
            go_ret2
            exact ⟨by rw [HV.out]; rfl, rfl⟩
        · have HV : Aside0 (charS 2 2048 (b0 - 224) l = (q, 2 + 1)) := ⟨by rw [HS2.out, if_neg (by omega)]⟩
          go_wp2
          go_ret2
          exact ⟨by rw [HV.out]; rfl, rfl⟩

set_option maxHeartbeats 2000000 in
set_option maxRecDepth 100000 in
theorem char_3 (ad : Addr) (c : Nat) (l : List Int) (b0 : Int) (w : World) (hC : Kd.C (Kd.int .u8) w (some ad) l.length l) (hcl : l.length ≤ c) (hl : T.Byt l) (hc : w.cell? ad = some (.int .u8 b0)) (h0 : 240 ≤ b0) (h1 : b0 < 248) (hn : l.length ≤ 9223372036854775807) (hp : 0 < l.length) :
    Calls Try.prog 34 #[.slice (some ad) l.length c] w fun e w' => e = .returned (.tuple #[.int .i32 (charS 3 65536 (b0 - 240) l).1, .int .i64 (charS 3 65536 (b0 - 240) l).2]) ∧ w = w' := by
  have hc0 : w.cell? (ad.add 0) = some (.int .u8 b0) := by rw [add0]; exact hc

  by_cases hlen : l.length < 4
  · have HV : Aside0 (charS 3 65536 (b0 - 240) l = (0, 0)) := ⟨by unfold charS; rw [if_pos (by omega)]⟩
    have HL := Aside0.mk hl
    clear hC hl
    go_enter Try.func34, Try.ntmps34
    go_wp2
    go_ret2
    exact ⟨by rw [HV.out]; rfl, rfl⟩
  · obtain ⟨i0, hi, hz0, hz1, hz2⟩ := info_parts info5
    obtain ⟨A', hrun, hrd, hle⟩ := print_mid_int (P := Try.prog) (k := .u8) 22 5 Try.underlying22 hi hz1 (some ad) c l 1 4 (by decide) (by decide) (by omega) hcl
    have hC2 := Kd.C_of_reads (h1 := fun _ => rfl) (hrd w (Kd.reads_of_C (enc := Value.int .u8) (d := (0 : Int)) (h1 := fun _ => rfl) hC))
    have hS : charS 3 65536 (b0 - 240) l = (if ((l.take 4).drop 1).all contOk = true then (if foldC (b0 - 240) ((l.take 4).drop 1) < 65536 ∨ foldC (b0 - 240) ((l.take 4).drop 1) > 1114111 ∨ (55296 ≤ foldC (b0 - 240) ((l.take 4).drop 1) ∧ foldC (b0 - 240) ((l.take 4).drop 1) < 57344) then (0, 0) else (foldC (b0 - 240) ((l.take 4).drop 1), 3 + 1)) else (0, 0)) := by unfold charS; rw [if_neg (by omega)]; rfl
    have hm : ((l.take 4).drop 1).length = 3 := by rw [List.length_drop, List.length_take]; omega
    have hb : ∀ x ∈ (l.take 4).drop 1, 0 ≤ x ∧ x < 256 := fun x hx => hl x (List.mem_of_mem_take (List.mem_of_mem_drop hx))
    change Kd.C (Kd.int .u8) w A' ((l.take 4).drop 1).length ((l.take 4).drop 1) at hC2
    change ∀ W : World, (Instr.slice 22 (.slice (some ad) l.length c) (some (.int .i64 1)) (some (.int .i64 4)) none).run Try.prog W = .ok (.slice A' ((l.take 4).drop 1).length (c - 1)) W at hrun
    generalize (l.take 4).drop 1 = m at hC2 hrun hS hm hb
    have HC2 := Aside0.mk hC2
    have HB := Aside0.mk hb
    have HS := Aside0.mk hS
    have HM := Aside0.mk hm
    rw [hm] at hrun
    clear hC2 hb hS hm hrd hle hi hz0 hz1 hz2 hl hC
    have g3 : ¬ ((l.length : Int) < 4) := by omega
    go_enter Try.func34, Try.ntmps34
    go_wp2
    go_loop [4, 54] (fun v i => ∃ (j : Nat) (q : Int), i = .int .i64 j ∧ v = .int .i32 q ∧ j ≤ 3 ∧ 0 ≤ q ∧ q < 8 * 64 ^ j ∧ Aside0 (q = foldC (b0 - 240) (m.take j)) ∧ Aside0 ((m.take j).all contOk = true)) (fun _ i => 3 - (intOf i).toNat)
    case atStart => exact ⟨0, b0 - 240, rfl, rfl, Nat.zero_le _, by omega, by omega, ⟨rfl⟩, ⟨rfl⟩⟩
    case round =>
      obtain ⟨j, q, rfl, rfl, hj, hq0, hq1, HF, HA⟩ := hrel
      by_cases hlt : j < 3
      · have hjm : j < m.length := by have := HM.out; omega
        obtain ⟨ad2, rfl, hx⟩ := head_cell HC2.out j hjm
        obtain ⟨hx0, hx1⟩ := HB.out m[j] (List.getElem_mem hjm)
        have HT : Aside0 (m.take (j + 1) = m.take j ++ [m[j]]) := ⟨take_next m j hjm⟩
        have HX : Aside0 (contOk m[j] = false → m.all contOk = false) := ⟨fun h => by
          rw [List.all_eq_false]
          exact ⟨m[j], List.getElem_mem hjm, by simp [h]⟩⟩
        generalize m[j] = x at hx hx0 hx1 HT HX
        have hq2 : q < 524288 := by
          have : j = 0 ∨ j = 1 ∨ j = 2 := by omega
          rcases this with rfl | rfl | rfl <;> omega
        by_cases hok : 128 ≤ x ∧ x < 192
        · obtain ⟨hk1, hk2⟩ := hok
          have HF2 : Aside0 (q * 64 + (x - 128) = foldC (b0 - 240) (m.take (j + 1))) := ⟨by rw [HT.out, foldC_snoc, ← HF.out]⟩
          have HA2 : Aside0 ((m.take (j + 1)).all contOk = true) := ⟨by rw [HT.out, all_snoc, HA.out]; simp [contOk, hk1, hk2]⟩
          clear HF HA HT HX
          have hq3 : q * 64 + (x - 128) < 8 * 64 ^ (j + 1) := by
            have : j = 0 ∨ j = 1 ∨ j = 2 := by omega
            rcases this with rfl | rfl | rfl <;> omega
          have HQ3 := Aside0.mk hq3
          clear hq3 hq1
          go_wp2
          go_round
          case rel => exact ⟨j + 1, q * 64 + (x - 128), by go_num, rfl, hlt, by omega, HQ3.out, HF2, HA2⟩
          case measure => simp [intOf]; omega
        · have HV : Aside0 (charS 3 65536 (b0 - 240) l = (0, 0)) := ⟨by
            rw [HS.out, if_neg]
            rw [HX.out (by simp [contOk]; omega)]
            decide⟩
          clear HF HA HT HX hq1
          by_cases hlow : x < 128
          · go_wp2
            go_ret2
            exact ⟨by rw [HV.out]; rfl, rfl⟩
          · have hhi : 192 ≤ x := by omega
            go_wp2
            go_ret2
            exact ⟨by rw [HV.out]; rfl, rfl⟩
      · have hjn : j = 3 := by omega
        subst hjn
        have hq2 : q < 2097152 := by omega
        have HT : Aside0 (m.take 3 = m) := ⟨List.take_of_length_le (by have := HM.out; omega)⟩
        rw [HT.out] at HF HA
        have HS2 : Aside0 (charS 3 65536 (b0 - 240) l = (if q < 65536 ∨ q > 1114111 ∨ (55296 ≤ q ∧ q < 57344) then (0, 0) else (q, 3 + 1))) := ⟨by rw [HS.out, if_pos HA.out, ← HF.out]⟩
        clear HF HA HT HS hq1 hlt
        by_cases k1 : q < 65536
        · have HV : Aside0 (charS 3 65536 (b0 - 240) l = (0, 0)) := ⟨by rw [HS2.out, if_pos (Or.inl k1)]⟩
          go_wp2
          go_ret2
          exact ⟨by rw [HV.out]; rfl, rfl⟩
        by_cases k2 : q > 1114111
        · have HV : Aside0 (charS 3 65536 (b0 - 240) l = (0, 0)) := ⟨by rw [HS2.out, if_pos (Or.inr (Or.inl k2))]⟩
          go_wp2
          go_ret2
          exact ⟨by rw [HV.out]; rfl, rfl⟩
        by_cases k3 : 55296 ≤ q
        · by_cases k4 : q < 57344
          · have HV : Aside0 (charS 3 65536 (b0 - 240) l = (0, 0)) := ⟨by rw [HS2.out, if_pos (Or.inr (Or.inr ⟨k3, k4⟩))]⟩
            go_wp2
            go_ret2
            exact ⟨by rw [HV.out]; rfl, rfl⟩
          · have HV : Aside0 (charS 3 65536 (b0 - 240) l = (q, 3 + 1)) := ⟨by rw [HS2.out, if_neg (by omega)]⟩
            go_wp2
            go_ret2
            exact ⟨by rw [HV.out]; rfl, rfl⟩
        · have HV : Aside0 (charS 3 65536 (b0 - 240) l = (q, 3 + 1)) := ⟨by rw [HS2.out, if_neg (by omega)]⟩
          go_wp2
          go_ret2
          exact ⟨by rw [HV.out]; rfl, rfl⟩

end Go.Proofs.Ytagncibkgpodfaa
