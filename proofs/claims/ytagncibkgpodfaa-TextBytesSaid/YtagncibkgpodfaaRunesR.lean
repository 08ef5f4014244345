/-
  The document's Runes, for whatever bytes.
-/
import Derived.Test.YtagncibkgpodfaaCharsR
namespace Go.Proofs.Ytagncibkgpodfaa
open Go.RowKit Go.Proofs.YtagncibkgpodfaaW.PrintWords Go.Proofs.YtagncibkgpodfaaW.PrintLast Go.Proofs.YtagncibkgpodfaaW.PrintMore
set_option linter.unusedVariables false
set_option linter.unusedSimpArgs false

theorem head_cell32 {W : World} {A : Option Addr} {l : List Int} (h : Kd.C (Kd.int .i32) W A l.length l) (j : Nat) (hj : j < l.length) : ∃ ad, A = some ad ∧ W.cell? (ad.add j) = some (.int .i32 l[j]) := by
  obtain ⟨ad, rfl, hc⟩ := Kd.at_int h (j : Int) (by omega) (by omega)
  refine ⟨ad, rfl, ?_⟩
  rw [Int.toNat_natCast] at hc
  rw [hc]
  unfold rd
  rw [Int.toNat_natCast, List.getD_eq_getElem?_getD, List.getElem?_eq_getElem hj]
  rfl

def prevOf (cs : List Int) (k : Nat) : Int := if k = 0 then 0 else cs.getD (k - 1) 0

set_option maxHeartbeats 2000000 in
set_option maxRecDepth 100000 in
theorem rrunes_c (A : Option Addr) (c : Nat) (l : List Int) (w : World) (hC : Kd.C (Kd.int .u8) w A l.length l) (hcl : l.length ≤ c) (hl : T.Byt l) (hn : l.length ≤ 1000000) :
    Calls Try.prog 13 #[.slice A l.length c] w fun e w' => ∃ v, e = .returned v ∧ Kd.R (Kd.int .i32) 21 w' w.heap.size (fun k => w.heap.size ≤ k) v (T.runes l) ∧ Below w.heap.size w w' := by
  have HCC := Aside0.mk (chars_c A c l w hC hcl hl hn)
  have hcn : (T.chars l).length ≤ 1000000 := by have := T.chars_length hl; omega
  have HRU : Aside0 (T.runes l = T.norm 0 (T.chars l)) := ⟨rfl⟩
  clear hC hcl hl
  generalize T.chars l = cs at HCC hcn HRU
  go_enter Try.func13, Try.ntmps13
  go_wp2_with fail
  refine HCC.out.mono ?_
  rintro e w1 ⟨v, rfl, hR, hB⟩
  obtain ⟨A1, c1, rfl⟩ := Kd.R_slice hR
  have HB1 := Aside0.mk hB
  have HC1 := Aside0.mk (Kd.R_reads' hR).2.2
  clear hR hB HCC
  have hs1 := HB1.out.size
  go_wp2_with fail
  go_loopw [3, 11] (fun v i wr => ∃ (k : Nat) (acc : List Int), i = .int .i64 k ∧ k ≤ cs.length ∧ Aside0 (acc ++ T.norm (prevOf cs k) (cs.drop k) = T.norm 0 cs) ∧ Aside0 (acc.length ≤ k) ∧
      Aside0 (Kd.R (Kd.int .i32) 21 wr w1.heap.size (fun k => w1.heap.size ≤ k) v acc) ∧ Aside0 (Below w1.heap.size w1 wr)) (fun _ i _ => cs.length - (intOf i).toNat)
  case atStart => exact ⟨0, [], rfl, Nat.zero_le _, ⟨rfl⟩, ⟨Nat.le_refl _⟩, ⟨Kd.R_nil _ _ _ _ _⟩, ⟨Below.refl _ _⟩⟩
  case round =>
    obtain ⟨k, acc, rfl, hk, HA, HN, HR, HB⟩ := hrel
    have hs5 : w1.heap.size ≤ wr.heap.size := HB.out.size
    by_cases hlt : k < cs.length
    · obtain ⟨ad, rfl, hx⟩ := head_cell32 HC1.out k hlt
      have hx2 := (HB.out.cell (World.block_lt_of_cell? w1 _ hx)).trans hx
      clear hx
      have hp : 0 < k → wr.cell? (ad.add (k - 1)) = some (.int .i32 (prevOf cs k)) := fun h0 => by
        obtain ⟨ad', he, hx⟩ := head_cell32 HC1.out (k - 1) (by omega)
        cases he
        rw [(HB.out.cell (World.block_lt_of_cell? w1 _ hx)).trans hx]
        unfold prevOf
        rw [if_neg (by omega), List.getD_eq_getElem?_getD, List.getElem?_eq_getElem (by omega)]
        rfl
      have HP0 : Aside0 (k = 0 → prevOf cs k = 0) := ⟨fun h => by unfold prevOf; rw [if_pos h]⟩
      have HA2 : Aside0 (acc ++ (T.norm1 (prevOf cs k) cs[k] ++ T.norm cs[k] (cs.drop (k + 1))) = T.norm 0 cs) := ⟨by rw [← HA.out, List.drop_eq_getElem_cons hlt]; rfl⟩
      have HNX : Aside0 (prevOf cs (k + 1) = cs[k]) := ⟨by unfold prevOf; rw [if_neg (by omega), List.getD_eq_getElem?_getD, Nat.add_sub_cancel, List.getElem?_eq_getElem hlt]; rfl⟩
      rw [← HNX.out] at HA2
      rw [HNX.out] at HA2
      have HA3 : Aside0 (acc ++ (T.norm1 (prevOf cs k) cs[k] ++ T.norm (prevOf cs (k + 1)) (cs.drop (k + 1))) = T.norm 0 cs) := ⟨by rw [HNX.out]; exact HA2.out⟩
      clear HA HA2 HNX
      generalize cs[k] = ch at hx2 HA3
      generalize prevOf cs k = was at hp HA3 HP0
      by_cases ht : ch = 10
      · have g1 : (ch == 10) = true := by simpa using ht
        have HT := Aside0.mk ht
        have g3 : (ch == 13) = false := by rw [ht]; decide
        have g4 : (ch == 12) = false := by rw [ht]; decide
        have g5 : (ch == 0) = false := by rw [ht]; decide
        clear ht
        by_cases h0 : k = 0
        · have HW := Aside0.mk (HP0.out h0)
          subst h0
          rw [add0] at hx2
          clear hp
          have HA4 : Aside0 ((acc ++ [ch]) ++ T.norm (prevOf cs (0 + 1)) (cs.drop (0 + 1)) = T.norm 0 cs) := ⟨by rw [← HA3.out]; unfold T.norm1; rw [if_neg (fun h => by have := h.2; rw [HW.out] at this; exact absurd this (by decide)), if_neg (by rw [HT.out]; decide), if_neg (by rw [HT.out]; decide)]; simp⟩
          have HN4 : Aside0 ((acc ++ [ch]).length ≤ 0 + 1) := ⟨by have := HN.out; simp only [List.length_append, List.length_cons, List.length_nil]; omega⟩
          clear HA3
          go_wp2_with (at_builtin; refine Kd.R_append (Kd.int .i32) (w0 := w1) w1.heap.size rfl (.tmp 41) (.tmp 43) 25 21 (.int .i32 0) 4 rfl Try.underlying25 info21 rfl (by decide) (by omega) u3 acc ch [.int .i32 ch] (fun k => w1.heap.size ≤ k) (fun _ => False) rfl rfl ?aP (fun _ hk => hk.elim) ?aF ?aO ?aB ?aS ?aL ?_; (case aP => exact rfl); (case aF => exact (fun k hk => by omega)); (case aO => exact HR.out); (case aB => exact HB.out); (case aS => exact hs5); (case aL => have := HN.out; omega); intro v1 w5 ho hb hg hat; have HR3 := Aside0.mk ho; have HB3 := Aside0.mk hb; clear ho hb hg hat)
          go_roundw
          case rel => exact ⟨0 + 1, acc ++ [ch], by go_num, hlt, HA4, HN4, HR3, HB3⟩
          case measure => simp [intOf]; omega
        · have hk0 : 0 < k := by omega
          have hp2 := hp hk0
          have gk : (0 : Int) < (k : Int) := by omega
          have gp : decide (0 < k) = true := decide_eq_true hk0
          clear hp HP0 h0
          by_cases hw : was = 13
          · have g2 : (was == 13) = true := by simpa using hw
            have HW := Aside0.mk hw
            clear hw
            have HA4 : Aside0 (acc ++ T.norm (prevOf cs (k + 1)) (cs.drop (k + 1)) = T.norm 0 cs) := ⟨by rw [← HA3.out]; unfold T.norm1; rw [if_pos ⟨HT.out, HW.out⟩]; simp⟩
            have HN4 : Aside0 (acc.length ≤ k + 1) := ⟨by have := HN.out; omega⟩
            clear HA3
            go_wp2
            go_roundw
            case rel => exact ⟨k + 1, acc, by go_num, hlt, HA4, HN4, HR, HB⟩
            case measure => simp [intOf]; omega
          · have g2 : (was == 13) = false := by simpa using hw
            have HW := Aside0.mk hw
            clear hw
            have HA4 : Aside0 ((acc ++ [ch]) ++ T.norm (prevOf cs (k + 1)) (cs.drop (k + 1)) = T.norm 0 cs) := ⟨by rw [← HA3.out]; unfold T.norm1; rw [if_neg (fun h => HW.out h.2), if_neg (by rw [HT.out]; decide), if_neg (by rw [HT.out]; decide)]; simp⟩
            have HN4 : Aside0 ((acc ++ [ch]).length ≤ k + 1) := ⟨by have := HN.out; simp only [List.length_append, List.length_cons, List.length_nil]; omega⟩
            clear HA3
            go_wp2_with (at_builtin; refine Kd.R_append (Kd.int .i32) (w0 := w1) w1.heap.size rfl (.tmp 41) (.tmp 43) 25 21 (.int .i32 0) 4 rfl Try.underlying25 info21 rfl (by decide) (by omega) u3 acc ch [.int .i32 ch] (fun k => w1.heap.size ≤ k) (fun _ => False) rfl rfl ?bP (fun _ hk => hk.elim) ?bF ?bO ?bB ?bS ?bL ?_; (case bP => exact rfl); (case bF => exact (fun k hk => by omega)); (case bO => exact HR.out); (case bB => exact HB.out); (case bS => exact hs5); (case bL => have := HN.out; omega); intro v1 w5 ho hb hg hat; have HR3 := Aside0.mk ho; have HB3 := Aside0.mk hb; clear ho hb hg hat)
            go_roundw
            case rel => exact ⟨k + 1, acc ++ [ch], by go_num, hlt, HA4, HN4, HR3, HB3⟩
            case measure => simp [intOf]; omega
      · have g1 : (ch == 10) = false := by simpa using ht
        have HT := Aside0.mk ht
        clear hp HP0 ht
        by_cases h13 : ch = 13
        · have HH := Aside0.mk h13
          clear h13
          have g3 : (ch == 13) = true := by rw [HH.out]; decide
          have HA4 : Aside0 ((acc ++ [10]) ++ T.norm (prevOf cs (k + 1)) (cs.drop (k + 1)) = T.norm 0 cs) := ⟨by rw [← HA3.out]; unfold T.norm1; rw [if_neg (fun h => HT.out h.1), if_pos (Or.inl HH.out)]; simp⟩
          have HN4 : Aside0 ((acc ++ [10]).length ≤ k + 1) := ⟨by have := HN.out; simp only [List.length_append, List.length_cons, List.length_nil]; omega⟩
          clear HA3
          go_wp2_with (at_builtin; refine Kd.R_append (Kd.int .i32) (w0 := w1) w1.heap.size rfl (.tmp 41) (.tmp 43) 25 21 (.int .i32 0) 4 rfl Try.underlying25 info21 rfl (by decide) (by omega) u3 acc 10 [.int .i32 10] (fun k => w1.heap.size ≤ k) (fun _ => False) rfl rfl ?cP (fun _ hk => hk.elim) ?cF ?cO ?cB ?cS ?cL ?_; (case cP => exact rfl); (case cF => exact (fun k hk => by omega)); (case cO => exact HR.out); (case cB => exact HB.out); (case cS => exact hs5); (case cL => have := HN.out; omega); intro v1 w5 ho hb hg hat; have HR3 := Aside0.mk ho; have HB3 := Aside0.mk hb; clear ho hb hg hat)
          go_roundw
          case rel => exact ⟨k + 1, acc ++ [10], by go_num, hlt, HA4, HN4, HR3, HB3⟩
          case measure => simp [intOf]; omega
        · have g3 : (ch == 13) = false := by simpa using h13
          have H13 := Aside0.mk h13
          clear h13
          by_cases h12 : ch = 12
          · have HH := Aside0.mk h12
            clear h12
            have g4 : (ch == 12) = true := by rw [HH.out]; decide
            have HA4 : Aside0 ((acc ++ [10]) ++ T.norm (prevOf cs (k + 1)) (cs.drop (k + 1)) = T.norm 0 cs) := ⟨by rw [← HA3.out]; unfold T.norm1; rw [if_neg (fun h => HT.out h.1), if_pos (Or.inr HH.out)]; simp⟩
            have HN4 : Aside0 ((acc ++ [10]).length ≤ k + 1) := ⟨by have := HN.out; simp only [List.length_append, List.length_cons, List.length_nil]; omega⟩
            clear HA3
            go_wp2_with (at_builtin; refine Kd.R_append (Kd.int .i32) (w0 := w1) w1.heap.size rfl (.tmp 41) (.tmp 43) 25 21 (.int .i32 0) 4 rfl Try.underlying25 info21 rfl (by decide) (by omega) u3 acc 10 [.int .i32 10] (fun k => w1.heap.size ≤ k) (fun _ => False) rfl rfl ?dP (fun _ hk => hk.elim) ?dF ?dO ?dB ?dS ?dL ?_; (case dP => exact rfl); (case dF => exact (fun k hk => by omega)); (case dO => exact HR.out); (case dB => exact HB.out); (case dS => exact hs5); (case dL => have := HN.out; omega); intro v1 w5 ho hb hg hat; have HR3 := Aside0.mk ho; have HB3 := Aside0.mk hb; clear ho hb hg hat)
            go_roundw
            case rel => exact ⟨k + 1, acc ++ [10], by go_num, hlt, HA4, HN4, HR3, HB3⟩
            case measure => simp [intOf]; omega
          · have g4 : (ch == 12) = false := by simpa using h12
            have H12 := Aside0.mk h12
            clear h12
            by_cases h0 : ch = 0
            · have HH := Aside0.mk h0
              clear h0
              have g5 : (ch == 0) = true := by rw [HH.out]; decide
              have HA4 : Aside0 ((acc ++ [65533]) ++ T.norm (prevOf cs (k + 1)) (cs.drop (k + 1)) = T.norm 0 cs) := ⟨by rw [← HA3.out]; unfold T.norm1; rw [if_neg (fun h => HT.out h.1), if_neg (fun h => h.elim H13.out H12.out), if_pos HH.out]; simp⟩
              have HN4 : Aside0 ((acc ++ [65533]).length ≤ k + 1) := ⟨by have := HN.out; simp only [List.length_append, List.length_cons, List.length_nil]; omega⟩
              clear HA3
              go_wp2_with (at_builtin; refine Kd.R_append (Kd.int .i32) (w0 := w1) w1.heap.size rfl (.tmp 41) (.tmp 43) 25 21 (.int .i32 0) 4 rfl Try.underlying25 info21 rfl (by decide) (by omega) u3 acc 65533 [.int .i32 65533] (fun k => w1.heap.size ≤ k) (fun _ => False) rfl rfl ?eP (fun _ hk => hk.elim) ?eF ?eO ?eB ?eS ?eL ?_; (case eP => exact rfl); (case eF => exact (fun k hk => by omega)); (case eO => exact HR.out); (case eB => exact HB.out); (case eS => exact hs5); (case eL => have := HN.out; omega); intro v1 w5 ho hb hg hat; have HR3 := Aside0.mk ho; have HB3 := Aside0.mk hb; clear ho hb hg hat)
              go_roundw
              case rel => exact ⟨k + 1, acc ++ [65533], by go_num, hlt, HA4, HN4, HR3, HB3⟩
              case measure => simp [intOf]; omega
            · have g5 : (ch == 0) = false := by simpa using h0
              have HH := Aside0.mk h0
              clear h0
              have HA4 : Aside0 ((acc ++ [ch]) ++ T.norm (prevOf cs (k + 1)) (cs.drop (k + 1)) = T.norm 0 cs) := ⟨by rw [← HA3.out]; unfold T.norm1; rw [if_neg (fun h => HT.out h.1), if_neg (fun h => h.elim H13.out H12.out), if_neg HH.out]; simp⟩
              have HN4 : Aside0 ((acc ++ [ch]).length ≤ k + 1) := ⟨by have := HN.out; simp only [List.length_append, List.length_cons, List.length_nil]; omega⟩
              clear HA3
              go_wp2_with (at_builtin; refine Kd.R_append (Kd.int .i32) (w0 := w1) w1.heap.size rfl (.tmp 41) (.tmp 43) 25 21 (.int .i32 0) 4 rfl Try.underlying25 info21 rfl (by decide) (by omega) u3 acc ch [.int .i32 ch] (fun k => w1.heap.size ≤ k) (fun _ => False) rfl rfl ?fP (fun _ hk => hk.elim) ?fF ?fO ?fB ?fS ?fL ?_; (case fP => exact rfl); (case fF => exact (fun k hk => by omega)); (case fO => exact HR.out); (case fB => exact HB.out); (case fS => exact hs5); (case fL => have := HN.out; omega); intro v1 w5 ho hb hg hat; have HR3 := Aside0.mk ho; have HB3 := Aside0.mk hb; clear ho hb hg hat)
              go_roundw
              case rel => exact ⟨k + 1, acc ++ [ch], by go_num, hlt, HA4, HN4, HR3, HB3⟩
              case measure => simp [intOf]; omega
    · have HE : Aside0 (T.runes l = acc) := ⟨by rw [HRU.out, ← HA.out, List.drop_of_length_le (by omega), T.norm, List.append_nil]⟩
      clear HA
      go_wp2
      go_ret
      exact ⟨_, rfl, by rw [HE.out]; exact Kd.R_lower (Kd.R_mono HR.out (fun k hk => by omega)) hs1, below_step HB1.out HB.out⟩

end Go.Proofs.Ytagncibkgpodfaa
