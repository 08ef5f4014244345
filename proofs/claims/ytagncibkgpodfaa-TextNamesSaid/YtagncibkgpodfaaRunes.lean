/-
  text.Runes: the characters of bytes, for every bytes: the Go text comes to just what the plain law says.
-/
import Derived.Test.YtagncibkgpodfaaPTextKindsx
import Derived.Test.YtagncibkgpodfaaPlain
import Derived.Lib.OthersKept
import Derived.WalkSmall
namespace Go.Proofs.Ytagncibkgpodfaa
open Go.RowKit Go.Proofs.YtagncibkgpodfaaW.PrintWords Go.Proofs.YtagncibkgpodfaaW.PrintLast Go.Proofs.YtagncibkgpodfaaW.PrintMore
set_option linter.unusedVariables false
set_option linter.unusedSimpArgs false

theorem info21 : (Try.prog.info? 21).map (fun i => (i.zero, i.size, i.bytes)) = some (some (.int .i32 0), 1, 4) := by kernel_rfl
theorem info5 : (Try.prog.info? 5).map (fun i => (i.zero, i.size, i.bytes)) = some (some (.int .u8 0), 1, 1) := by kernel_rfl

/-- string(b), b whatever bytes are read. -/
theorem conv_of_C {W : World} {A : Option Addr} {l : List Int} (c : Nat) (h : Kd.C (Kd.int .u8) W A l.length l) : (convert 22 9 (.slice A l.length c)).run Try.prog W = .ok (.string (strOfNums l)) W := by
  cases l with
  | nil =>
    cases A with
    | none => exact run_convert_bytes_nil W 22 5 Try.underlying22 Try.underlying5 0 c 9 Try.underlying9
    | some ad =>
      have hl : (loadCells ad 0).run Try.prog W = .ok (([] : List Int).map (Value.int .u8)).toArray W := by simp [loadCells, loadCellsFrom]
      rw [show ([] : List Int).length = 0 from rfl, run_convert_bytes_string W 22 9 5 _ 0 c Try.underlying22 Try.underlying5 Try.underlying9, run_bytesToString W _ 0 c [] hl]
      rfl
  | cons x l =>
    obtain ⟨ad, rfl, hc⟩ := h.2.2 (by simp)
    have hr : ∀ j p, (x :: l)[j]? = some p → W.cell? (ad.add j) = some (.int .u8 p) := by
      intro j p hj
      obtain ⟨c, _, hk, hcell⟩ := hc j p hj
      have e : c = [.int .u8 p] := hk
      have := hcell 0 (.int .u8 p) (by rw [e]; rfl)
      have e1 : j * (Kd.int .u8).sz + 0 = j := by show j * 1 + 0 = j; omega
      rw [e1] at this
      exact this
    obtain ⟨b, off, spot⟩ := ad
    have hspot : spot = none := by simpa [Addr.add] using World.cell?_spot (hr 0 x rfl)
    subst hspot
    refine run_convert_bytes_arg W 22 5 Try.underlying22 Try.underlying5 b off _ c (x :: l) rfl (fun i hi => ?_) 9 Try.underlying9
    have := hr i _ (List.getElem?_eq_getElem hi)
    have ha : (⟨b, off, none⟩ : Addr).add i = ⟨b, off + i, none⟩ := by unfold Addr.add; split <;> simp_all
    rw [ha] at this
    rw [this, List.getD_eq_getElem?_getD, List.getElem?_eq_getElem hi]
    rfl

/-- An iterator moves on: what next hands over, and what stays. -/
theorem next_on {α : Type} {d : Kd α} {e base kI : Nat} {wr w : World} {l : List Int} {pos : Nat} {v : Value} {acc : List α} (hl : T.Byt l) (hp : pos < l.length) (hit : wr.heap[kI]? = some (.stringIter (strOfNums l) pos))
    (hR : d.R e wr base (fun k => w.heap.size ≤ k ∧ k ≠ kI) v acc) (hB : Below w.heap.size w wr) (hk : w.heap.size ≤ kI) :
    ∃ w4 : World, (∀ ty, (Instr.next (.pointer (some ⟨kI, 0, none⟩)) true ty).run Try.prog wr = .ok (.tuple #[.bool true, .int .i64 pos, .int .i32 (T.dec (l.drop pos)).1]) w4) ∧
      w4.heap[kI]? = some (.stringIter (strOfNums l) (pos + (T.dec (l.drop pos)).2)) ∧ d.R e w4 base (fun k => w.heap.size ≤ k ∧ k ≠ kI) v acc ∧ Below w.heap.size w w4 ∧ w4.heap.size = wr.heap.size := by
  have hd := T.decode_dec l hl pos
  refine ⟨wr.iterAt kI (strOfNums l) (pos + (T.dec (l.drop pos)).2), fun ty => ?_, Lib.iterAt_heap _ _ _ _ _ hit, ?_, Lib.below_iterAt hB hk _ _, Lib.iterAt_size _ _ _ _⟩
  · rw [Lib.run_next_any_at wr kI (strOfNums l) pos ty hit (by rw [strOfNums_size]; exact hp), hd.1, hd.2]
  · exact Kd.R_step hR (fun k ho _ => Lib.iterAt_other _ _ _ _ _ ho.2)
theorem next_end {kI : Nat} {wr : World} {l : List Int} {pos : Nat} (hp : ¬ pos < l.length) (hit : wr.heap[kI]? = some (.stringIter (strOfNums l) pos)) :
    ∀ ty, (Instr.next (.pointer (some ⟨kI, 0, none⟩)) true ty).run Try.prog wr = .ok (.tuple #[.bool false]) wr := fun ty => Lib.run_next_end_at wr kI (strOfNums l) pos ty hit (by rw [strOfNums_size]; exact hp)

theorem drop_dec {l : List Int} (h : T.Byt l) {pos : Nat} (hp : pos < l.length) : l.drop pos ≠ [] ∧ T.chars (l.drop pos) = (T.dec (l.drop pos)).1 :: T.chars (l.drop (pos + (T.dec (l.drop pos)).2)) ∧ 1 ≤ (T.dec (l.drop pos)).2 ∧ pos + (T.dec (l.drop pos)).2 ≤ l.length := by
  have hne : l.drop pos ≠ [] := by
    intro e
    have := congrArg List.length e
    simp only [List.length_drop, List.length_nil] at this
    omega
  have hw := T.dec_width (h.drop pos) hne
  simp only [List.length_drop] at hw
  refine ⟨hne, ?_, hw.1, by omega⟩
  rw [T.chars_cons (h.drop pos) hne, List.drop_drop]

set_option maxHeartbeats 2000000 in
set_option maxRecDepth 100000 in
theorem runes_c (A : Option Addr) (c : Nat) (l : List Int) (w : World) (hC : Kd.C (Kd.int .u8) w A l.length l) (hl : T.Byt l) (hn : l.length ≤ 1000000) :
    Calls Try.prog 12 #[.slice A l.length c] w fun e w' => ∃ v, e = .returned v ∧ Kd.R (Kd.int .i32) 21 w' w.heap.size (fun k => w.heap.size ≤ k) v (T.runes l) ∧ Below w.heap.size w w' := by
  obtain ⟨i0, hi, hz0, hz1, hz2⟩ := info_parts info21
  have HC := Aside0.mk hC
  have HL := Aside0.mk hl
  clear hC hl
  go_enter Try.func12, Try.ntmps12
  go_wp2_with (at_make; refine wpList_make_own _ rfl _ _ 25 rfl w.heap.size 21 i0 (.int .i32 0) 1 Try.underlying25 hi hz0 hz1 .i64 .i64 _ l.length rfl rfl rfl (by rw [hz2]; omega) (by unfold maxLen; omega) (Nat.le_refl _) ?_; intro w1 hown hg; have HO := Aside0.mk hown; have HG := Aside0.mk hg; have HCV := conv_of_C c (Kd.C_below HC.out ((Below.refl w.heap.size w).grown hg (Nat.le_refl _) (fun k hk => by cases hk))); clear hown hg)
  have HB1 := Aside0.mk ((Below.refl w.heap.size w).grown HG.out (Nat.le_refl _) (fun k hk => by cases hk))
  have HIT : Aside0 ((w1.iter (strOfNums l) 0).heap[w1.heap.size]? = some (.stringIter (strOfNums l) 0)) := ⟨World.iter_heap _ _ _⟩
  have HR0 : Aside0 (Kd.R (Kd.int .i32) 21 (w1.iter (strOfNums l) 0) w.heap.size (fun k => w.heap.size ≤ k ∧ k ≠ w1.heap.size) (.slice (some ⟨w.heap.size, 0, none⟩) 0 l.length) []) :=
    ⟨Kd.R_of_own (HO.out.alloc _) (fun k hk => by simp [Value.ownBlock] at hk; have := own_lt HO.out w.heap.size rfl; omega)⟩
  have HB2 := Aside0.mk (HB1.out.alloc HB1.out.size (.stringIter (strOfNums l) 0))
  have hk1 := HB1.out.size
  clear HCV HO HG
  generalize w1.heap.size = kI at HIT HR0 hk1 ⊢
  clear hi hz0 hz1 hz2
  go_loopw [3, 4] (fun v a wr => ∃ (pos : Nat) (acc : List Int) (was : Int), a = .int .i32 was ∧ Aside0 (pos ≤ l.length) ∧ Aside0 (acc ++ T.norm was (T.chars (l.drop pos)) = T.runes l) ∧ Aside0 (acc.length ≤ pos) ∧
      Aside0 (wr.heap[kI]? = some (.stringIter (strOfNums l) pos)) ∧ Aside0 (Kd.R (Kd.int .i32) 21 wr w.heap.size (fun k => w.heap.size ≤ k ∧ k ≠ kI) v acc) ∧ Aside0 (Below w.heap.size w wr)) (fun v a wr => l.length - wr.iterPos kI)
  case atStart => exact ⟨0, [], 0, rfl, ⟨Nat.zero_le _⟩, ⟨rfl⟩, ⟨Nat.le_refl _⟩, HIT, HR0, HB2⟩
  case round =>
    obtain ⟨pos, acc, was, rfl, HP, HA, HN, HI, HR, HB⟩ := hrel
    clear HIT HR0 HB2 HB1
    by_cases hp : pos < l.length
    · obtain ⟨hne, hch, hw1, hw2⟩ := drop_dec HL.out hp
      obtain ⟨w4, hnx, hi4, hR4, hB4, hs4⟩ := next_on HL.out hp HI.out HR.out HB.out hk1
      have hi4' := iterPos_of hi4
      have hpi := iterPos_of HI.out
      have HA2 : Aside0 (acc ++ (T.norm1 was (T.dec (l.drop pos)).1 ++ T.norm (T.dec (l.drop pos)).1 (T.chars (l.drop (pos + (T.dec (l.drop pos)).2)))) = T.runes l) := ⟨by rw [← HA.out, hch]; rfl⟩
      have hgt : pos < pos + (T.dec (l.drop pos)).2 := by omega
      clear HA HR HB HI hne hch hw1
      generalize (T.dec (l.drop pos)).1 = ch at hnx HA2
      generalize pos + (T.dec (l.drop pos)).2 = pos2 at hi4 HA2 hw2 hi4' hgt
      have HR4 := Aside0.mk hR4
      have HB4 := Aside0.mk hB4
      have hs5 : w.heap.size ≤ w4.heap.size := hB4.size
      have hk5 : kI < w4.heap.size := blk_lt hi4
      clear hR4 hB4
      have HPI := Aside0.mk hpi
      clear hs4
      by_cases h10 : ch = 10 ∧ was = 13
      · have h10a := h10.1
        have h10b := h10.2
        have HN0 := Aside0.mk h10
        clear h10
        have g1 : (ch == 10) = true := by simpa using h10a
        have g2 : (was == 13) = true := by simpa using h10b
        clear h10a h10b
        have HA3 : Aside0 (acc ++ T.norm ch (T.chars (l.drop pos2)) = T.runes l) := ⟨by rw [← HA2.out]; unfold T.norm1; rw [if_pos HN0.out]; simp⟩
        have HN3 : Aside0 (acc.length ≤ pos2) := ⟨by have := HN.out; omega⟩
        clear HA2 hpi
        go_wp2
        go_roundw
        case rel => exact ⟨pos2, acc, ch, rfl, ⟨hw2⟩, HA3, HN3, ⟨hi4⟩, HR4, HB4⟩
        case measure => rw [hi4', HPI.out]; omega
      · have HN0 := Aside0.mk h10
        by_cases h13 : ch = 13
        · have HH := Aside0.mk h13
          clear h13 h10
          have g1 : (ch == 10) = false := by rw [HH.out]; decide
          have g3 : (ch == 13) = true := by rw [HH.out]; decide
          have HA3 : Aside0 ((acc ++ [10]) ++ T.norm ch (T.chars (l.drop pos2)) = T.runes l) := ⟨by rw [← HA2.out]; unfold T.norm1; rw [if_neg HN0.out, if_pos (Or.inl HH.out)]; simp⟩
          have HN3 : Aside0 ((acc ++ [10]).length ≤ pos2) := ⟨by have := HN.out; simp only [List.length_append, List.length_cons, List.length_nil]; omega⟩
          clear HA2 hpi
          go_wp2_with (at_builtin; refine Kd.R_append (Kd.int .i32) (w0 := w) w.heap.size rfl (.tmp 37) (.tmp 38) 25 21 (.int .i32 0) 4 rfl Try.underlying25 info21 rfl (by decide) (by omega) u3 acc 10 [.int .i32 10] (fun k => w.heap.size ≤ k ∧ k ≠ kI) (fun _ => False) rfl rfl ?aP (fun _ hk => hk.elim) ?aF ?aO ?aB ?aS ?aL ?_; (case aP => exact rfl); (case aF => exact (fun k hk => ⟨by omega, by omega⟩)); (case aO => exact HR4.out); (case aB => exact HB4.out); (case aS => exact hs5); (case aL => have := HN.out; omega); intro v1 w5 ho hb hg hat; have HR3 := Aside0.mk ho; have HB3 := Aside0.mk hb; have HI3 := Aside0.mk (blk_grown hi4 hg (fun e => (HR4.out.1 kI e.symm).2 rfl)); clear ho hb hg hat)
          go_roundw
          case rel => exact ⟨pos2, acc ++ [10], ch, rfl, ⟨hw2⟩, HA3, HN3, HI3, HR3, HB3⟩
          case measure => rw [iterPos_of HI3.out, HPI.out]; omega
        · by_cases h12 : ch = 12
          · have HH := Aside0.mk h12
            clear h13 h10 h12
            have g1 : (ch == 10) = false := by rw [HH.out]; decide
            have g3 : (ch == 13) = false := by rw [HH.out]; decide
            have g4 : (ch == 12) = true := by rw [HH.out]; decide
            have HA3 : Aside0 ((acc ++ [10]) ++ T.norm ch (T.chars (l.drop pos2)) = T.runes l) := ⟨by rw [← HA2.out]; unfold T.norm1; rw [if_neg HN0.out, if_pos (Or.inr HH.out)]; simp⟩
            have HN3 : Aside0 ((acc ++ [10]).length ≤ pos2) := ⟨by have := HN.out; simp only [List.length_append, List.length_cons, List.length_nil]; omega⟩
            clear HA2 hpi
            go_wp2_with (at_builtin; refine Kd.R_append (Kd.int .i32) (w0 := w) w.heap.size rfl (.tmp 37) (.tmp 38) 25 21 (.int .i32 0) 4 rfl Try.underlying25 info21 rfl (by decide) (by omega) u3 acc 10 [.int .i32 10] (fun k => w.heap.size ≤ k ∧ k ≠ kI) (fun _ => False) rfl rfl ?aP (fun _ hk => hk.elim) ?aF ?aO ?aB ?aS ?aL ?_; (case aP => exact rfl); (case aF => exact (fun k hk => ⟨by omega, by omega⟩)); (case aO => exact HR4.out); (case aB => exact HB4.out); (case aS => exact hs5); (case aL => have := HN.out; omega); intro v1 w5 ho hb hg hat; have HR3 := Aside0.mk ho; have HB3 := Aside0.mk hb; have HI3 := Aside0.mk (blk_grown hi4 hg (fun e => (HR4.out.1 kI e.symm).2 rfl)); clear ho hb hg hat)
            go_roundw
            case rel => exact ⟨pos2, acc ++ [10], ch, rfl, ⟨hw2⟩, HA3, HN3, HI3, HR3, HB3⟩
            case measure => rw [iterPos_of HI3.out, HPI.out]; omega
          · by_cases h0 : ch = 0
            · have HH := Aside0.mk h0
              clear h13 h10 h12 h0
              have g1 : (ch == 10) = false := by rw [HH.out]; decide
              have g3 : (ch == 13) = false := by rw [HH.out]; decide
              have g4 : (ch == 12) = false := by rw [HH.out]; decide
              have g5 : (ch == 0) = true := by rw [HH.out]; decide
              have HA3 : Aside0 ((acc ++ [65533]) ++ T.norm ch (T.chars (l.drop pos2)) = T.runes l) := ⟨by rw [← HA2.out]; unfold T.norm1; rw [if_neg HN0.out, if_neg (by rw [HH.out]; decide), if_pos HH.out]; simp⟩
              have HN3 : Aside0 ((acc ++ [65533]).length ≤ pos2) := ⟨by have := HN.out; simp only [List.length_append, List.length_cons, List.length_nil]; omega⟩
              clear HA2 hpi
              go_wp2_with (at_builtin; refine Kd.R_append (Kd.int .i32) (w0 := w) w.heap.size rfl (.tmp 43) (.tmp 44) 25 21 (.int .i32 0) 4 rfl Try.underlying25 info21 rfl (by decide) (by omega) u3 acc 65533 [.int .i32 65533] (fun k => w.heap.size ≤ k ∧ k ≠ kI) (fun _ => False) rfl rfl ?aP (fun _ hk => hk.elim) ?aF ?aO ?aB ?aS ?aL ?_; (case aP => exact rfl); (case aF => exact (fun k hk => ⟨by omega, by omega⟩)); (case aO => exact HR4.out); (case aB => exact HB4.out); (case aS => exact hs5); (case aL => have := HN.out; omega); intro v1 w5 ho hb hg hat; have HR3 := Aside0.mk ho; have HB3 := Aside0.mk hb; have HI3 := Aside0.mk (blk_grown hi4 hg (fun e => (HR4.out.1 kI e.symm).2 rfl)); clear ho hb hg hat)
              go_roundw
              case rel => exact ⟨pos2, acc ++ [65533], ch, rfl, ⟨hw2⟩, HA3, HN3, HI3, HR3, HB3⟩
              case measure => rw [iterPos_of HI3.out, HPI.out]; omega
            · have HH := Aside0.mk (show ¬ (ch = 13 ∨ ch = 12) ∧ ch ≠ 0 from ⟨by omega, h0⟩)
              have g3 : (ch == 13) = false := by simpa using h13
              have g4 : (ch == 12) = false := by simpa using h12
              have g5 : (ch == 0) = false := by simpa using h0
              clear h13 h12 h0
              by_cases ht : ch = 10
              · have g2 : (was == 13) = false := by rw [beq_eq_false_iff_ne]; exact fun h => h10 ⟨ht, h⟩
                have g1 : (ch == 10) = true := by simpa using ht
                clear h10 ht
                have HA3 : Aside0 ((acc ++ [ch]) ++ T.norm ch (T.chars (l.drop pos2)) = T.runes l) := ⟨by rw [← HA2.out]; unfold T.norm1; rw [if_neg HN0.out, if_neg HH.out.1, if_neg HH.out.2]; simp⟩
                have HN3 : Aside0 ((acc ++ [ch]).length ≤ pos2) := ⟨by have := HN.out; simp only [List.length_append, List.length_cons, List.length_nil]; omega⟩
                clear HA2 hpi
                go_wp2_with (at_builtin; refine Kd.R_append (Kd.int .i32) (w0 := w) w.heap.size rfl (.tmp 19) (.tmp 21) 25 21 (.int .i32 0) 4 rfl Try.underlying25 info21 rfl (by decide) (by omega) u3 acc ch [.int .i32 ch] (fun k => w.heap.size ≤ k ∧ k ≠ kI) (fun _ => False) rfl rfl ?aP (fun _ hk => hk.elim) ?aF ?aO ?aB ?aS ?aL ?_; (case aP => exact rfl); (case aF => exact (fun k hk => ⟨by omega, by omega⟩)); (case aO => exact HR4.out); (case aB => exact HB4.out); (case aS => exact hs5); (case aL => have := HN.out; omega); intro v1 w5 ho hb hg hat; have HR3 := Aside0.mk ho; have HB3 := Aside0.mk hb; have HI3 := Aside0.mk (blk_grown hi4 hg (fun e => (HR4.out.1 kI e.symm).2 rfl)); clear ho hb hg hat)
                go_roundw
                case rel => exact ⟨pos2, acc ++ [ch], ch, rfl, ⟨hw2⟩, HA3, HN3, HI3, HR3, HB3⟩
                case measure => rw [iterPos_of HI3.out, HPI.out]; omega
              · have g1 : (ch == 10) = false := by simpa using ht
                clear h10 ht
                have HA3 : Aside0 ((acc ++ [ch]) ++ T.norm ch (T.chars (l.drop pos2)) = T.runes l) := ⟨by rw [← HA2.out]; unfold T.norm1; rw [if_neg HN0.out, if_neg HH.out.1, if_neg HH.out.2]; simp⟩
                have HN3 : Aside0 ((acc ++ [ch]).length ≤ pos2) := ⟨by have := HN.out; simp only [List.length_append, List.length_cons, List.length_nil]; omega⟩
                clear HA2 hpi
                go_wp2_with (at_builtin; refine Kd.R_append (Kd.int .i32) (w0 := w) w.heap.size rfl (.tmp 19) (.tmp 21) 25 21 (.int .i32 0) 4 rfl Try.underlying25 info21 rfl (by decide) (by omega) u3 acc ch [.int .i32 ch] (fun k => w.heap.size ≤ k ∧ k ≠ kI) (fun _ => False) rfl rfl ?aP (fun _ hk => hk.elim) ?aF ?aO ?aB ?aS ?aL ?_; (case aP => exact rfl); (case aF => exact (fun k hk => ⟨by omega, by omega⟩)); (case aO => exact HR4.out); (case aB => exact HB4.out); (case aS => exact hs5); (case aL => have := HN.out; omega); intro v1 w5 ho hb hg hat; have HR3 := Aside0.mk ho; have HB3 := Aside0.mk hb; have HI3 := Aside0.mk (blk_grown hi4 hg (fun e => (HR4.out.1 kI e.symm).2 rfl)); clear ho hb hg hat)
                go_roundw
                case rel => exact ⟨pos2, acc ++ [ch], ch, rfl, ⟨hw2⟩, HA3, HN3, HI3, HR3, HB3⟩
                case measure => rw [iterPos_of HI3.out, HPI.out]; omega
    · have hnx := next_end hp HI.out
      have HE : T.runes l = acc := by rw [← HA.out, List.drop_of_length_le (by omega), T.chars_nil, T.norm, List.append_nil]
      have HE2 := Aside0.mk HE
      clear HE HA
      go_wp2
      go_ret
      exact ⟨_, rfl, by rw [HE2.out]; exact Kd.R_mono HR.out (fun k hk => hk.1), HB.out⟩

end Go.Proofs.Ytagncibkgpodfaa
