/-
  text.Name: whether a text is a name, for every text: the Go text comes to what the plain law says.
-/
import Derived.Test.YtagncibkgpodfaaRunes
import Derived.Test.YtagncibkgpodfaaChars
import Derived.Lib.Bytes
namespace Go.Proofs.Ytagncibkgpodfaa
open Go.RowKit Go.Proofs.YtagncibkgpodfaaW.PrintWords Go.Proofs.YtagncibkgpodfaaW.PrintLast Go.Proofs.YtagncibkgpodfaaW.PrintMore
set_option linter.unusedVariables false
set_option linter.unusedSimpArgs false

def nameOk (first : Bool) (c : Int) : Bool := inB 97 122 c || (!first && (c == 45 || c == 95 || inB 48 57 c))
def nameGo : Bool → List Int → Bool
  | _, [] => true
  | first, c :: l => nameOk first c && nameGo false l
def nameV (l : List Int) : Bool := nameGo true (T.chars l) && (!l.isEmpty && decide (l.length ≤ 64))

/-- An iterator moves on where nothing else is kept. -/
theorem next_on' {kI : Nat} {wr w : World} {l : List Int} {pos : Nat} (hl : T.Byt l) (hp : pos < l.length) (hit : wr.heap[kI]? = some (.stringIter (strOfNums l) pos)) (hB : Below w.heap.size w wr) (hk : w.heap.size ≤ kI) :
    ∃ w4 : World, (∀ ty, (Instr.next (.pointer (some ⟨kI, 0, none⟩)) true ty).run Try.prog wr = .ok (.tuple #[.bool true, .int .i64 pos, .int .i32 (T.dec (l.drop pos)).1]) w4) ∧
      w4.heap[kI]? = some (.stringIter (strOfNums l) (pos + (T.dec (l.drop pos)).2)) ∧ Below w.heap.size w w4 := by
  obtain ⟨w4, h1, h2, _, h3, _⟩ := next_on (d := Kd.int .i32) (e := 21) (base := 0) (v := .slice none 0 0) (acc := []) hl hp hit (Kd.R_nil _ _ _ _ _) hB hk
  exact ⟨w4, h1, h2, h3⟩

set_option maxHeartbeats 2000000 in
set_option maxRecDepth 100000 in
theorem name_c (l : List Int) (w : World) (hl : T.Byt l) (hn : l.length ≤ 1000000) :
    Calls Try.prog 26 #[.string (strOfNums l)] w fun e w' => e = .returned (.bool (nameV l)) ∧ Below w.heap.size w w' := by
  have HL := Aside0.mk hl
  have hs := strOfNums_size l
  have HS := Aside0.mk hs
  clear hl hs
  go_enter Try.func26, Try.ntmps26
  go_wp2_with fail
  have HIT : Aside0 ((w.iter (strOfNums l) 0).heap[w.heap.size]? = some (.stringIter (strOfNums l) 0)) := ⟨World.iter_heap _ _ _⟩
  have HB2 := Aside0.mk ((Below.refl w.heap.size w).alloc (Nat.le_refl _) (.stringIter (strOfNums l) 0))
  go_loopw [] (fun wr => ∃ (pos : Nat), Aside0 (pos ≤ l.length) ∧ Aside0 (nameGo (decide (pos = 0)) (T.chars (l.drop pos)) = nameGo true (T.chars l)) ∧
      Aside0 (wr.heap[w.heap.size]? = some (.stringIter (strOfNums l) pos)) ∧ Aside0 (Below w.heap.size w wr)) (fun wr => l.length - wr.iterPos w.heap.size)
  case atStart => exact ⟨0, ⟨Nat.zero_le _⟩, ⟨rfl⟩, HIT, HB2⟩
  case round =>
    obtain ⟨pos, HP, HA, HI, HB⟩ := hrel
    clear HIT HB2
    by_cases hp : pos < l.length
    · obtain ⟨hne, hch, hw1, hw2⟩ := drop_dec HL.out hp
      obtain ⟨w4, hnx, hi4, hB4⟩ := next_on' HL.out hp HI.out HB.out (Nat.le_refl _)
      have HPI := Aside0.mk (iterPos_of HI.out)
      have HA2 : Aside0 ((nameOk (decide (pos = 0)) (T.dec (l.drop pos)).1 && nameGo false (T.chars (l.drop (pos + (T.dec (l.drop pos)).2)))) = nameGo true (T.chars l)) := ⟨by rw [← HA.out, hch]; rfl⟩
      have hgt : pos < pos + (T.dec (l.drop pos)).2 := by omega
      clear HA HB HI hne hch hw1
      generalize (T.dec (l.drop pos)).1 = ch at hnx HA2
      generalize pos + (T.dec (l.drop pos)).2 = pos2 at hi4 HA2 hw2 hgt
      have HI4 := Aside0.mk hi4
      have HB4 := Aside0.mk hB4
      clear hi4 hB4
      have HD : Aside0 (decide (pos2 = 0) = false) := ⟨by simp; omega⟩
      have HI5 : Aside0 (((w4.alloc (.cells #[.int .i32 97] 21)).alloc (.cells #[.int .i32 122] 21)).heap[w.heap.size]? = some (.stringIter (strOfNums l) pos2)) := ⟨blk_alloc (blk_alloc HI4.out _) _⟩
      have HB5 := Aside0.mk (below_then HB4.out HB4.out.size (below_two w4 (.cells #[.int .i32 97] 21) (.cells #[.int .i32 122] 21)))
      go_wp2_with fail
      refine (within_m 97 122 _).mono ?_
      rintro e w1 ⟨rfl, rfl⟩
      go_wp2_with fail
      refine (within_c ch 97 122 _ _ _ (by simp) (by simp)).mono ?_
      rintro e w' ⟨rfl, rfl⟩
      clear HI4 HB4 hnx
      generalize (w4.alloc (.cells #[.int .i32 97] 21)).alloc (.cells #[.int .i32 122] 21) = w5 at HI5 HB5 ⊢
      cases h1 : inB 97 122 ch with
      | true =>
        have HA3 : Aside0 (nameGo (decide (pos2 = 0)) (T.chars (l.drop pos2)) = nameGo true (T.chars l)) := ⟨by rw [← HA2.out, HD.out]; simp [nameOk, h1]⟩
        clear h1 HA2
        go_wp2_with fail
        go_roundw
        case rel => exact ⟨pos2, ⟨hw2⟩, HA3, HI5, HB5⟩
        case measure => rw [iterPos_of HI5.out, HPI.out]; omega
      | false =>
        have H1 := Aside0.mk h1
        clear h1
        by_cases h0 : pos = 0
        · have HR : Aside0 (nameV l = false) := ⟨by unfold nameV; rw [← HA2.out]; simp [nameOk, H1.out, h0]⟩
          subst h0
          clear HA2
          go_wp2_with fail
          go_ret
          exact ⟨by rw [HR.out]; rfl, HB5.out⟩
        · have h0' : 0 < pos := by omega
          have g0 : decide (pos = 0) = false := decide_eq_false h0
          have gp : decide (0 < pos) = true := decide_eq_true h0'
          have G0 := Aside0.mk g0
          clear g0 h0
          have HA3 : Aside0 (((ch == 45 || ch == 95 || inB 48 57 ch) && nameGo false (T.chars (l.drop pos2))) = nameGo true (T.chars l)) := ⟨by rw [← HA2.out, G0.out]; simp [nameOk, H1.out]⟩
          clear HA2 H1 G0
          by_cases h45 : ch = 45
          · have g4 : (ch == 45) = true := by simpa using h45
            have HA4 : Aside0 (nameGo (decide (pos2 = 0)) (T.chars (l.drop pos2)) = nameGo true (T.chars l)) := ⟨by rw [← HA3.out, HD.out]; simp [h45]⟩
            clear HA3 h45
            go_wp2_with fail
            go_roundw
            case rel => exact ⟨pos2, ⟨hw2⟩, HA4, HI5, HB5⟩
            case measure => rw [iterPos_of HI5.out, HPI.out]; omega
          · have g4 : (ch == 45) = false := by simpa using h45
            by_cases h95 : ch = 95
            · have g9 : (ch == 95) = true := by simpa using h95
              have HA4 : Aside0 (nameGo (decide (pos2 = 0)) (T.chars (l.drop pos2)) = nameGo true (T.chars l)) := ⟨by rw [← HA3.out, HD.out]; simp [h95]⟩
              clear HA3 h45 h95
              go_wp2_with fail
              go_roundw
              case rel => exact ⟨pos2, ⟨hw2⟩, HA4, HI5, HB5⟩
              case measure => rw [iterPos_of HI5.out, HPI.out]; omega
            · have g9 : (ch == 95) = false := by simpa using h95
              have HA4 : Aside0 ((inB 48 57 ch && nameGo false (T.chars (l.drop pos2))) = nameGo true (T.chars l)) := ⟨by rw [← HA3.out, g4, g9]; simp only [Bool.false_or]⟩
              clear HA3 h45 h95
              go_wp2_with fail
              refine (digit_c ch _).mono ?_
              rintro e w6 ⟨rfl, hb⟩
              have HI6 := Aside0.mk (blk_below HI5.out hb)
              have HB6 := Aside0.mk (below_step HB5.out hb)
              clear HI5 HB5 hb
              cases h5 : inB 48 57 ch with
              | true =>
                have HA5 : Aside0 (nameGo (decide (pos2 = 0)) (T.chars (l.drop pos2)) = nameGo true (T.chars l)) := ⟨by rw [← HA4.out, HD.out, h5, Bool.true_and]⟩
                clear HA4 h5
                go_wp2_with fail
                go_roundw
                case rel => exact ⟨pos2, ⟨hw2⟩, HA5, HI6, HB6⟩
                case measure => rw [iterPos_of HI6.out, HPI.out]; omega
              | false =>
                have HR : Aside0 (nameV l = false) := ⟨by unfold nameV; rw [← HA4.out]; simp [h5]⟩
                clear HA4 h5
                go_wp2_with fail
                go_ret
                exact ⟨by rw [HR.out]; rfl, HB6.out⟩
    · have hnx := next_end hp HI.out
      have HA2 : Aside0 (nameGo true (T.chars l) = true) := ⟨by rw [← HA.out, List.drop_of_length_le (by omega), T.chars_nil]; rfl⟩
      have HV : Aside0 (nameV l = (!l.isEmpty && decide (l.length ≤ 64))) := ⟨by unfold nameV; rw [HA2.out, Bool.true_and]⟩
      clear HA HA2
      have hsz : (strOfNums l).size = l.length := HS.out
      have HSZ := Aside0.mk hsz
      clear hsz
      have HEM : Aside0 ((strOfNums l).toList.isEmpty = l.isEmpty) := ⟨by rw [Lib.strOfNums_toList]; simp [Lib.bytesOf]⟩
      cases he : l.isEmpty with
      | true =>
        have g : (strOfNums l).toList.isEmpty = true := by rw [HEM.out, he]
        have HV2 : Aside0 (nameV l = false) := ⟨by rw [HV.out, he]; rfl⟩
        clear he HEM HV
        go_wp2_with fail
        go_ret
        exact ⟨by rw [HV2.out]; rfl, HB.out⟩
      | false =>
        have g : (strOfNums l).toList.isEmpty = false := by rw [HEM.out, he]
        have HV2 : Aside0 (nameV l = decide (((strOfNums l).size : Int) ≤ 64)) := ⟨by rw [HV.out, he, strOfNums_size]; simp; omega⟩
        clear he HEM HV
        go_wp2_with fail
        go_ret
        exact ⟨by rw [HV2.out]; rfl, HB.out⟩

end Go.Proofs.Ytagncibkgpodfaa
