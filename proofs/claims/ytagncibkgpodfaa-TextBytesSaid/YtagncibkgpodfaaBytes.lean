/-
  utf8.AppendRune onto bytes of the call's own, and text.Bytes: characters in bytes, for whatever characters.
-/
import Derived.Test.YtagncibkgpodfaaRunes
namespace Go.Proofs.Ytagncibkgpodfaa
open Go.RowKit Go.Proofs.YtagncibkgpodfaaW.PrintWords Go.Proofs.YtagncibkgpodfaaW.PrintLast Go.Proofs.YtagncibkgpodfaaW.PrintMore
open Go.Lib (encodeRuneZ encodeRuneZ_one encodeRuneZ_two encodeRuneZ_three encodeRuneZ_four)
set_option linter.unusedVariables false
set_option linter.unusedSimpArgs false

theorem encode_bad {r : Int} (h : r < 0 ∨ (55296 ≤ r ∧ r ≤ 57343) ∨ 1114111 < r) : encodeRuneZ r = [239, 191, 189] := by
  unfold encodeRuneZ
  rw [if_neg (by omega), if_neg (by omega), if_neg (by omega), if_neg (by omega)]

/-- What an append of the call's own leaves. -/
def Appended (B : Nat) (v : Value) (n : Nat) (xs : List Int) (ys : List Int) (w : World) (e : Ending) (w' : World) : Prop :=
  ∃ v', e = .returned v' ∧ w'.ownsRow B 5 1 v' (n + ys.length) (nums .u8 (xs ++ ys)) ∧ ∃ o, (w.alloc o).grownBy w' v.ownBlock
theorem Appended.mk {B : Nat} {v v' : Value} {n : Nat} {xs ys : List Int} {w w' : World} {o : Obj} {news : List Value} (ho : w'.ownsRow B 5 1 v' (n + news.length) (nums .u8 xs ++ news)) (hg : (w.alloc o).grownBy w' v.ownBlock) (hy : nums .u8 ys = news) :
    Appended B v n xs ys w (.returned v') w' := by
  have hl : news.length = ys.length := by rw [← hy, nums_length]
  rw [← hy, ← nums_append] at ho
  rw [nums_length] at ho
  exact ⟨v', rfl, ho, o, hg⟩
theorem new_cells (w : World) (xs : Array Value) : ∀ j u, xs.toList[j]? = some u → (w.alloc (.cells xs 5)).cell? ((⟨w.heap.size, 0, none⟩ : Addr).add j) = some u := by
  intro j u hj
  rw [add_plain, cell_of_row (w.alloc (.cells xs 5)) w.heap.size j xs 5 (0, 0) (heap_alloc_new w _)]
  simpa using hj

set_option maxHeartbeats 1000000 in
set_option maxRecDepth 100000 in
theorem app_two (B : Nat) (v : Value) (n : Nat) (xs : List Int) (r : Int) (h0 : 128 ≤ r) (h1 : r ≤ 2047) (w : World) (hown : w.ownsRow B 5 1 v n (nums .u8 xs)) (hlen : n + 4 ≤ 140737488355328) (hBw : B ≤ w.heap.size) :
    Calls Try.prog 36 #[v, .int .i32 r] w (Appended B v n xs (encodeRuneZ r) w) := by
  obtain ⟨i0, hi, hz0, hz1, hz2⟩ := info_parts info5
  have he : nums .u8 (encodeRuneZ r) = [.int .u8 (bits .or .u8 192 (r / 64 % 256)), .int .u8 (128 + r % 64)] := by
    rw [encodeRuneZ_two h0 h1, show r / 64 % 256 = r / 64 by omega, u8_or192 _ (by omega) (by omega)]
    rfl
  have HE := Aside0.mk he
  have HO := Aside0.mk hown
  clear he hown
  have g0 : decide (r % 4294967296 ≤ 2047) = true := decide_eq_true (by omega)
  clear h0 h1
  go_enter Try.func36, Try.ntmps36
  go_wp2_with (at_builtin; refine wpList_append_own _ rfl (.tmp 14) (.tmp 23) 22 rfl B 5 i0 (.int .u8 0) 1 1 Try.underlying22 hi hz0 hz1 hz2 rfl (by decide) v n (nums .u8 xs) rfl (HO.out.alloc _) ⟨w.heap.size, 0, none⟩ 2 2 [.int .u8 (bits .or .u8 192 (r / 64 % 256)), .int .u8 (128 + r % 64)] rfl rfl (new_cells w _) ?c1 ?c2 ?c3 ?c4 ?_; (case c1 => intro u hu; simp at hu; rcases hu with rfl | rfl <;> rfl); (case c2 => unfold maxLen; omega); (case c3 => omega); (case c4 => simp; omega); intro v1 w1 ho hg _; have HO2 := Aside0.mk ho; have HG2 := Aside0.mk hg; clear ho hg)
  go_ret
  exact Appended.mk HO2.out HG2.out HE.out

set_option maxHeartbeats 1000000 in
set_option maxRecDepth 100000 in
theorem app_lo (B : Nat) (v : Value) (n : Nat) (xs : List Int) (r : Int) (h0 : 2048 ≤ r) (h1 : r < 55296) (w : World) (hown : w.ownsRow B 5 1 v n (nums .u8 xs)) (hlen : n + 4 ≤ 140737488355328) (hBw : B ≤ w.heap.size) :
    Calls Try.prog 36 #[v, .int .i32 r] w (Appended B v n xs (encodeRuneZ r) w) := by
  obtain ⟨i0, hi, hz0, hz1, hz2⟩ := info_parts info5
  have he : nums .u8 (encodeRuneZ r) = [.int .u8 (bits .or .u8 224 (r / 4096 % 256)), .int .u8 (128 + r / 64 % 64), .int .u8 (128 + r % 64)] := by
    rw [encodeRuneZ_three (Or.inl ⟨h0, h1⟩), show r / 4096 % 256 = r / 4096 by omega, u8_or224 _ (by omega) (by omega)]
    rfl
  have HE := Aside0.mk he
  have HO := Aside0.mk hown
  clear he hown
  have g0 : decide (r % 4294967296 ≤ 2047) = false := decide_eq_false (by omega)
  have g1 : decide (r % 4294967296 < 55296) = true := decide_eq_true (by omega)
  clear h0 h1
  go_enter Try.func36, Try.ntmps36
  go_wp2_with (at_builtin; refine wpList_append_own _ rfl (.tmp 34) (.tmp 48) 22 rfl B 5 i0 (.int .u8 0) 1 1 Try.underlying22 hi hz0 hz1 hz2 rfl (by decide) v n (nums .u8 xs) rfl (HO.out.alloc _) ⟨w.heap.size, 0, none⟩ 3 3 [.int .u8 (bits .or .u8 224 (r / 4096 % 256)), .int .u8 (128 + r / 64 % 64), .int .u8 (128 + r % 64)] rfl rfl (new_cells w _) ?c1 ?c2 ?c3 ?c4 ?_; (case c1 => intro u hu; simp at hu; rcases hu with rfl | rfl | rfl <;> rfl); (case c2 => unfold maxLen; omega); (case c3 => omega); (case c4 => simp; omega); intro v1 w1 ho hg _; have HO2 := Aside0.mk ho; have HG2 := Aside0.mk hg; clear ho hg)
  go_ret
  exact Appended.mk HO2.out HG2.out HE.out

set_option maxHeartbeats 1000000 in
set_option maxRecDepth 100000 in
theorem app_hi (B : Nat) (v : Value) (n : Nat) (xs : List Int) (r : Int) (h0 : 57343 < r) (h1 : r ≤ 65535) (w : World) (hown : w.ownsRow B 5 1 v n (nums .u8 xs)) (hlen : n + 4 ≤ 140737488355328) (hBw : B ≤ w.heap.size) :
    Calls Try.prog 36 #[v, .int .i32 r] w (Appended B v n xs (encodeRuneZ r) w) := by
  obtain ⟨i0, hi, hz0, hz1, hz2⟩ := info_parts info5
  have he : nums .u8 (encodeRuneZ r) = [.int .u8 (bits .or .u8 224 (r / 4096 % 256)), .int .u8 (128 + r / 64 % 64), .int .u8 (128 + r % 64)] := by
    rw [encodeRuneZ_three (Or.inr ⟨h0, h1⟩), show r / 4096 % 256 = r / 4096 by omega, u8_or224 _ (by omega) (by omega)]
    rfl
  have HE := Aside0.mk he
  have HO := Aside0.mk hown
  clear he hown
  have g0 : decide (r % 4294967296 ≤ 2047) = false := decide_eq_false (by omega)
  have g1 : decide (r % 4294967296 < 55296) = false := decide_eq_false (by omega)
  have g2 : decide (57343 < r % 4294967296) = true := decide_eq_true (by omega)
  have g3 : decide (r % 4294967296 ≤ 65535) = true := decide_eq_true (by omega)
  clear h0 h1
  go_enter Try.func36, Try.ntmps36
  go_wp2_with (at_builtin; refine wpList_append_own _ rfl (.tmp 34) (.tmp 48) 22 rfl B 5 i0 (.int .u8 0) 1 1 Try.underlying22 hi hz0 hz1 hz2 rfl (by decide) v n (nums .u8 xs) rfl (HO.out.alloc _) ⟨w.heap.size, 0, none⟩ 3 3 [.int .u8 (bits .or .u8 224 (r / 4096 % 256)), .int .u8 (128 + r / 64 % 64), .int .u8 (128 + r % 64)] rfl rfl (new_cells w _) ?c1 ?c2 ?c3 ?c4 ?_; (case c1 => intro u hu; simp at hu; rcases hu with rfl | rfl | rfl <;> rfl); (case c2 => unfold maxLen; omega); (case c3 => omega); (case c4 => simp; omega); intro v1 w1 ho hg _; have HO2 := Aside0.mk ho; have HG2 := Aside0.mk hg; clear ho hg)
  go_ret
  exact Appended.mk HO2.out HG2.out HE.out

set_option maxHeartbeats 1000000 in
set_option maxRecDepth 100000 in
theorem app_four (B : Nat) (v : Value) (n : Nat) (xs : List Int) (r : Int) (h0 : 65536 ≤ r) (h1 : r ≤ 1114111) (w : World) (hown : w.ownsRow B 5 1 v n (nums .u8 xs)) (hlen : n + 4 ≤ 140737488355328) (hBw : B ≤ w.heap.size) :
    Calls Try.prog 36 #[v, .int .i32 r] w (Appended B v n xs (encodeRuneZ r) w) := by
  obtain ⟨i0, hi, hz0, hz1, hz2⟩ := info_parts info5
  have he : nums .u8 (encodeRuneZ r) = [.int .u8 (bits .or .u8 240 (r / 262144 % 256)), .int .u8 (128 + r / 4096 % 64), .int .u8 (128 + r / 64 % 64), .int .u8 (128 + r % 64)] := by
    rw [encodeRuneZ_four h0 h1, show r / 262144 % 256 = r / 262144 by omega, u8_or240 _ (by omega) (by omega)]
    rfl
  have HE := Aside0.mk he
  have HO := Aside0.mk hown
  clear he hown
  have g0 : decide (r % 4294967296 ≤ 2047) = false := decide_eq_false (by omega)
  have g1 : decide (r % 4294967296 < 55296) = false := decide_eq_false (by omega)
  have g2 : decide (57343 < r % 4294967296) = true := decide_eq_true (by omega)
  have g3 : decide (r % 4294967296 ≤ 65535) = false := decide_eq_false (by omega)
  have g4 : decide (65535 < r % 4294967296) = true := decide_eq_true (by omega)
  have g5 : decide (r % 4294967296 ≤ 1114111) = true := decide_eq_true (by omega)
  clear h0 h1
  go_enter Try.func36, Try.ntmps36
  go_wp2_with (at_builtin; refine wpList_append_own _ rfl (.tmp 57) (.tmp 76) 22 rfl B 5 i0 (.int .u8 0) 1 1 Try.underlying22 hi hz0 hz1 hz2 rfl (by decide) v n (nums .u8 xs) rfl (HO.out.alloc _) ⟨w.heap.size, 0, none⟩ 4 4 [.int .u8 (bits .or .u8 240 (r / 262144 % 256)), .int .u8 (128 + r / 4096 % 64), .int .u8 (128 + r / 64 % 64), .int .u8 (128 + r % 64)] rfl rfl (new_cells w _) ?c1 ?c2 ?c3 ?c4 ?_; (case c1 => intro u hu; simp at hu; rcases hu with rfl | rfl | rfl | rfl <;> rfl); (case c2 => unfold maxLen; omega); (case c3 => omega); (case c4 => simp; omega); intro v1 w1 ho hg _; have HO2 := Aside0.mk ho; have HG2 := Aside0.mk hg; clear ho hg)
  go_ret
  exact Appended.mk HO2.out HG2.out HE.out

set_option maxHeartbeats 1000000 in
set_option maxRecDepth 100000 in
theorem app_neg (B : Nat) (v : Value) (n : Nat) (xs : List Int) (r : Int) (h0 : -2147483648 ≤ r) (h1 : r < 0) (w : World) (hown : w.ownsRow B 5 1 v n (nums .u8 xs)) (hlen : n + 4 ≤ 140737488355328) (hBw : B ≤ w.heap.size) :
    Calls Try.prog 36 #[v, .int .i32 r] w (Appended B v n xs (encodeRuneZ r) w) := by
  obtain ⟨i0, hi, hz0, hz1, hz2⟩ := info_parts info5
  have he : nums .u8 (encodeRuneZ r) = [.int .u8 (239), .int .u8 (191), .int .u8 (189)] := by
    rw [encode_bad (Or.inl h1)]
    rfl
  have HE := Aside0.mk he
  have HO := Aside0.mk hown
  clear he hown
  have g0 : decide (r % 4294967296 ≤ 2047) = false := decide_eq_false (by omega)
  have g1 : decide (r % 4294967296 < 55296) = false := decide_eq_false (by omega)
  have g2 : decide (57343 < r % 4294967296) = true := decide_eq_true (by omega)
  have g3 : decide (r % 4294967296 ≤ 65535) = false := decide_eq_false (by omega)
  have g4 : decide (65535 < r % 4294967296) = true := decide_eq_true (by omega)
  have g5 : decide (r % 4294967296 ≤ 1114111) = false := decide_eq_false (by omega)
  clear h0 h1
  go_enter Try.func36, Try.ntmps36
  go_wp2_with (at_builtin; refine wpList_append_own _ rfl (.tmp 8) (.tmp 9) 22 rfl B 5 i0 (.int .u8 0) 1 1 Try.underlying22 hi hz0 hz1 hz2 rfl (by decide) v n (nums .u8 xs) rfl (HO.out.alloc _) ⟨w.heap.size, 0, none⟩ 3 3 [.int .u8 (239), .int .u8 (191), .int .u8 (189)] rfl rfl (new_cells w _) ?c1 ?c2 ?c3 ?c4 ?_; (case c1 => intro u hu; simp at hu; rcases hu with rfl | rfl | rfl <;> rfl); (case c2 => unfold maxLen; omega); (case c3 => omega); (case c4 => simp; omega); intro v1 w1 ho hg _; have HO2 := Aside0.mk ho; have HG2 := Aside0.mk hg; clear ho hg)
  go_ret
  exact Appended.mk HO2.out HG2.out HE.out

set_option maxHeartbeats 1000000 in
set_option maxRecDepth 100000 in
theorem app_sur (B : Nat) (v : Value) (n : Nat) (xs : List Int) (r : Int) (h0 : 55296 ≤ r) (h1 : r ≤ 57343) (w : World) (hown : w.ownsRow B 5 1 v n (nums .u8 xs)) (hlen : n + 4 ≤ 140737488355328) (hBw : B ≤ w.heap.size) :
    Calls Try.prog 36 #[v, .int .i32 r] w (Appended B v n xs (encodeRuneZ r) w) := by
  obtain ⟨i0, hi, hz0, hz1, hz2⟩ := info_parts info5
  have he : nums .u8 (encodeRuneZ r) = [.int .u8 (239), .int .u8 (191), .int .u8 (189)] := by
    rw [encode_bad (Or.inr (Or.inl ⟨h0, h1⟩))]
    rfl
  have HE := Aside0.mk he
  have HO := Aside0.mk hown
  clear he hown
  have g0 : decide (r % 4294967296 ≤ 2047) = false := decide_eq_false (by omega)
  have g1 : decide (r % 4294967296 < 55296) = false := decide_eq_false (by omega)
  have g2 : decide (57343 < r % 4294967296) = false := decide_eq_false (by omega)
  have g3 : decide (65535 < r % 4294967296) = false := decide_eq_false (by omega)
  clear h0 h1
  go_enter Try.func36, Try.ntmps36
  go_wp2_with (at_builtin; refine wpList_append_own _ rfl (.tmp 8) (.tmp 9) 22 rfl B 5 i0 (.int .u8 0) 1 1 Try.underlying22 hi hz0 hz1 hz2 rfl (by decide) v n (nums .u8 xs) rfl (HO.out.alloc _) ⟨w.heap.size, 0, none⟩ 3 3 [.int .u8 (239), .int .u8 (191), .int .u8 (189)] rfl rfl (new_cells w _) ?c1 ?c2 ?c3 ?c4 ?_; (case c1 => intro u hu; simp at hu; rcases hu with rfl | rfl | rfl <;> rfl); (case c2 => unfold maxLen; omega); (case c3 => omega); (case c4 => simp; omega); intro v1 w1 ho hg _; have HO2 := Aside0.mk ho; have HG2 := Aside0.mk hg; clear ho hg)
  go_ret
  exact Appended.mk HO2.out HG2.out HE.out

set_option maxHeartbeats 1000000 in
set_option maxRecDepth 100000 in
theorem app_big (B : Nat) (v : Value) (n : Nat) (xs : List Int) (r : Int) (h0 : 1114111 < r) (h1 : r ≤ 2147483647) (w : World) (hown : w.ownsRow B 5 1 v n (nums .u8 xs)) (hlen : n + 4 ≤ 140737488355328) (hBw : B ≤ w.heap.size) :
    Calls Try.prog 36 #[v, .int .i32 r] w (Appended B v n xs (encodeRuneZ r) w) := by
  obtain ⟨i0, hi, hz0, hz1, hz2⟩ := info_parts info5
  have he : nums .u8 (encodeRuneZ r) = [.int .u8 (239), .int .u8 (191), .int .u8 (189)] := by
    rw [encode_bad (Or.inr (Or.inr h0))]
    rfl
  have HE := Aside0.mk he
  have HO := Aside0.mk hown
  clear he hown
  have g0 : decide (r % 4294967296 ≤ 2047) = false := decide_eq_false (by omega)
  have g1 : decide (r % 4294967296 < 55296) = false := decide_eq_false (by omega)
  have g2 : decide (57343 < r % 4294967296) = true := decide_eq_true (by omega)
  have g3 : decide (r % 4294967296 ≤ 65535) = false := decide_eq_false (by omega)
  have g4 : decide (65535 < r % 4294967296) = true := decide_eq_true (by omega)
  have g5 : decide (r % 4294967296 ≤ 1114111) = false := decide_eq_false (by omega)
  clear h0 h1
  go_enter Try.func36, Try.ntmps36
  go_wp2_with (at_builtin; refine wpList_append_own _ rfl (.tmp 8) (.tmp 9) 22 rfl B 5 i0 (.int .u8 0) 1 1 Try.underlying22 hi hz0 hz1 hz2 rfl (by decide) v n (nums .u8 xs) rfl (HO.out.alloc _) ⟨w.heap.size, 0, none⟩ 3 3 [.int .u8 (239), .int .u8 (191), .int .u8 (189)] rfl rfl (new_cells w _) ?c1 ?c2 ?c3 ?c4 ?_; (case c1 => intro u hu; simp at hu; rcases hu with rfl | rfl | rfl <;> rfl); (case c2 => unfold maxLen; omega); (case c3 => omega); (case c4 => simp; omega); intro v1 w1 ho hg _; have HO2 := Aside0.mk ho; have HG2 := Aside0.mk hg; clear ho hg)
  go_ret
  exact Appended.mk HO2.out HG2.out HE.out

theorem app_other (B : Nat) (v : Value) (n : Nat) (xs : List Int) (r : Int) (h0 : -2147483648 ≤ r) (h1 : r ≤ 2147483647) (h2 : r < 0 ∨ 128 ≤ r) (w : World) (hown : w.ownsRow B 5 1 v n (nums .u8 xs)) (hlen : n + 4 ≤ 140737488355328) (hBw : B ≤ w.heap.size) :
    Calls Try.prog 36 #[v, .int .i32 r] w (Appended B v n xs (encodeRuneZ r) w) := by
  by_cases a : r < 0
  · exact app_neg B v n xs r h0 a w hown hlen hBw
  by_cases b : r ≤ 2047
  · exact app_two B v n xs r (by omega) b w hown hlen hBw
  by_cases c : r < 55296
  · exact app_lo B v n xs r (by omega) c w hown hlen hBw
  by_cases d : r ≤ 57343
  · exact app_sur B v n xs r (by omega) d w hown hlen hBw
  by_cases e : r ≤ 65535
  · exact app_hi B v n xs r (by omega) e w hown hlen hBw
  by_cases f : r ≤ 1114111
  · exact app_four B v n xs r (by omega) f w hown hlen hBw
  exact app_big B v n xs r (by omega) h1 w hown hlen hBw

set_option maxHeartbeats 1000000 in
theorem app_rune (B : Nat) (v : Value) (n : Nat) (xs : List Int) (r : Int) (h0 : -2147483648 ≤ r) (h1 : r ≤ 2147483647) (w : World) (hown : w.ownsRow B 5 1 v n (nums .u8 xs)) (hlen : n + 4 ≤ 140737488355328) (hBw : B ≤ w.heap.size) :
    Calls Try.prog 32 #[v, .int .i32 r] w (Appended B v n xs (encodeRuneZ r) w) := by
  by_cases h : 0 ≤ r ∧ r ≤ 127
  · obtain ⟨i0, hi, hz0, hz1, hz2⟩ := info_parts info5
    have he : nums .u8 (encodeRuneZ r) = [.int .u8 (r % 256)] := by
      rw [encodeRuneZ_one h.1 h.2, show r % 256 = r by omega]
      rfl
    have HE := Aside0.mk he
    have HO := Aside0.mk hown
    have g0 : decide (r % 4294967296 ≤ 127) = true := decide_eq_true (by omega)
    clear he hown h0 h1 h
    go_enter Try.func32, Try.ntmps32
    go_wp2_with (at_builtin; refine wpList_append_own _ rfl (.tmp 8) (.tmp 11) 22 rfl B 5 i0 (.int .u8 0) 1 1 Try.underlying22 hi hz0 hz1 hz2 rfl (by decide) v n (nums .u8 xs) rfl (HO.out.alloc _) ⟨w.heap.size, 0, none⟩ 1 1 [.int .u8 (r % 256)] rfl rfl (new_cells w _) ?c1 ?c2 ?c3 ?c4 ?_; (case c1 => intro u hu; simp at hu; rcases hu with rfl; rfl); (case c2 => unfold maxLen; omega); (case c3 => omega); (case c4 => simp; omega); intro v1 w1 ho hg _; have HO2 := Aside0.mk ho; have HG2 := Aside0.mk hg; clear ho hg)
    go_ret
    exact Appended.mk HO2.out HG2.out HE.out
  · have HC := Aside0.mk (app_other B v n xs r h0 h1 (by omega) w hown hlen hBw)
    have g0 : decide (r % 4294967296 ≤ 127) = false := decide_eq_false (by omega)
    clear h0 h1 h hown
    go_enter Try.func32, Try.ntmps32
    go_wp2_with fail
    refine HC.out.mono ?_
    rintro e w1 ⟨v', rfl, ho, o, hg⟩
    have HO2 := Aside0.mk ho
    have HG2 := Aside0.mk hg
    clear ho hg HC
    go_wp2_with fail
    go_ret
    exact ⟨v', rfl, HO2.out, o, HG2.out⟩

set_option maxHeartbeats 1000000 in
set_option maxRecDepth 100000 in
/-- text.Bytes -/
theorem bytes_c (A : Option Addr) (c : Nat) (l : List Int) (w : World) (hC : Kd.C (Kd.int .i32) w A l.length l) (hl : ∀ x ∈ l, -2147483648 ≤ x ∧ x ≤ 2147483647) (hn : l.length ≤ 1000000) :
    Calls Try.prog 28 #[.slice A l.length c] w fun e w' => ∃ v, e = .returned v ∧ Kd.R (Kd.int .u8) 5 w' w.heap.size (fun k => w.heap.size ≤ k) v (T.bytes l) ∧ Below w.heap.size w w' := by
  have HC := Aside0.mk hC
  have HL := Aside0.mk hl
  clear hC hl
  go_enter Try.func28, Try.ntmps28
  go_wp2
  go_loopw [3, 8] (fun v i wr => ∃ k : Nat, i = .int .i64 k ∧ k ≤ l.length ∧ Aside0 (wr.ownsRow w.heap.size 5 1 v (T.bytes (l.take k)).length (nums .u8 (T.bytes (l.take k)))) ∧ Aside0 (Below w.heap.size w wr)) (fun _ i _ => l.length - (intOf i).toNat)
  case atStart => exact ⟨0, rfl, Nat.zero_le _, ⟨by rw [List.take_zero]; exact own_nil _ _ _ _⟩, ⟨Below.refl _ _⟩⟩
  case round =>
    obtain ⟨k, rfl, hk, HO, HB⟩ := hrel
    by_cases hlt : k < l.length
    · obtain ⟨ad, rfl, hcell⟩ := Kd.at_int HC.out (k : Int) (by omega) (by omega)
      rw [Int.toNat_natCast] at hcell
      have hcell2 := (HB.out.cell (World.block_lt_of_cell? w _ hcell)).trans hcell
      clear hcell
      have hrd : rd l (k : Int) = l[k] := by
        unfold rd
        rw [Int.toNat_natCast, List.getD_eq_getElem?_getD, List.getElem?_eq_getElem hlt]
        rfl
      have hx := HL.out l[k] (List.getElem_mem hlt)
      have htk : l.take (k + 1) = l.take k ++ [l[k]] := by rw [List.take_succ_eq_append_getElem hlt]
      have HT : Aside0 (T.bytes (l.take (k + 1)) = T.bytes (l.take k) ++ encodeRuneZ l[k]) := ⟨by rw [htk, T.bytes_append]; simp [T.bytes]⟩
      rw [hrd] at hcell2
      clear htk hrd
      have hlen : (T.bytes (l.take k)).length + 4 ≤ 140737488355328 := by have := T.bytes_length (l.take k); have h2 : (l.take k).length ≤ k := List.length_take_le _ _; omega
      generalize l[k] = x at hcell2 hx HT
      obtain ⟨hx1, hx2⟩ := hx
      have HCC := Aside0.mk (app_rune w.heap.size u3 (T.bytes (l.take k)).length (T.bytes (l.take k)) x hx1 hx2 wr HO.out hlen HB.out.size)
      clear hx1 hx2 hlen
      have g1 : (0 : Int) ≤ k := by omega
      go_wp2_with fail
      refine HCC.out.mono ?_
      rintro e w1 ⟨v', rfl, ho, o, hg⟩
      rw [← List.length_append, ← HT.out] at ho
      have HO2 := Aside0.mk ho
      have HB2 := Aside0.mk (((HB.out.alloc HB.out.size o)).grown hg (by have := HB.out.size; simp; omega) (fun k hk => own_base HO.out k hk))
      clear ho hg HCC HO HB hcell2
      go_wp2_with fail
      go_roundw
      case rel => exact ⟨k + 1, by go_num, hlt, HO2, HB2⟩
      case measure => simp [intOf]; omega
    · have hkl : k = l.length := by omega
      subst hkl
      have HT : Aside0 (l.take l.length = l) := ⟨List.take_length⟩
      go_wp2_with fail
      go_ret
      exact ⟨_, rfl, by rw [HT.out] at HO; exact Kd.R_of_own HO.out (fun k hk => own_base HO.out k hk), HB.out⟩

end Go.Proofs.Ytagncibkgpodfaa
