/-
  Epochs that no call made: what each call answers.
-/
import Derived.Test.YtpfeelcdbnldfaaLives
namespace Go.Proofs.Ytpfeelcdbnldfaa
open Go.RowKit Go.Proofs.YtpfeelcdbnldfaaW.PrintWords
set_option linter.unusedVariables false
set_option linter.unusedSimpArgs false

/-- A nil pointer, or one to epochs without slots. -/
def Un (W : World) (q : Value) : Prop := q = .pointer none ∨ ∃ p, q = .pointer (some ⟨p, 0, none⟩) ∧ W.cell? ⟨p, 9, none⟩ = some (.int .i64 0)
section
variable {W : World} {q : Value}
theorem made_u (h : Un W q) : Calls Try.prog 29 #[q] W fun e w' => e = .returned (.bool false) ∧ w' = W := by
  rcases h with rfl | ⟨p, rfl, h⟩
  · exact made_nil
  · exact made_zero (u := .bool true) h
theorem now_u (h : Un W q) : Calls Try.prog 10 #[q] W fun e w' => e = .returned (.int .i64 0) ∧ w' = W := by
  have H := Aside0.mk h
  clear h
  go_enter Try.func10, Try.ntmps10
  go_wp2_with fail
  refine (made_u H.out).mono ?_
  rintro e w1 ⟨rfl, rfl⟩
  go_wp2_with fail
  go_ret
  exact ⟨rfl, rfl⟩
theorem publish_u (h : Un W q) : Calls Try.prog 11 #[q] W fun e w' => e = .returned (.int .i64 0) ∧ w' = W := by
  have H := Aside0.mk h
  clear h
  go_enter Try.func11, Try.ntmps11
  go_wp2_with fail
  refine (made_u H.out).mono ?_
  rintro e w1 ⟨rfl, rfl⟩
  go_wp2_with fail
  go_ret
  exact ⟨rfl, rfl⟩
theorem pin_u (h : Un W q) : Calls Try.prog 12 #[q] W fun e w' => e = .returned (.tuple #[.int .i64 0, .int .i64 9]) ∧ w' = W := by
  have H := Aside0.mk h
  clear h
  go_enter Try.func12, Try.ntmps12
  go_wp2_with fail
  refine (made_u H.out).mono ?_
  rintro e w1 ⟨rfl, rfl⟩
  go_wp2_with fail
  go_ret2
  exact ⟨rfl, rfl⟩
theorem pinned_u (h : Un W q) (s : Int) : Calls Try.prog 13 #[q, .int .i64 s] W fun e w' => e = .returned (.int .i64 0) ∧ w' = W := by
  have H := Aside0.mk h
  clear h
  go_enter Try.func13, Try.ntmps13
  go_wp2_with fail
  refine (made_u H.out).mono ?_
  rintro e w1 ⟨rfl, rfl⟩
  go_wp2_with fail
  go_ret
  exact ⟨rfl, rfl⟩
theorem unpin_u (h : Un W q) (s : Int) : Calls Try.prog 14 #[q, .int .i64 s] W fun e w' => e = .returned (.int .i64 9) ∧ w' = W := by
  have H := Aside0.mk h
  clear h
  go_enter Try.func14, Try.ntmps14
  go_wp2_with fail
  refine (made_u H.out).mono ?_
  rintro e w1 ⟨rfl, rfl⟩
  go_wp2_with fail
  go_ret
  exact ⟨rfl, rfl⟩
theorem retire_u (h : Un W q) (s : Int) : Calls Try.prog 15 #[q, .int .i64 s] W fun e w' => e = .returned (.int .i64 9) ∧ w' = W := by
  have H := Aside0.mk h
  clear h
  go_enter Try.func15, Try.ntmps15
  go_wp2_with fail
  refine (made_u H.out).mono ?_
  rintro e w1 ⟨rfl, rfl⟩
  go_wp2_with fail
  go_ret
  exact ⟨rfl, rfl⟩
theorem waiting_u (h : Un W q) : Calls Try.prog 17 #[q] W fun e w' => e = .returned (.slice none 0 0) ∧ w' = W := by
  have H := Aside0.mk h
  clear h
  go_enter Try.func17, Try.ntmps17
  go_wp2_with fail
  refine (made_u H.out).mono ?_
  rintro e w1 ⟨rfl, rfl⟩
  go_wp2_with fail
  go_ret
  exact ⟨rfl, rfl⟩
theorem reclaim_u (h : Un W q) : Calls Try.prog 16 #[q] W fun e w' => e = .returned (.slice none 0 0) ∧ w' = W := by
  have H := Aside0.mk h
  clear h
  go_enter Try.func16, Try.ntmps16
  go_wp2_with fail
  go_loop [3] (fun v => v = .slice none 0 0) (fun _ => 0)
  case atStart => rfl
  case round =>
    subst hrel
    go_wp2_with fail
    refine (made_u H.out).mono ?_
    rintro e w1 ⟨rfl, rfl⟩
    go_wp2_with fail
    go_ret
    exact ⟨rfl, rfl⟩
theorem least_u (h : Un W q) : Calls Try.prog 34 #[q] W fun e w' => e = .returned (.tuple #[.int .i64 0, .bool false]) ∧ w' = W := by
  have H := Aside0.mk h
  clear h
  go_enter Try.func34, Try.ntmps34
  go_wp2_with fail
  go_loop [4, 5, 8] (fun m b i => ∃ k : Nat, i = .int .i64 k ∧ k ≤ 8 ∧ m = .int .i64 0 ∧ b = .bool false) (fun _ _ i => 8 - (intOf i).toNat)
  case atStart => exact ⟨0, rfl, Nat.zero_le _, rfl, rfl⟩
  case round =>
    obtain ⟨k, rfl, hk, rfl, rfl⟩ := hrel
    by_cases hlt : k < 8
    · have g1 : (k : Int) < 8 := by omega
      go_wp2_with fail
      refine (pinned_u H.out k).mono ?_
      rintro e w1 ⟨rfl, rfl⟩
      go_wp2_with fail
      go_round
      case rel => exact ⟨k + 1, by go_num, hlt, rfl, rfl⟩
      case measure => simp [intOf]; omega
    · have hkl : k = 8 := by omega
      subst hkl
      go_wp2_with fail
      go_ret2
      exact ⟨rfl, rfl⟩
theorem min_u (h : Un W q) : Calls Try.prog 18 #[q] W fun e w' => e = .returned (.int .i64 0) ∧ w' = W := by
  have H := Aside0.mk h
  clear h
  go_enter Try.func18, Try.ntmps18
  go_wp2_with fail
  refine (least_u H.out).mono ?_
  rintro e w1 ⟨rfl, rfl⟩
  go_wp2_with fail
  refine (now_u H.out).mono ?_
  rintro e w1 ⟨rfl, rfl⟩
  go_wp2_with fail
  go_ret
  exact ⟨rfl, rfl⟩
end
theorem ix0 (a b : Value) : ∀ w, (Instr.index 50 (.agg #[a, b]) (.int .i64 0)).run Try.prog w = .ok a w := fun _ => by kernel_rfl
theorem ix1 (a b : Value) : ∀ w, (Instr.index 50 (.agg #[a, b]) (.int .i64 1)).run Try.prog w = .ok b w := fun _ => by kernel_rfl
set_option maxHeartbeats 1000000 in
set_option maxRecDepth 100000 in
theorem walk4 (n : Int) (w : World) : Calls Try.prog 4 #[.int .i64 n] w fun e w' => e = .returned (.bool true) ∧ Below w.heap.size w w' := by
  have hx0 := ix0 (.pointer none) (.pointer (some ⟨w.heap.size, 0, none⟩))
  have hx1 := ix1 (.pointer none) (.pointer (some ⟨w.heap.size, 0, none⟩))
  go_enter Try.func4, Try.ntmps4
  go_wp2_with fail
  have HB := Aside0.mk ((Below.refl w.heap.size w).alloc (Nat.le_refl _) (.cells #[.int .i64 0, .int .i64 0, .int .i64 0, .int .i64 0, .int .i64 0, .int .i64 0, .int .i64 0, .int .i64 0, .int .i64 0, .int .i64 0, .slice none 0 0] 49))
  have H0 : Aside0 (Un (w.alloc (.cells #[.int .i64 0, .int .i64 0, .int .i64 0, .int .i64 0, .int .i64 0, .int .i64 0, .int .i64 0, .int .i64 0, .int .i64 0, .int .i64 0, .slice none 0 0] 49)) (.pointer none)) := ⟨Or.inl rfl⟩
  have H1 : Aside0 (Un (w.alloc (.cells #[.int .i64 0, .int .i64 0, .int .i64 0, .int .i64 0, .int .i64 0, .int .i64 0, .int .i64 0, .int .i64 0, .int .i64 0, .int .i64 0, .slice none 0 0] 49)) (.pointer (some ⟨w.heap.size, 0, none⟩))) := ⟨Or.inr ⟨_, rfl, cell1 w _ 49 9⟩⟩
  generalize w.alloc (.cells #[.int .i64 0, .int .i64 0, .int .i64 0, .int .i64 0, .int .i64 0, .int .i64 0, .int .i64 0, .int .i64 0, .int .i64 0, .int .i64 0, .slice none 0 0] 49) = W at HB H0 H1 ⊢
  go_loop [9] (fun i => ∃ k : Nat, i = .int .i64 k ∧ k ≤ 2) (fun i => 2 - (intOf i).toNat)
  case atStart => exact ⟨0, rfl, by decide⟩
  case round =>
    obtain ⟨k, rfl, hk⟩ := hrel
    obtain rfl | rfl | rfl : k = 0 ∨ k = 1 ∨ k = 2 := by omega
    · clear hx1
      go_wp2_with fail
      refine (pin_u H0.out).mono ?_
      rintro e w1 ⟨rfl, rfl⟩
      go_wp2_with fail
      refine (unpin_u H0.out n).mono ?_
      rintro e w1 ⟨rfl, rfl⟩
      go_wp2_with fail
      refine (retire_u H0.out n).mono ?_
      rintro e w1 ⟨rfl, rfl⟩
      go_wp2_with fail
      refine (now_u H0.out).mono ?_
      rintro e w1 ⟨rfl, rfl⟩
      go_wp2_with fail
      refine (publish_u H0.out).mono ?_
      rintro e w1 ⟨rfl, rfl⟩
      go_wp2_with fail
      refine (pinned_u H0.out n).mono ?_
      rintro e w1 ⟨rfl, rfl⟩
      go_wp2_with fail
      refine (min_u H0.out).mono ?_
      rintro e w1 ⟨rfl, rfl⟩
      go_wp2_with fail
      refine (waiting_u H0.out).mono ?_
      rintro e w1 ⟨rfl, rfl⟩
      go_wp2_with fail
      refine (reclaim_u H0.out).mono ?_
      rintro e w1 ⟨rfl, rfl⟩
      go_wp2_with fail
      go_round
      case rel => exact ⟨1, rfl, by decide⟩
      case measure => simp [intOf]
    · clear hx0
      go_wp2_with fail
      refine (pin_u H1.out).mono ?_
      rintro e w1 ⟨rfl, rfl⟩
      go_wp2_with fail
      refine (unpin_u H1.out n).mono ?_
      rintro e w1 ⟨rfl, rfl⟩
      go_wp2_with fail
      refine (retire_u H1.out n).mono ?_
      rintro e w1 ⟨rfl, rfl⟩
      go_wp2_with fail
      refine (now_u H1.out).mono ?_
      rintro e w1 ⟨rfl, rfl⟩
      go_wp2_with fail
      refine (publish_u H1.out).mono ?_
      rintro e w1 ⟨rfl, rfl⟩
      go_wp2_with fail
      refine (pinned_u H1.out n).mono ?_
      rintro e w1 ⟨rfl, rfl⟩
      go_wp2_with fail
      refine (min_u H1.out).mono ?_
      rintro e w1 ⟨rfl, rfl⟩
      go_wp2_with fail
      refine (waiting_u H1.out).mono ?_
      rintro e w1 ⟨rfl, rfl⟩
      go_wp2_with fail
      refine (reclaim_u H1.out).mono ?_
      rintro e w1 ⟨rfl, rfl⟩
      go_wp2_with fail
      go_round
      case rel => exact ⟨2, rfl, by decide⟩
      case measure => simp [intOf]
    · clear hx0 hx1
      go_wp2_with fail
      refine (new_nil 0 (Or.inl (by decide)) _).mono ?_
      rintro e w1 ⟨rfl, rfl⟩
      go_wp2_with fail
      refine (lives_c _).mono ?_
      rintro e w1 ⟨rfl, hB⟩
      have HB2 := Aside0.mk (below_step HB.out hB)
      clear hB
      go_wp2_with fail
      go_ret
      exact ⟨rfl, HB2.out⟩
end Go.Proofs.Ytpfeelcdbnldfaa
