/-
  The small functions of package text, each as its Go text runs it: within, Digit, Hex, Start, Part.
-/
import Derived.Test.YtagncibkgpodfaaPTextKindsx
namespace Go.Proofs.Ytagncibkgpodfaa
open Go.RowKit Go.Proofs.YtagncibkgpodfaaW.PrintWords Go.Proofs.YtagncibkgpodfaaW.PrintLast Go.Proofs.YtagncibkgpodfaaW.PrintMore
set_option linter.unusedVariables false
set_option linter.unusedSimpArgs false

/-- lo ≤ c ≤ hi -/
def inB (lo hi c : Int) : Bool := decide (lo ≤ c) && decide (c ≤ hi)
theorem hmf : ∀ (fn : Fn) (first cap : Array Value) (w : World), (Instr.makeFunc fn first cap).run Try.prog w = .ok (.func fn first cap) w := fun _ _ _ _ => rfl
theorem below_two (w : World) (a b : Obj) : Below w.heap.size w ((w.alloc a).alloc b) := ((Below.refl _ _).alloc (Nat.le_refl _) _).alloc (by simp) _

theorem within_c (c lo hi : Int) (a b : Addr) (w : World) (ha : w.cell? a = some (.int .i32 lo)) (hb : w.cell? b = some (.int .i32 hi)) :
    Calls Try.prog 35 #[.int .i32 c, .pointer (some a), .pointer (some b)] w fun e w' => e = .returned (.bool (inB lo hi c)) ∧ w = w' := by
  by_cases h : lo ≤ c
  · have h1 : decide (lo ≤ c) = true := decide_eq_true h
    go_enter Try.func35, Try.ntmps35
    go_wp2
    go_ret
    exact ⟨by simp [inB, h], rfl⟩
  · have h1 : decide (lo ≤ c) = false := decide_eq_false h
    go_enter Try.func35, Try.ntmps35
    go_wp2
    go_ret
    refine ⟨?_, rfl⟩
    have h2 : inB lo hi c = false := by unfold inB; rw [h1]; rfl
    rw [h2]
    rfl

theorem within_m (lo hi : Int) (w : World) :
    Calls Try.prog 31 #[.int .i32 lo, .int .i32 hi] w fun e w' => e = .returned (.func (.func 35) #[] #[.pointer (some ⟨w.heap.size, 0, none⟩), .pointer (some ⟨w.heap.size + 1, 0, none⟩)]) ∧ (w.alloc (.cells #[.int .i32 lo] 21)).alloc (.cells #[.int .i32 hi] 21) = w' := by
  have hmf := hmf
  go_enter Try.func31, Try.ntmps31
  go_wp2
  go_ret
  exact ⟨rfl, rfl⟩
theorem digit_c (c : Int) (w : World) :
    Calls Try.prog 14 #[.int .i32 c] w fun e w' => e = .returned (.bool (inB 48 57 c)) ∧ Below w.heap.size w w' := by
  have hmf := hmf
  go_enter Try.func14, Try.ntmps14
  go_wp2_with (first | (go_at_call 35; refine (within_c c 48 57 _ _ _ (by simp) (by simp)).mono ?_; rintro e w' ⟨rfl, rfl⟩) | go_in)
  go_ret
  exact ⟨rfl, below_two _ _ _⟩

/-- text.Hex -/
def hexV (c : Int) : Int := if inB 48 57 c = true then c - 48 else if inB 97 102 (bits .or .i32 c 32) = true then bits .or .i32 c 32 - 87 else -1
set_option maxHeartbeats 1000000 in
theorem hex_c (c : Int) (w : World) :
    Calls Try.prog 16 #[.int .i32 c] w fun e w' => e = .returned (.int .i64 (hexV c)) ∧ Below w.heap.size w w' := by
  have hmf := hmf
  cases h1 : inB 48 57 c with
  | true =>
    have hv : hexV c = c - 48 := by unfold hexV; rw [if_pos h1]
    have hr : 48 ≤ c ∧ c ≤ 57 := by simpa [inB] using h1
    obtain ⟨hr1, hr2⟩ := hr
    have HV := Aside0.mk hv
    have H1 := Aside0.mk h1
    clear h1 hv
    go_enter Try.func16, Try.ntmps16
    go_wp2_with fail
    refine (digit_c c _).mono ?_
    rintro e w1 ⟨rfl, hb⟩
    rw [H1.out]
    go_wp2_with fail
    go_ret
    exact ⟨by rw [HV.out]; rfl, hb⟩
  | false =>
    generalize hs : bits .or .i32 c 32 = s
    have HS := Aside0.mk hs
    have H1 := Aside0.mk h1
    clear h1
    cases h2 : inB 97 102 s with
    | true =>
      have hv : hexV c = s - 87 := by unfold hexV; rw [if_neg (by rw [H1.out]; decide), hs, if_pos h2]
      have hr : 97 ≤ s ∧ s ≤ 102 := by simpa [inB] using h2
      obtain ⟨hr1, hr2⟩ := hr
      have HV := Aside0.mk hv
      have H2 := Aside0.mk h2
      clear hv h2
      go_enter Try.func16, Try.ntmps16
      go_wp2_with fail
      refine (digit_c c _).mono ?_
      rintro e w1 ⟨rfl, hb⟩
      rw [H1.out]
      have HB := Aside0.mk hb
      clear hb
      go_wp2_with (first | (go_at_call 35; refine (within_c s 97 102 _ _ _ (by simp) (by simp)).mono ?_; rintro e w' ⟨rfl, rfl⟩; rw [H2.out]) | go_in)
      go_ret
      exact ⟨by rw [HV.out]; show Ending.returned (.int .i64 (s - 97 + 10)) = _; rw [show s - 97 + 10 = s - 87 by omega], below_then HB.out HB.out.size (below_two _ _ _)⟩
    | false =>
      have hv : hexV c = -1 := by unfold hexV; rw [if_neg (by rw [H1.out]; decide), hs, if_neg (by rw [h2]; decide)]
      have HV := Aside0.mk hv
      have H2 := Aside0.mk h2
      clear hv h2
      go_enter Try.func16, Try.ntmps16
      go_wp2_with fail
      refine (digit_c c _).mono ?_
      rintro e w1 ⟨rfl, hb⟩
      rw [H1.out]
      have HB := Aside0.mk hb
      clear hb
      go_wp2_with (first | (go_at_call 35; refine (within_c s 97 102 _ _ _ (by simp) (by simp)).mono ?_; rintro e w' ⟨rfl, rfl⟩; rw [H2.out]) | go_in)
      go_ret
      exact ⟨by rw [HV.out]; rfl, below_then HB.out HB.out.size (below_two _ _ _)⟩

/-- text.Start -/
def startV (c : Int) : Bool := decide (128 ≤ c) || (c == 95) || inB 97 122 c || inB 65 90 c
set_option maxHeartbeats 1000000 in
theorem start_c (c : Int) (w : World) :
    Calls Try.prog 20 #[.int .i32 c] w fun e w' => e = .returned (.bool (startV c)) ∧ Below w.heap.size w w' := by
  have hmf := hmf
  by_cases h1 : 128 ≤ c
  · have hv : startV c = true := by simp [startV, h1]
    have HV := Aside0.mk hv
    have g1 : decide (128 ≤ c) = true := decide_eq_true h1
    clear hv
    go_enter Try.func20, Try.ntmps20
    go_wp2
    go_ret
    exact ⟨by rw [HV.out]; rfl, Below.refl _ _⟩
  · have g1 : decide (128 ≤ c) = false := decide_eq_false h1
    have G1 := Aside0.mk g1
    by_cases h2 : c = 95
    · have hv : startV c = true := by simp [startV, h2]
      have HV := Aside0.mk hv
      have g2 : (c == 95) = true := by simpa using h2
      clear hv h2 h1
      go_enter Try.func20, Try.ntmps20
      go_wp2
      go_ret
      exact ⟨by rw [HV.out]; rfl, Below.refl _ _⟩
    · have g2 : (c == 95) = false := by simpa using h2
      have G2 := Aside0.mk g2
      cases h3 : inB 97 122 c with
      | true =>
        have hv : startV c = true := by simp [startV, h3]
        have HV := Aside0.mk hv
        have H3 := Aside0.mk h3
        clear hv h3 h1 h2
        go_enter Try.func20, Try.ntmps20
        go_wp2_with (first | (go_at_call 35; refine (within_c c 97 122 _ _ _ ?h1 ?h2).mono ?_; (case h1 => simp; done); (case h2 => simp; done); rintro e w' ⟨rfl, rfl⟩; rw [H3.out]) | go_in)
        go_ret
        exact ⟨by rw [HV.out]; rfl, below_two _ _ _⟩
      | false =>
        have hv : startV c = inB 65 90 c := by simp [startV, h3, h1, h2]
        have HV := Aside0.mk hv
        have H3 := Aside0.mk h3
        clear hv h3 h1 h2
        go_enter Try.func20, Try.ntmps20
        go_wp2_with fail
        refine (within_m 97 122 _).mono ?_
        rintro e w1 ⟨rfl, rfl⟩
        go_wp2_with fail
        refine (within_c c 97 122 _ _ _ (by simp) (by simp)).mono ?_
        rintro e w' ⟨rfl, rfl⟩
        rw [H3.out]
        have HB := Aside0.mk (below_two w (.cells #[.int .i32 97] 21) (.cells #[.int .i32 122] 21))
        generalize (w.alloc (.cells #[.int .i32 97] 21)).alloc (.cells #[.int .i32 122] 21) = w3 at HB ⊢
        go_wp2_with fail
        refine (within_m 65 90 _).mono ?_
        rintro e w1 ⟨rfl, rfl⟩
        go_wp2_with fail
        refine (within_c c 65 90 _ _ _ (by simp) (by simp)).mono ?_
        rintro e w' ⟨rfl, rfl⟩
        go_wp2_with fail
        go_ret
        exact ⟨by rw [HV.out]; rfl, below_then HB.out HB.out.size (below_two _ _ _)⟩

/-- text.Part -/
def partV (c : Int) : Bool := (c == 45) || inB 48 57 c || startV c
set_option maxHeartbeats 1000000 in
theorem part_c (c : Int) (w : World) :
    Calls Try.prog 22 #[.int .i32 c] w fun e w' => e = .returned (.bool (partV c)) ∧ Below w.heap.size w w' := by
  by_cases h2 : c = 45
  · have hv : partV c = true := by simp [partV, h2]
    have HV := Aside0.mk hv
    have g2 : (c == 45) = true := by simpa using h2
    clear hv h2
    go_enter Try.func22, Try.ntmps22
    go_wp2
    go_ret
    exact ⟨by rw [HV.out]; rfl, Below.refl _ _⟩
  · have g2 : (c == 45) = false := by simpa using h2
    cases h3 : inB 48 57 c with
    | true =>
      have hv : partV c = true := by simp [partV, h3]
      have HV := Aside0.mk hv
      have H3 := Aside0.mk h3
      clear hv h3 h2
      go_enter Try.func22, Try.ntmps22
      go_wp2_with fail
      refine (digit_c c _).mono ?_
      rintro e w1 ⟨rfl, hb⟩
      rw [H3.out]
      have HB := Aside0.mk hb
      clear hb
      go_wp2_with fail
      go_ret
      exact ⟨by rw [HV.out]; rfl, HB.out⟩
    | false =>
      have hv : partV c = startV c := by simp [partV, h3, h2]
      have HV := Aside0.mk hv
      have H3 := Aside0.mk h3
      clear hv h3 h2
      go_enter Try.func22, Try.ntmps22
      go_wp2_with fail
      refine (digit_c c _).mono ?_
      rintro e w1 ⟨rfl, hb⟩
      rw [H3.out]
      have HB := Aside0.mk hb
      clear hb
      go_wp2_with fail
      refine (start_c c _).mono ?_
      rintro e w2 ⟨rfl, hb⟩
      have HB2 := Aside0.mk (below_step HB.out hb)
      clear hb
      go_wp2_with fail
      go_ret
      exact ⟨by rw [HV.out]; rfl, HB2.out⟩

end Go.Proofs.Ytagncibkgpodfaa
