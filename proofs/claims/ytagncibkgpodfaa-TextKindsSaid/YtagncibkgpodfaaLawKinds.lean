/-
  TextKinds holds: of which kinds any character is.
-/
import Derived.Test.YtagncibkgpodfaaRows
import Derived.Test.YtagncibkgpodfaaLives
import Derived.Test.YtagncibkgpodfaaOpen
import Derived.WalkKit
import Derived.ProofKit
import Derived.OpenShut
import Derived.ShutString
import Derived.ChangeOld
import Derived.Below
import Derived.SizedLaws
namespace Go.Proofs.Ytagncibkgpodfaa.textKinds
open Go.ChangeShapes Go.WideShapes Go.ChangeAt Go.RowKit
open Go.ChangeMaps (open_string shut_string)
open Go.Proofs.YtagncibkgpodfaaW.PrintWords Go.Proofs.Ytagncibkgpodfaa.Opn
set_option linter.unusedVariables false

theorem own : ownKnob Try.prog.godebug = none := by kernel_rfl
theorem laidOut : laidOutB Try.prog = true := by kernel_rfl
open Go.Proofs.Ytagncibkgpodfaa.PTextKinds
theorem digit_f (c : Int) : gouacheref01_Digit.f c = some (inB 48 57 c) := by
  unfold gouacheref01_Digit.f inB
  by_cases h : c ≥ 48
  · rw [if_pos h, decide_eq_true (show 48 ≤ c from h), Bool.true_and]
  · rw [if_neg h, decide_eq_false (show ¬ 48 ≤ c from h), Bool.false_and]
theorem or32 (n : Nat) : n ||| 32 = if n / 32 % 2 = 1 then n else n + 32 := by
  have hr : ∀ r : Nat, r < 64 → r ||| 32 = if r / 32 % 2 = 1 then r else r + 32 := by decide
  have hq : n = 2 ^ 6 * (n / 64) + n % 64 := by omega
  have h1 : n = 2 ^ 6 * (n / 64) ||| n % 64 := by
    rw [← Nat.two_pow_add_eq_or_of_lt (show n % 64 < 2 ^ 6 by omega)]
    exact hq
  have h2 := hr (n % 64) (by omega)
  have h3 : n % 64 ||| 32 < 2 ^ 6 := Nat.or_lt_two_pow (by omega) (by omega)
  have h4 : n ||| 32 = 2 ^ 6 * (n / 64) + (n % 64 ||| 32) := by
    rw [Nat.two_pow_add_eq_or_of_lt h3, ← Nat.or_assoc, ← h1]
  rw [h4, h2]
  by_cases h5 : n / 32 % 2 = 1
  · rw [if_pos h5, if_pos (by omega)]
    omega
  · rw [if_neg h5, if_neg (by omega)]
    omega
theorem bits32 {c : Int} (h0 : 0 ≤ c) (h1 : c ≤ 2147483647) : bits .or .i32 c 32 = if c / 32 % 2 = 1 then c else c + 32 := by
  obtain ⟨n, rfl⟩ := Int.eq_ofNat_of_zero_le h0
  have hb := (bits_nat .i32 31 (by decide) wraps_i32 n 32 (by omega) (by decide)).2
  have e : bits .or .i32 (n : Int) 32 = ((n ||| 32 : Nat) : Int) := hb
  rw [e, or32]
  by_cases h5 : n / 32 % 2 = 1
  · rw [if_pos h5, if_pos (by omega)]
  · rw [if_neg h5, if_neg (by omega)]
    omega
theorem bits_neg {c : Int} (h0 : c < 0) (h1 : -2147483648 ≤ c) : bits .or .i32 c 32 < 0 := by
  have ha : (BitVec.ofInt 32 c).toNat = (c + 4294967296).toNat := by
    rw [BitVec.toNat_ofInt]
    omega
  have hle : (BitVec.ofInt 32 c).toNat ≤ (BitVec.ofInt 32 c ||| BitVec.ofInt 32 32).toNat := by
    rw [BitVec.toNat_or]
    exact Nat.left_le_or
  have hlt : (BitVec.ofInt 32 c ||| BitVec.ofInt 32 32).toNat < 4294967296 := (BitVec.ofInt 32 c ||| BitVec.ofInt 32 32).isLt
  have e : bits .or .i32 c 32 = IntKind.i32.wrap ((BitVec.ofInt 32 c ||| BitVec.ofInt 32 32).toNat : Nat) := rfl
  rw [e, IntKind.wrap_i32]
  omega
theorem hex_f (c : Int) (h1 : -2147483648 ≤ c) (h2 : c ≤ 2147483647) : gouacheref01_Hex.f 1 c = some (hexV c) := by
  unfold gouacheref01_Hex.f hexV
  rw [digit_f, Option.bind_some]
  by_cases hd : inB 48 57 c = true
  · rw [if_pos hd, if_pos hd]
    have hr : 48 ≤ c ∧ c ≤ 57 := by simpa [inB] using hd
    congr 1
    unfold wrap64 wrap32
    omega
  · rw [if_neg hd, if_neg hd]
    by_cases hn : c < 0
    · have hs := bits_neg hn h1
      rw [if_neg (by omega), if_neg (show ¬ inB 97 102 (bits .or .i32 c 32) = true by simp [inB]; omega), gouacheref01_Hex.j0, if_neg (by decide), if_neg (by omega)]
    · rw [bits32 (by omega) h2]
      by_cases ha : c ≥ 97
      · rw [if_pos ha, gouacheref01_Hex.j0]
        by_cases hb : c ≤ 102
        · rw [if_pos (decide_eq_true hb), if_pos (show c / 32 % 2 = 1 by omega), if_pos (by simp [inB]; omega)]
          congr 1
          unfold wrap64 wrap32
          omega
        · rw [if_neg (by simpa using hb), if_pos (by omega), if_neg (by omega), if_neg]
          split
          · simp [inB]; omega
          · simp [inB]; omega
      · rw [if_neg ha, gouacheref01_Hex.j0, if_neg (by decide)]
        by_cases hc : c ≥ 65
        · rw [if_pos hc]
          by_cases he : c ≤ 70
          · rw [if_pos he, if_neg (show ¬ c / 32 % 2 = 1 by omega), if_pos (by simp [inB]; omega)]
            congr 1
            unfold wrap64 wrap32
            omega
          · rw [if_neg he, if_neg]
            split
            · simp [inB]; omega
            · simp [inB]; omega
        · rw [if_neg hc, if_neg]
          split
          · simp [inB]; omega
          · simp [inB]; omega
def blankV (c : Int) : Bool := c == 32 || c == 9 || c == 10
theorem blank_f (c : Int) : gouacheref01_Blank.f c = some (blankV c) := by
  unfold gouacheref01_Blank.f blankV
  by_cases h : c = 32
  · rw [if_pos h, beq_iff_eq.2 h]; rfl
  · by_cases h2 : c = 9
    · rw [if_neg h, if_pos h2, beq_iff_eq.2 h2, Bool.or_true]; rfl
    · rw [if_neg h, if_neg h2, beq_eq_false_iff_ne.2 h, beq_eq_false_iff_ne.2 h2]; rfl
theorem blank_t (c : Int) : text_Blank.f c = some (blankV c) := blank_f c
theorem start_f (c : Int) : gouacheref01_Start.f c = some (startV c) := by
  have e : gouacheref01_Start.f c = some (decide (gouacheref01_Start.f c = some true)) := by
    unfold gouacheref01_Start.f
    repeat' split
    all_goals simp
  rw [e]
  congr 1
  rw [Bool.eq_iff_iff, decide_eq_true_eq]
  unfold gouacheref01_Start.f startV inB
  simp only [Bool.or_eq_true, Bool.and_eq_true, decide_eq_true_eq, beq_iff_eq]
  repeat' split
  all_goals (simp only [Option.some.injEq, decide_eq_true_eq, true_iff]; omega)
theorem part_f (c : Int) : gouacheref01_Part.f c = some (partV c) := by
  unfold gouacheref01_Part.f partV
  rw [start_f, Option.bind_some, digit_f, Option.bind_some]
  cases startV c <;> cases inB 48 57 c <;> simp
set_option maxHeartbeats 1000000 in
set_option maxRecDepth 100000 in
theorem walk (n : Int) (w : World) (hw : (Lit.int .i32 n).wf = true) :
    Calls Try.prog 4 #[.int .i32 n] w fun e w' => e = .returned (.bool true) ∧ Below w.heap.size w w' := by
  obtain ⟨h1, h2⟩ := bounds_i32 hw
  clear hw
  go_enter Try.func4, Try.ntmps4
  have HB0 := Aside0.mk (Below.refl w.heap.size w)
  go_wp2_with fail
  refine (digit_c n _).mono ?_
  rintro e w1 ⟨rfl, hB⟩
  have HB1 := Aside0.mk (below_step HB0.out hB)
  clear hB HB0
  go_wp2_with fail
  refine (gouacheref01_Digit.calls n _ _ (digit_f n)).mono ?_
  rintro e w2 ⟨rfl, hB⟩
  have HB2 := Aside0.mk (below_step HB1.out hB.below)
  clear hB HB1
  go_wp2_with fail
  refine (hex_c n _).mono ?_
  rintro e w3 ⟨rfl, hB⟩
  have HB3 := Aside0.mk (below_step HB2.out hB)
  clear hB HB2
  go_wp2_with fail
  refine (gouacheref01_Hex.calls 1 n _ _ (hex_f n h1 h2)).mono ?_
  rintro e w4 ⟨rfl, hB⟩
  have HB4 := Aside0.mk (below_step HB3.out hB.below)
  clear hB HB3
  go_wp2_with fail
  refine (text_Blank.calls n _ _ (blank_t n)).mono ?_
  rintro e w5 ⟨rfl, hB⟩
  have HB5 := Aside0.mk (below_step HB4.out hB.below)
  clear hB HB4
  go_wp2_with fail
  refine (gouacheref01_Blank.calls n _ _ (blank_f n)).mono ?_
  rintro e w6 ⟨rfl, hB⟩
  have HB6 := Aside0.mk (below_step HB5.out hB.below)
  clear hB HB5
  go_wp2_with fail
  refine (start_c n _).mono ?_
  rintro e w7 ⟨rfl, hB⟩
  have HB7 := Aside0.mk (below_step HB6.out hB)
  clear hB HB6
  go_wp2_with fail
  refine (gouacheref01_Start.calls n _ _ (start_f n)).mono ?_
  rintro e w8 ⟨rfl, hB⟩
  have HB8 := Aside0.mk (below_step HB7.out hB.below)
  clear hB HB7
  go_wp2_with fail
  refine (part_c n _).mono ?_
  rintro e w9 ⟨rfl, hB⟩
  have HB9 := Aside0.mk (below_step HB8.out hB)
  clear hB HB8
  go_wp2_with fail
  refine (gouacheref01_Part.calls n _ _ (part_f n)).mono ?_
  rintro e w10 ⟨rfl, hB⟩
  have HB10 := Aside0.mk (below_step HB9.out hB.below)
  clear hB HB9
  go_wp2_with fail
  refine (lives_c _).mono ?_
  rintro e w11 ⟨rfl, hB⟩
  have HB11 := Aside0.mk (below_step HB10.out hB)
  clear hB HB10
  go_wp2_with fail
  go_ret
  exact ⟨rfl, HB11.out⟩

set_option maxRecDepth 100000 in
theorem lifted (os : Os) (started : os.Started) (H : Type) (enc : TypeId × Value → H) :
    ReturnsInHanded {} Try.checked os 4 .any (Rows.textKindsSpec.pre6 enc Try.prog Try.f4 Rows.textKindsRow.domain false) (Rows.textKindsSpec.post enc Try.prog Try.f4 false true false false) := by
  refine returnsInHanded_of_change_sized (C := Try.checked) own started (by kernel_rfl) Try.func4
    (ChangeSpec.witness6 (enc := enc) (C := Try.checked) false ⟨#[], #[.int .i32 0], []⟩ 8 (by kernel_rfl) (by kernel_rfl) (by kernel_rfl) (by kernel_rfl)) ?_
  intro W base args ds gs before hval0 hW hcnd hsz0 _
  have hsz : (DataW.weightsEach Try.prog (Try.f4.params.toList ++ Rows.textKindsSpec.plain.varTypes Try.prog) (ds ++ gs)).all (· ≤ reachBytes) = true := hsz0
  have hval : ∀ (j : Nat) t v, Try.f4.params[j]? = some t → args[j]? = some v → Value.okWide Try.prog W .any base t v := hval0
  have hW' := hW
  obtain ⟨p, q, hA0, hV, rfl, hfz, hnd⟩ := hW
  have hA : DataW.TrodAll enc Try.prog W 0 (fun _ => true) true Try.f4.params.toList args.toList ds p := hA0
  rw [Try.params4] at hA hval hsz
  obtain ⟨v0, vs0, d0, ds0, p0, q0, hargs, rfl, rfl, h0, r0⟩ := trodAll_cons hA
  obtain ⟨rfl, rfl, rfl⟩ := trodAll_nil r0
  obtain rfl : args = #[v0] := by cases args; simp_all
  obtain ⟨rfl, rfl⟩ := trodVars_none hV
  have lt0 : ∀ x ∈ p0, x.block < W.heap.size := by obtain ⟨m, hm⟩ := h0; exact DataW.trod_lt m _ _ _ hm
  obtain ⟨n0, rfl, hw0⟩ : ∃ n : Int, v0 = .int .i32 n ∧ (Lit.int .i32 n).wf = true := by
    obtain ⟨n, rfl, _, _, hw⟩ := open_int Try.underlying21 (hval 0 21 v0 rfl rfl) h0
    exact ⟨n, rfl, hw⟩
  clear hA0 hval0
  refine (walk n0 W hw0).mono fun e W' ⟨he, bel⟩ => ?_
  subst he
  exact ⟨_, rfl, _, _, _, [], _, [], hW', trodAll_mk1 (shut_bool Try.underlying4 _),
    (trodAll_cons_mk (Below.trod laidOut (by kernel_rfl) (of_decide_eq_true (by kernel_rfl)) h0 bel lt0) trodAll_mk0), rfl, bel.frame _, fun h => by cases h⟩

theorem over : Rows.textKindsRow.holds Try.pinned (OpenSpec.ofChange Rows.textKindsSpec) :=
  OpenClaim.holds_of_wide 4 Try.f4 rfl rfl rfl rfl rfl rfl rfl ⟨rfl, rfl, rfl, rfl, rfl⟩ rfl rfl rfl rfl rfl (by kernel_rfl) Try.func4 (by kernel_rfl)
    (of_decide_eq_true (by kernel_rfl)) (by unfold Func.isWrapper; first | (rw [if_pos (by decide +kernel)]; kernel_rfl) | (rw [if_neg (by decide +kernel)]; exact ⟨rfl, rfl⟩))
    (fun os started H enc _ => lifted os started H enc)
theorem proved : Rows.TextKindsSaid := over
#print axioms proved
end Go.Proofs.Ytagncibkgpodfaa.textKinds
namespace Go.Proofs.Ytagncibkgpodfaa
/-- The row, under a short name, for the claim. -/
theorem textKinds_holds : Rows.TextKindsSaid := textKinds.proved
end Go.Proofs.Ytagncibkgpodfaa
