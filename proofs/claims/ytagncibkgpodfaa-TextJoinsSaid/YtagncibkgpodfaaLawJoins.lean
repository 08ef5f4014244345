/-
  TextJoins holds: two texts have the characters of the one and of the other.
-/
import Derived.Test.YtagncibkgpodfaaRows
import Derived.Test.YtagncibkgpodfaaStr
import Derived.Test.YtagncibkgpodfaaRunesR
import Derived.Test.YtagncibkgpodfaaLives
import Derived.Test.YtagncibkgpodfaaBytes
import Derived.Test.YtagncibkgpodfaaOpen
import Derived.WalkKit
import Derived.ProofKit
import Derived.OpenShut
import Derived.ShutString
import Derived.ChangeOld
import Derived.Below
import Derived.SizedLaws
namespace Go.Proofs.Ytagncibkgpodfaa.textJoins
open Go.ChangeShapes Go.WideShapes Go.ChangeAt Go.RowKit
open Go.ChangeMaps (open_string shut_string)
open Go.Proofs.YtagncibkgpodfaaW.PrintWords Go.Proofs.Ytagncibkgpodfaa.Opn
set_option linter.unusedVariables false

theorem own : ownKnob Try.prog.godebug = none := by kernel_rfl
theorem laidOut : laidOutB Try.prog = true := by kernel_rfl

theorem info21' : (Try.prog.info? 21).map (fun i => (i.zero, i.size, i.bytes)) = some (some (.int .i32 0), 1, 4) := by kernel_rfl
set_option maxHeartbeats 1000000 in
set_option maxRecDepth 100000 in
theorem walkL (a b : List Int) (ha : T.Byt a) (hb : T.Byt b) (w : World) (la : a.length ≤ 140737488351232) (lb : b.length ≤ 140737488351232) :
    Calls Try.prog 8 #[.string (strOfNums a), .string (strOfNums b)] w fun e w' => e = .returned (.bool true) ∧ Below w.heap.size w w' := by
  have HA := Aside0.mk ha
  have HBY := Aside0.mk hb
  have sza := strOfNums_size a
  have szb := strOfNums_size b
  clear ha hb
  by_cases hn : 20000 < a.length + b.length
  · have gn : (20000 : Int) < ((strOfNums a).size : Int) + ((strOfNums b).size : Int) := by omega
    go_enter Try.func8, Try.ntmps8
    go_wp2_with fail
    refine (lives_c _).mono ?_
    rintro e w1 ⟨rfl, hB⟩
    have HB := Aside0.mk hB
    clear hB
    go_wp2_with fail
    go_ret
    exact ⟨rfl, HB.out⟩
  · have gn : ¬ ((20000 : Int) < ((strOfNums a).size : Int) + ((strOfNums b).size : Int)) := by omega
    obtain ⟨k0, w1, HCV, hB, hC, hk0⟩ := bytes_conv HA.out (by omega) w
    have HB1 := Aside0.mk hB
    have HC1 := Aside0.mk hC
    clear hB hC hk0
    have hra := T.runes_length HA.out
    have hrb := T.runes_length HBY.out
    have hj := T.runes_joins HA.out HBY.out
    have hbx := T.bytes_byt (T.runes a)
    have hi : ∀ x ∈ T.runes a, -2147483648 ≤ x ∧ x ≤ 2147483647 := fun x hx => by have := (T.runes_told HA.out x hx).1; unfold T.Good at this; omega
    have HI := Aside0.mk hi
    have hxl := T.bytes_length (T.runes a)
    have hrx := T.runes_length hbx
    have HXB := Aside0.mk (T.Byt.append hbx HBY.out)
    have HX := Aside0.mk hbx
    have HJ := Aside0.mk hj
    have HRC1 := Aside0.mk (runes_c (some ⟨w.heap.size, 0, none⟩) k0 a w1 HC1.out HA.out (by omega))
    clear hbx hj hi
    generalize T.runes a = R at hra HI hxl hrx HXB HX HJ HRC1
    generalize hX : T.bytes R = X at hxl hrx HXB HX HJ
    have HZS := Aside0.mk (str_append X b)
    have hzl : (X ++ b).length ≤ 1000000 := by rw [List.length_append]; omega
    generalize X ++ b = Z at HXB HJ HZS hzl
    go_enter Try.func8, Try.ntmps8
    go_wp2_with fail
    refine HRC1.out.mono ?_
    rintro e w2 ⟨v, rfl, hR, hB⟩
    obtain ⟨A1, c1, rfl⟩ := Kd.R_slice hR
    have HR1 := Aside0.mk hR
    have HB2 := Aside0.mk (below_step HB1.out hB)
    clear hR hB HRC1 HB1 HC1 HCV
    go_wp2_with fail
    refine (bytes_c A1 c1 R _ (Kd.R_reads' HR1.out).2.2 HI.out (by omega)).mono ?_
    rintro e w3 ⟨v, rfl, hR, hB⟩
    rw [hX] at hR
    obtain ⟨A2, c2, rfl⟩ := Kd.R_slice hR
    have HCV := conv_of_C c2 (Kd.R_reads' hR).2.2
    have HB3 := Aside0.mk (below_step HB2.out hB)
    clear hR hB HR1 HB2
    obtain ⟨k3, w4, HCV2, hB, hC, hk3⟩ := bytes_conv HX.out (by omega) w3
    have HB4 := Aside0.mk (below_step HB3.out hB)
    have HC4 := Aside0.mk hC
    clear hB hC hk3 HB3
    go_wp2_with fail
    refine (runes_c _ k3 X _ HC4.out HX.out (by omega)).mono ?_
    rintro e w5 ⟨v, rfl, hR, hB⟩
    obtain ⟨A3, c3, rfl⟩ := Kd.R_slice hR
    have HR5 := Aside0.mk hR
    have HB5 := Aside0.mk (below_step HB4.out hB)
    clear hR hB HCV HCV2 HC4 HB4
    obtain ⟨k5, w6, HCV, hB, hC, hk5⟩ := bytes_conv HBY.out (by omega) w5
    have HR6 := Aside0.mk (Kd.R_below HR5.out hB)
    have HB6 := Aside0.mk (below_step HB5.out hB)
    have HC6 := Aside0.mk hC
    clear hB hC hk5 HB5 HR5
    go_wp2_with fail
    refine (runes_c _ k5 b _ HC6.out HBY.out (by omega)).mono ?_
    rintro e w7 ⟨v, rfl, hR, hB⟩
    obtain ⟨A4, c4, rfl⟩ := Kd.R_slice hR
    have HR7 := Aside0.mk hR
    have HL7 := Aside0.mk (Kd.R_below HR6.out hB)
    have HB7 := Aside0.mk (below_step HB6.out hB)
    clear hR hB HCV HC6 HB6 HR6
    obtain ⟨k7, w8, HCV, hB, hC, hk7⟩ := bytes_conv HXB.out (by omega) w7
    rw [← HZS.out] at HCV
    have HM8 := Aside0.mk (Kd.R_below HR7.out hB)
    have HL8 := Aside0.mk (Kd.R_below HL7.out hB)
    have HB8 := Aside0.mk (below_step HB7.out hB)
    have HC8 := Aside0.mk hC
    clear hB hC hk7 HB7 HR7 HL7
    have szx := strOfNums_size X
    have gx : ¬ (9223372036854775807 < X.length + b.length) := by omega
    have gx2 : ¬ (X.length + b.length > 9223372036854775807) := by omega
    go_wp2_with fail
    refine (runes_c _ k7 Z _ HC8.out HXB.out (by omega)).mono ?_
    rintro e w9 ⟨v, rfl, hR, hB⟩
    obtain ⟨A5, c5, rfl⟩ := Kd.R_slice hR
    have HR9 := Aside0.mk hR
    have HM9 := Aside0.mk (Kd.R_below HM8.out hB)
    have HL9 := Aside0.mk (Kd.R_below HL8.out hB)
    have HB9 := Aside0.mk (below_step HB8.out hB)
    clear hR hB HCV HC8 HB8 HM8 HL8
    generalize T.runes X = L at hrx HL9 HJ
    generalize T.runes b = M at hrb HM9 HJ
    have hzz : (T.runes Z).length ≤ 1000000 := by rw [HJ.out, List.length_append]; omega
    generalize T.runes Z = S at HR9 HJ hzz
    go_wp2_with (at_builtin; first
      | (refine print_append_row (w0 := w9) w9.heap.size rfl (.tmp 31) (.tmp 32) 25 21 .i32 4 rfl Try.underlying25 info21' (by decide) (.slice (some ⟨w9.heap.size, 0, none⟩) 0 0) [] L A3 L.length c3 rfl rfl ?a1 ?a2 ?a3 ?a4 ?a5 ?_; (case a1 => exact own_lit w9 w9.heap.size 21 .i32 [] (Nat.le_refl _) (by decide)); (case a2 => exact Kd.reads_of_C (enc := Value.int .i32) (d := (0 : Int)) (h1 := fun _ => rfl) (Kd.C_alloc (Kd.R_reads' HL9.out).2.2 _)); (case a3 => exact (Below.refl w9.heap.size w9).alloc (Nat.le_refl _) _); (case a4 => simp); (case a5 => simp; omega); intro v1 w10 ho hb _ _; have HO := Aside0.mk (show w10.ownsRow w9.heap.size 21 1 v1 L.length (nums .i32 L) from ho); have HB10 := Aside0.mk hb; clear ho hb; obtain ⟨A6, c6, e6⟩ := own_slice HO.out; subst e6; have HM10 := Aside0.mk (Kd.R_below HM9.out HB10.out))
      | (refine print_append_row (w0 := w9) w9.heap.size rfl (.tmp 33) (.tmp 34) 25 21 .i32 4 rfl Try.underlying25 info21' (by decide) (.slice A6 L.length c6) L M A4 M.length c4 rfl rfl ?b1 ?b2 ?b3 ?b4 ?b5 ?_; (case b1 => exact HO.out); (case b2 => exact Kd.reads_of_C (enc := Value.int .i32) (d := (0 : Int)) (h1 := fun _ => rfl) (Kd.R_reads' HM10.out).2.2); (case b3 => exact HB10.out); (case b4 => exact HB10.out.size); (case b5 => omega); intro v2 w11 ho hb _ _; rw [← HJ.out] at ho; have HO2 := Aside0.mk ho; have HB11 := Aside0.mk hb; clear ho hb; obtain ⟨A7, c7, e7⟩ := own_slice HO2.out; subst e7))
    have hR1 := Kd.R_of_own (enc := Value.int .i32) (h1 := fun _ => rfl) (ok := fun _ => True) HO2.out (fun _ _ => trivial)
    have HC1 := Aside0.mk (Kd.R_reads' hR1).2.2
    have HCL1 := Aside0.mk (Kd.R_reads' hR1).2.1
    have HR11 := Aside0.mk (Kd.R_below HR9.out HB11.out)
    have HB12 := Aside0.mk (below_step HB9.out HB11.out)
    clear hR1 HO HO2 HR9 HB9
    refine (same_c S (by omega) A5 A7 c5 c7 _ (Kd.R_reads' HR11.out).2.2 (Kd.R_reads' HR11.out).2.1 HC1.out HCL1.out).mono ?_
    rintro e w12 ⟨rfl, hB⟩
    have HB13 := Aside0.mk (below_step HB12.out hB)
    clear hB HB12
    go_wp2_with fail
    refine (lives_c _).mono ?_
    rintro e w13 ⟨rfl, hB⟩
    have HB14 := Aside0.mk (below_step HB13.out hB)
    clear hB HB13
    go_wp2_with fail
    go_ret
    exact ⟨rfl, HB14.out⟩
theorem walk (a b : ByteArray) (w : World) (la : a.size ≤ 140737488351232) (lb : b.size ≤ 140737488351232) :
    Calls Try.prog 8 #[.string a, .string b] w fun e w' => e = .returned (.bool true) ∧ Below w.heap.size w w' := by
  have h := walkL (bytesOf a) (bytesOf b) (byt_bytesOf a) (byt_bytesOf b) w (by unfold bytesOf; simp; exact la) (by unfold bytesOf; simp; exact lb)
  rwa [str_bytesOf, str_bytesOf] at h

set_option maxRecDepth 100000 in
theorem lifted (os : Os) (started : os.Started) (H : Type) (enc : TypeId × Value → H) :
    ReturnsInHanded {} Try.checked os 8 .any (Rows.textJoinsSpec.pre6 enc Try.prog Try.f8 Rows.textJoinsRow.domain false) (Rows.textJoinsSpec.post enc Try.prog Try.f8 false true false false) := by
  refine returnsInHanded_of_change_sized (C := Try.checked) own started (by kernel_rfl) Try.func8
    (ChangeSpec.witness6 (enc := enc) (C := Try.checked) false ⟨#[], #[.string ⟨#[]⟩, .string ⟨#[]⟩], []⟩ 8 (by kernel_rfl) (by kernel_rfl) (by kernel_rfl) (by kernel_rfl)) ?_
  intro W base args ds gs before hval0 hW hcnd hsz0 _
  have hsz : (DataW.weightsEach Try.prog (Try.f8.params.toList ++ Rows.textJoinsSpec.plain.varTypes Try.prog) (ds ++ gs)).all (· ≤ reachBytes) = true := hsz0
  have hval : ∀ (j : Nat) t v, Try.f8.params[j]? = some t → args[j]? = some v → Value.okWide Try.prog W .any base t v := hval0
  have hW' := hW
  obtain ⟨p, q, hA0, hV, rfl, hfz, hnd⟩ := hW
  have hA : DataW.TrodAll enc Try.prog W 0 (fun _ => true) true Try.f8.params.toList args.toList ds p := hA0
  rw [Try.params8] at hA hval hsz
  obtain ⟨v0, vs0, d0, ds0, p0, q0, hargs, rfl, rfl, h0, r0⟩ := trodAll_cons hA
  obtain ⟨v1, vs1, d1, ds1, p1, q1, rfl, rfl, rfl, h1, r1⟩ := trodAll_cons r0
  obtain ⟨rfl, rfl, rfl⟩ := trodAll_nil r1
  obtain rfl : args = #[v0, v1] := by cases args; simp_all
  obtain ⟨rfl, rfl⟩ := trodVars_none hV
  have lt0 : ∀ x ∈ p0, x.block < W.heap.size := by obtain ⟨m, hm⟩ := h0; exact DataW.trod_lt m _ _ _ hm
  obtain ⟨s0, rfl⟩ : ∃ s : ByteArray, v0 = .string s := by
    obtain ⟨s, rfl, _⟩ := open_string Try.underlying9 (hval 0 9 v0 rfl rfl) h0
    exact ⟨s, rfl⟩
  have hb0 := string_in Try.underlying9 h0 hsz (j := 0) rfl rfl
  have lt1 : ∀ x ∈ p1, x.block < W.heap.size := by obtain ⟨m, hm⟩ := h1; exact DataW.trod_lt m _ _ _ hm
  obtain ⟨s1, rfl⟩ : ∃ s : ByteArray, v1 = .string s := by
    obtain ⟨s, rfl, _⟩ := open_string Try.underlying9 (hval 1 9 v1 rfl rfl) h1
    exact ⟨s, rfl⟩
  have hb1 := string_in Try.underlying9 h1 hsz (j := 1) rfl rfl
  clear hA0 hval0
  refine (walk s0 s1 W (hb0 : s0.size ≤ 140737488351232) (hb1 : s1.size ≤ 140737488351232)).mono fun e W' ⟨he, bel⟩ => ?_
  subst he
  exact ⟨_, rfl, _, _, _, [], _, [], hW', trodAll_mk1 (shut_bool Try.underlying4 _),
    (trodAll_cons_mk (Below.trod laidOut (by kernel_rfl) (of_decide_eq_true (by kernel_rfl)) h0 bel lt0) (trodAll_cons_mk (Below.trod laidOut (by kernel_rfl) (of_decide_eq_true (by kernel_rfl)) h1 bel lt1) trodAll_mk0)), rfl, bel.frame _, fun h => by cases h⟩

theorem over : Rows.textJoinsRow.holds Try.pinned (OpenSpec.ofChange Rows.textJoinsSpec) :=
  OpenClaim.holds_of_wide 8 Try.f8 rfl rfl rfl rfl rfl rfl rfl ⟨rfl, rfl, rfl, rfl, rfl⟩ rfl rfl rfl rfl rfl (by kernel_rfl) Try.func8 (by kernel_rfl)
    (of_decide_eq_true (by kernel_rfl)) (by unfold Func.isWrapper; first | (rw [if_pos (by decide +kernel)]; kernel_rfl) | (rw [if_neg (by decide +kernel)]; exact ⟨rfl, rfl⟩))
    (fun os started H enc _ => lifted os started H enc)
theorem proved : Rows.TextJoinsSaid := over
#print axioms proved
end Go.Proofs.Ytagncibkgpodfaa.textJoins
namespace Go.Proofs.Ytagncibkgpodfaa
/-- The row, under a short name, for the claim. -/
theorem textJoins_holds : Rows.TextJoinsSaid := textJoins.proved
end Go.Proofs.Ytagncibkgpodfaa
