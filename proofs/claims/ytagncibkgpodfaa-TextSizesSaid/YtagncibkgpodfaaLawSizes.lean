/-
  TextSizes holds: a character has one to four bytes, and as many come back as went.
-/
import Derived.Test.YtagncibkgpodfaaRows
import Derived.Test.YtagncibkgpodfaaNamed
import Derived.Test.YtagncibkgpodfaaRunesR
import Derived.Test.YtagncibkgpodfaaLives
import Derived.Test.YtagncibkgpodfaaBytes
import Derived.Test.YtagncibkgpodfaaOpen
import Derived.WalkKit
import Derived.ProofKit
import Derived.OpenShut
import Derived.ShutString
import Derived.ChangeOld
import Derived.Below
import Derived.SizedLaws
namespace Go.Proofs.Ytagncibkgpodfaa.textSizes
open Go.ChangeShapes Go.WideShapes Go.ChangeAt Go.RowKit
open Go.ChangeMaps (open_string shut_string)
open Go.Proofs.YtagncibkgpodfaaW.PrintWords Go.Proofs.Ytagncibkgpodfaa.Opn
set_option linter.unusedVariables false

theorem own : ownKnob Try.prog.godebug = none := by kernel_rfl
theorem laidOut : laidOutB Try.prog = true := by kernel_rfl
theorem opens25 : Opens Try.prog 25 (Kd.slice 21 (Kd.int .i32)) (fun xs => ∀ x ∈ xs, (Lit.int .i32 x).wf = true) := opens_slice Try.underlying25 (by kernel_rfl) (opens_int Try.underlying21)
theorem i32_of {l : List Int} (h : ∀ x ∈ l, (Lit.int .i32 x).wf = true) : ∀ x ∈ l, -2147483648 ≤ x ∧ x ≤ 2147483647 := fun x hx => by have := bounds_i32 (h x hx); omega

theorem bytes_step (l : List Int) (k : Nat) (h : k < l.length) : ((T.bytes (l.take (k + 1))).length : Int) = ((T.bytes (l.take k)).length : Int) + T.size1 l[k] := by
  rw [List.take_succ_eq_append_getElem h, T.bytes_append, List.length_append, T.bytes_cons, T.bytes_nil, List.append_nil, ← T.encode_size]
  omega
set_option maxHeartbeats 1000000 in
set_option maxRecDepth 100000 in
theorem walk (A : Option Addr) (c : Nat) (l : List Int) (w : World) (hC : Kd.C (Kd.int .i32) w A l.length l) (hcl : l.length ≤ c) (hg : ∀ x ∈ l, (Lit.int .i32 x).wf = true) (hb : l.length * 4 ≤ 140737488351232) :
    Calls Try.prog 9 #[.slice A l.length c] w fun e w' => e = .returned (.bool true) ∧ Below w.heap.size w w' := by
  have HL := Aside0.mk (i32_of hg)
  have HC := Aside0.mk hC
  have HCL := Aside0.mk hcl
  clear hg hC hcl
  by_cases hn : 5000 < l.length
  · have gn : (5000 : Int) < (l.length : Int) := by omega
    go_enter Try.func9, Try.ntmps9
    go_wp2_with fail
    refine (lives_c _).mono ?_
    rintro e w1 ⟨rfl, hB⟩
    have HB := Aside0.mk hB
    clear hB
    go_wp2_with fail
    go_ret
    exact ⟨rfl, HB.out⟩
  · have gn : ¬ ((5000 : Int) < (l.length : Int)) := by omega
    have hbl := T.bytes_length l
    have HCC := Aside0.mk (T.chars_count l)
    have HX := Aside0.mk (T.bytes_byt l)
    go_enter Try.func9, Try.ntmps9
    go_wp2_with fail
    go_loop [3, 14] (fun n i => ∃ k : Nat, n = .int .i64 ((T.bytes (l.take k)).length : Int) ∧ i = .int .i64 k ∧ k ≤ l.length) (fun _ i => l.length - (intOf i).toNat)
    case atStart => exact ⟨0, rfl, rfl, Nat.zero_le _⟩
    case round =>
      obtain ⟨k, rfl, rfl, hk⟩ := hrel
      by_cases hlt : k < l.length
      · obtain ⟨ad, rfl, hx⟩ := head_cell32 HC.out k hlt
        have HT := Aside0.mk (bytes_step l k hlt)
        have hxb := HL.out l[k] (List.getElem_mem hlt)
        have hpb := T.bytes_length (l.take k)
        have hpl : (l.take k).length ≤ k := List.length_take_le _ _
        generalize l[k] = x at hx hxb HT
        obtain ⟨hx1, hx2⟩ := hxb
        have hm1 : (T.bytes (l.take k)).length ≤ 20000 := by omega
        clear hpb hpl
        generalize (T.bytes (l.take k)).length = m at HT hm1 ⊢
        unfold T.size1 at HT
        by_cases h1 : 0 ≤ x ∧ x < 128
        · rw [if_pos h1] at HT
          obtain ⟨h1a, h1b⟩ := h1
          go_wp2_with fail
          go_round
          case rel => exact ⟨k + 1, by rw [HT.out], by go_num, hlt⟩
          case measure => simp [intOf]; omega
        rw [if_neg h1] at HT
        by_cases h2 : 0 ≤ x ∧ x < 2048
        · rw [if_pos h2] at HT
          obtain ⟨h2a, h2b⟩ := h2
          have h1c : ¬ (x < 128) := by omega
          clear h1
          go_wp2_with fail
          go_round
          case rel => exact ⟨k + 1, by rw [HT.out], by go_num, hlt⟩
          case measure => simp [intOf]; omega
        rw [if_neg h2] at HT
        by_cases h3 : x < 0 ∨ x < 65536 ∨ 1114111 < x
        · rw [if_pos h3] at HT
          by_cases a : x < 0
          · have a2 : ¬ (0 ≤ x) := by omega
            clear h1 h2 h3
            go_wp2_with fail
            go_round
            case rel => exact ⟨k + 1, by rw [HT.out], by go_num, hlt⟩
            case measure => simp [intOf]; omega
          · have a2 : 0 ≤ x := by omega
            have a3 : ¬ (x < 128) := by omega
            have a4 : ¬ (x < 2048) := by omega
            by_cases b : x < 65536
            · clear h1 h2 h3
              go_wp2_with fail
              go_round
              case rel => exact ⟨k + 1, by rw [HT.out], by go_num, hlt⟩
              case measure => simp [intOf]; omega
            · have b2 : 1114111 < x := by omega
              clear h1 h2 h3
              go_wp2_with fail
              go_round
              case rel => exact ⟨k + 1, by rw [HT.out], by go_num, hlt⟩
              case measure => simp [intOf]; omega
        · rw [if_neg h3] at HT
          have a : ¬ (x < 0) := by omega
          have a2 : 0 ≤ x := by omega
          have a3 : ¬ (x < 128) := by omega
          have a4 : ¬ (x < 2048) := by omega
          have b : ¬ (x < 65536) := by omega
          have b2 : ¬ (1114111 < x) := by omega
          clear h1 h2 h3
          go_wp2_with fail
          go_round
          case rel => exact ⟨k + 1, by rw [HT.out], by go_num, hlt⟩
          case measure => simp [intOf]; omega
      · have hkl : k = l.length := by omega
        subst hkl
        rw [List.take_length]
        go_wp2_with fail
        refine (bytes_c A c l _ HC.out HL.out (by omega)).mono ?_
        rintro e w1 ⟨v, rfl, hR, hB⟩
        generalize hX : T.bytes l = X at *
        obtain ⟨A1, c1, rfl⟩ := Kd.R_slice hR
        have HCV := conv_of_C c1 (Kd.R_reads' hR).2.2
        have HB0 := Aside0.mk hB
        clear hR hB
        have HIT : Aside0 ((w1.iter (strOfNums X) 0).heap[w1.heap.size]? = some (.stringIter (strOfNums X) 0)) := ⟨World.iter_heap _ _ _⟩
        have hk1 := HB0.out.size
        have HB2 := Aside0.mk (HB0.out.alloc HB0.out.size (.stringIter (strOfNums X) 0))
        go_wp2_with fail
        clear HCV
        generalize w1.heap.size = kI at HIT hk1 ⊢
        go_loopw [7] (fun v wr => ∃ (pos m : Nat), v = .int .i64 m ∧ Aside0 (pos ≤ X.length) ∧ Aside0 (m + (T.chars (X.drop pos)).length = l.length) ∧
            Aside0 (wr.heap[kI]? = some (.stringIter (strOfNums X) pos)) ∧ Aside0 (Below w.heap.size w wr)) (fun v wr => X.length - wr.iterPos kI)
        case atStart => exact ⟨0, 0, rfl, ⟨Nat.zero_le _⟩, ⟨by rw [List.drop_zero, HCC.out, Nat.zero_add]⟩, HIT, HB2⟩
        case round =>
          obtain ⟨pos, m, rfl, HP, HM, HI, HB⟩ := hrel
          clear HIT HB2
          by_cases hp : pos < X.length
          · obtain ⟨hne, hch, hw1, hw2⟩ := drop_dec HX.out hp
            obtain ⟨w4, hnx, hi4, hB4⟩ := next_on' HX.out hp HI.out HB.out hk1
            have hi4' := iterPos_of hi4
            have HPI := Aside0.mk (iterPos_of HI.out)
            have hmm := HM.out
            rw [hch, List.length_cons] at hmm
            have HM2 : Aside0 ((m + 1) + (T.chars (X.drop (pos + (T.dec (X.drop pos)).2))).length = l.length) := ⟨by omega⟩
            have hm1 : m ≤ 5000 := by omega
            have hgt : pos < pos + (T.dec (X.drop pos)).2 := by omega
            clear HM HB HI hne hch hw1 hmm
            generalize (T.dec (X.drop pos)).1 = ch at hnx
            generalize pos + (T.dec (X.drop pos)).2 = pos2 at hi4 HM2 hw2 hi4' hgt
            have HI4 := Aside0.mk hi4
            have HB4 := Aside0.mk hB4
            clear hi4 hB4
            go_wp2
            go_roundw
            case rel => exact ⟨pos2, m + 1, by go_num, ⟨hw2⟩, HM2, HI4, HB4⟩
            case measure => rw [hi4', HPI.out]; omega
          · have hnx := next_end hp HI.out
            have hml : m = l.length := by
              have := HM.out
              rw [List.drop_of_length_le (by omega), T.chars_nil] at this
              simpa using this
            subst hml
            go_wp2_with fail
            refine (lives_c _).mono ?_
            rintro e w5 ⟨rfl, hB⟩
            have HB5 := Aside0.mk (below_step HB.out hB)
            clear hB
            go_wp2_with fail
            go_ret
            exact ⟨rfl, HB5.out⟩

set_option maxRecDepth 100000 in
theorem lifted (os : Os) (started : os.Started) (H : Type) (enc : TypeId × Value → H) :
    ReturnsInHanded {} Try.checked os 9 .any (Rows.textSizesSpec.pre6 enc Try.prog Try.f9 Rows.textSizesRow.domain false) (Rows.textSizesSpec.post enc Try.prog Try.f9 false true false false) := by
  refine returnsInHanded_of_change_sized (C := Try.checked) own started (by kernel_rfl) Try.func9
    (ChangeSpec.witness6 (enc := enc) (C := Try.checked) false ⟨#[], #[.slice none 0 0], []⟩ 8 (by kernel_rfl) (by kernel_rfl) (by kernel_rfl) (by kernel_rfl)) ?_
  intro W base args ds gs before hval0 hW hcnd hsz0 _
  have hsz : (DataW.weightsEach Try.prog (Try.f9.params.toList ++ Rows.textSizesSpec.plain.varTypes Try.prog) (ds ++ gs)).all (· ≤ reachBytes) = true := hsz0
  have hval : ∀ (j : Nat) t v, Try.f9.params[j]? = some t → args[j]? = some v → Value.okWide Try.prog W .any base t v := hval0
  have hW' := hW
  obtain ⟨p, q, hA0, hV, rfl, hfz, hnd⟩ := hW
  have hA : DataW.TrodAll enc Try.prog W 0 (fun _ => true) true Try.f9.params.toList args.toList ds p := hA0
  rw [Try.params9] at hA hval hsz
  obtain ⟨v0, vs0, d0, ds0, p0, q0, hargs, rfl, rfl, h0, r0⟩ := trodAll_cons hA
  obtain ⟨rfl, rfl, rfl⟩ := trodAll_nil r0
  obtain rfl : args = #[v0] := by cases args; simp_all
  obtain ⟨rfl, rfl⟩ := trodVars_none hV
  have lt0 : ∀ x ∈ p0, x.block < W.heap.size := by obtain ⟨m, hm⟩ := h0; exact DataW.trod_lt m _ _ _ hm
  obtain ⟨a0, len0, cap0, rfl⟩ := okWide_slice Try.underlying25 (hval 0 25 v0 rfl rfl)
  obtain ⟨l0, rfl, hc0, hC0, hg0, hb0⟩ := slice_in (B := 4) Try.underlying25 opens25 h0 hsz (j := 0) rfl rfl (by kernel_rfl)
  clear hA0 hval0
  refine (walk a0 cap0 l0 W hC0 hc0 hg0 hb0).mono fun e W' ⟨he, bel⟩ => ?_
  subst he
  exact ⟨_, rfl, _, _, _, [], _, [], hW', trodAll_mk1 (shut_bool Try.underlying4 _),
    (trodAll_cons_mk (Below.trod laidOut (by kernel_rfl) (of_decide_eq_true (by kernel_rfl)) h0 bel lt0) trodAll_mk0), rfl, bel.frame _, fun h => by cases h⟩

theorem over : Rows.textSizesRow.holds Try.pinned (OpenSpec.ofChange Rows.textSizesSpec) :=
  OpenClaim.holds_of_wide 9 Try.f9 rfl rfl rfl rfl rfl rfl rfl ⟨rfl, rfl, rfl, rfl, rfl⟩ rfl rfl rfl rfl rfl (by kernel_rfl) Try.func9 (by kernel_rfl)
    (of_decide_eq_true (by kernel_rfl)) (by unfold Func.isWrapper; first | (rw [if_pos (by decide +kernel)]; kernel_rfl) | (rw [if_neg (by decide +kernel)]; exact ⟨rfl, rfl⟩))
    (fun os started H enc _ => lifted os started H enc)
theorem proved : Rows.TextSizesSaid := over
#print axioms proved
end Go.Proofs.Ytagncibkgpodfaa.textSizes
namespace Go.Proofs.Ytagncibkgpodfaa
/-- The row, under a short name, for the claim. -/
theorem textSizes_holds : Rows.TextSizesSaid := textSizes.proved
end Go.Proofs.Ytagncibkgpodfaa
