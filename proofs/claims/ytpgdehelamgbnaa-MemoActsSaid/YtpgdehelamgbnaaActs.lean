/-
  MemoActs: the law's walk.
-/
import Derived.Test.YtpgdehelamgbnaaActsM
import Derived.Deep.CutBlock
namespace Go.Proofs.Ytpgdehelamgbnaa
open Go.RowKit Go.Proofs.YtpgdehelamgbnaaW Go.Proofs.YtpgdehelamgbnaaW.PrintWords PMemoActs
set_option linter.unusedVariables false
set_option linter.unusedSimpArgs false
set_option maxHeartbeats 8000000 in
set_option maxRecDepth 100000 in
theorem acts_w {W : World} (sz : Int) {A : Option Addr} {c : Nat} {l : List S33} (h : Kd.C k33 W A l.length l) (hc : l.length ≤ c) (hf : FitsA l) :
    Calls Try.prog 6 #[.int .i64 sz, .slice A l.length c] W fun e w' => e = .returned (.bool true) ∧ Below W.heap.size W w' := by
  have H := Aside0.mk h
  have HC := Aside0.mk hc
  have HF := Aside0.mk hf
  have gl : (l.length : Int) ≤ 140737488355328 := by have := hf.1; omega
  clear h hc hf
  by_cases hbig : 300 < sz ∧ sz ≤ 65536
  · obtain ⟨hb1, hb2⟩ := hbig
    go_enter Try.func6, Try.ntmps6
    go_wp2_with fail
    refine (lives_c).mono ?_
    rintro e w1 ⟨rfl, hb⟩
    have HB := Aside0.mk hb
    clear hb
    go_wp2_with fail
    go_ret
    exact ⟨rfl, HB.out⟩
  · have HBG := Aside0.mk hbig
    obtain ⟨big, hbg⟩ : ∃ big : Bool, big = decide (300 < sz) := ⟨_, rfl⟩
    go_enter Try.func6, Try.ntmps6
    go_upto_region 1 with fail
    go_cut [29] from 19 to 28 (fun v29 wc => ∃ b : Bool, v29 = .bool (!b) ∧ Aside0 (Below W.heap.size W wc))
    case first =>
      by_cases h3 : 300 < sz
      · have h4 : 65536 < sz := by omega
        have d4 : decide (sz ≤ 65536) = false := decide_eq_false (by omega)
        clear hbig
        go_wp2_with fail
        refine (light_c H.out HC.out HF.out).mono ?_
        rintro e w2 ⟨b, rfl, hb⟩
        have HB := Aside0.mk hb
        clear hb hbg
        go_wp2_with fail
        go_meet
        exact ⟨b, rfl, HB⟩
      · have h4 : sz ≤ 300 := by omega
        clear hbig
        go_wp2_with fail
        refine (light_c H.out HC.out HF.out).mono ?_
        rintro e w2 ⟨b, rfl, hb⟩
        have HB := Aside0.mk hb
        clear hb hbg
        go_wp2_with fail
        go_meet
        exact ⟨b, rfl, HB⟩
    case rest =>
      obtain ⟨b, rfl, HB⟩ := hcut
      clear hbig hbg
      cases b with
      | false =>
        go_wp2_with fail
        refine (lives_c).mono ?_
        rintro e w3 ⟨rfl, hb⟩
        have HB3 := Aside0.mk (below_step HB.out hb)
        clear hb
        go_wp2_with fail
        go_ret
        exact ⟨rfl, HB3.out⟩
      | true =>
        by_cases hout : sz < 0 ∨ 65536 < sz
        · have HO := Aside0.mk hout
          clear hout
          go_wp2_with fail
          refine (new_out sz HO.out).mono ?_
          rintro e w3 ⟨rfl, rfl⟩
          go_wp2_with fail
          refine (rnew_out sz HO.out).mono ?_
          rintro e w3 ⟨rfl, rfl⟩
          go_wp2_with fail
          refine (lives_c).mono ?_
          rintro e w3 ⟨rfl, hb⟩
          have HB3 := Aside0.mk (below_step HB.out hb)
          clear hb
          go_wp2_with fail
          go_ret
          exact ⟨rfl, HB3.out⟩
        · obtain ⟨n, rfl⟩ := Int.eq_ofNat_of_zero_le (show 0 ≤ sz by omega)
          have HN : Aside0 (n ≤ 65536) := ⟨by have := HBG.out; omega⟩
          have gn : (n : Int) ≤ 65536 := by have := HN.out; omega
          clear hout HBG
          go_wp2_with fail
          refine (newT_c n HN.out).mono ?_
          rintro e w3 ⟨pt, rfl, ht, hb⟩
          have HT := Aside0.mk (ht.mono (F' := fun k => wc.heap.size ≤ k ∧ k < w3.heap.size) (fun k a b => ⟨a, b⟩))
          have HB3 := Aside0.mk hb
          clear ht hb
          go_wp2_with fail
          refine (rnew_c n HN.out).mono ?_
          rintro e w4 ⟨pr, rfl, hr, hb⟩
          have HS : Aside0 (MS W (fun _ => False) w4 pt pr (List.replicate n none) (List.replicate n none)) := ⟨⟨⟨_, fun k => w3.heap.size ≤ k ∧ k < w4.heap.size, HT.out.below hb, hr.mono (fun k a b => ⟨a, b⟩), fun k h1 h2 => by omega,
            fun k hk => ⟨Nat.le_trans HB.out.size hk.1, Nat.lt_of_lt_of_le hk.2 hb.size⟩, fun k hk => ⟨Nat.le_trans HB.out.size (Nat.le_trans HB3.out.size hk.1), hk.2⟩, fun k hk => hk.elim⟩, below_step (below_step HB.out HB3.out) hb⟩⟩
          clear hr hb HT HB3 HB
          go_wp2_with fail
          go_loopw [45] (fun v wr => ∃ k : Nat, v = .int .i64 k ∧ k ≤ l.length ∧ Aside0 (∃ T, MS W (fun _ => False) wr pt pr T T ∧ T.length = n ∧ Fits T)) (fun v _ => l.length - (intOf v).toNat)
          case atStart => exact ⟨0, rfl, Nat.zero_le _, ⟨_, HS.out, by simp, fits_none n⟩⟩
          case round =>
            obtain ⟨k, rfl, hk, ⟨T, hms, hTn, hfit⟩⟩ := hrel
            by_cases hlt : k < l.length
            · have g1 : (k : Int) < (l.length : Int) := by omega
              obtain ⟨ad, A4, c4, rfl, e0, e1, e2, e3, e4, hl4, hr4⟩ := act_at H.out k hlt
              have e0 := pw_cell_below hms.bel e0
              have e1 := pw_cell_below hms.bel e1
              have e2 := pw_cell_below hms.bel e2
              have e3 := pw_cell_below hms.bel e3
              have e4 := pw_cell_below hms.bel e4
              have HST := Aside0.mk hr4
              have HL4 := Aside0.mk hl4
              have HN4 := Aside0.mk (HF.out.2 _ (List.getElem_mem hlt))
              have HLT := Aside0.mk hlt
              have HMS := Aside0.mk hms
              have HFT := Aside0.mk (And.intro hTn hfit)
              clear hms hTn hfit hr4 hl4 hk HS
              generalize l[k] = y at *
              clear hlt
              have hal := allocs_get [.cells (ac y A4 c4) 33, .cells #[.int .i64 y.f2.f0, .int .i64 y.f2.f1, .slice A4 y.f2.f2.length c4] 48] wr
              have hab := allocs_below [.cells (ac y A4 c4) 33, .cells #[.int .i64 y.f2.f0, .int .i64 y.f2.f1, .slice A4 y.f2.f2.length c4] 48] wr
              have HM2 := Aside0.mk (HMS.out.guard hab)
              have HBX : Aside0 (BxS ((wr.alloc (.cells (ac y A4 c4) 33)).alloc (.cells #[.int .i64 y.f2.f0, .int .i64 y.f2.f1, .slice A4 y.f2.f2.length c4] 48)) wr.heap.size (wr.heap.size + 1) y A4 c4) := ⟨hal 0 (by simp), hal 1 (by simp)⟩
              have HKK : Aside0 ((fun k => wr.heap.size ≤ k ∧ k < (allocs wr [.cells (ac y A4 c4) 33, .cells #[.int .i64 y.f2.f0, .int .i64 y.f2.f1, .slice A4 y.f2.f2.length c4] 48]).heap.size) wr.heap.size ∧ (fun k => wr.heap.size ≤ k ∧ k < (allocs wr [.cells (ac y A4 c4) 33, .cells #[.int .i64 y.f2.f0, .int .i64 y.f2.f1, .slice A4 y.f2.f2.length c4] 48]).heap.size) (wr.heap.size + 1)) := ⟨by rw [allocs_size]; simp⟩
              clear hal hab
              go_upto_block 2 with fail
              change Code.wp Try.prog _ _ _ ((wr.alloc (.cells (ac y A4 c4) 33)).alloc (.cells #[.int .i64 y.f2.f0, .int .i64 y.f2.f1, .slice A4 y.f2.f2.length c4] 48))
              change Aside0 (MS W _ ((wr.alloc (.cells (ac y A4 c4) 33)).alloc (.cells #[.int .i64 y.f2.f0, .int .i64 y.f2.f1, .slice A4 y.f2.f2.length c4] 48)) pt pr T T) at HM2
              generalize ((wr.alloc (.cells (ac y A4 c4) 33)).alloc (.cells #[.int .i64 y.f2.f0, .int .i64 y.f2.f1, .slice A4 y.f2.f2.length c4] 48)) = w2 at *
              generalize (fun k => wr.heap.size ≤ k ∧ k < (allocs wr [.cells (ac y A4 c4) 33, .cells #[.int .i64 y.f2.f0, .int .i64 y.f2.f1, .slice A4 y.f2.f2.length c4] 48]).heap.size) = K at *
              generalize wr.heap.size + 1 = b10 at *
              generalize wr.heap.size = b8 at *
              clear e0 e1 e2 e3 e4 HMS
              go_cut [9, 11, 12, 13, 14, 15, 16, 17, 18] from 53 to 138 (fun v9 v11 v12 v13 v14 v15 v16 v17 v18 wc => v9 = .bool true ∧ Aside0 ((∃ T1, MS W K wc pt pr T1 T1 ∧ T1.length = n ∧ Fits T1) ∧ BxS wc b8 b10 y A4 c4))
              case first =>
                have HA := Aside0.mk (Kd.C_below HST.out HM2.out.bel)
                by_cases c0 : y.f0 = 0
                · have d0 : (y.f0 == 0) = true := by simp [c0]
                  clear c0
                  go_upto_region 15 with fail
                  refine PrintLast.start_ (n := 9) (S := fun w' => BxS w' b8 b10 y A4 c4 ∧ Kd.C Kd.string w' A4 y.f2.f2.length y.f2.f2) (ds := []) #[false, false, false, false, false, false, false, false, false] (by kernel_rfl) rfl rfl (⟨HBX.out.below (below_drew (Below.refl _ _)), Kd.C_below HA.out (below_drew (Below.refl _ _))⟩) (fun hHeld => ?_)
                  have HM3 := Aside0.mk (HM2.out.below (below_drew (Below.refl _ _)))
                  clear HM2 HBX HA
                  generalize w2.drew = w4 at *
                  refine PrintLast.pure_ (i := 0) (N := some 55) (v := ?_) (a' := ?_) #[true, false, false, false, false, false, false, false, false] rfl rfl (by kernel_rfl) (fun _ _ _ h => h) (Or.inl ⟨by rfl, ?_⟩) ?_ ?_
                  rotate_left
                  · intro w'
                    go_simp
                    with_reducible rfl
                  rotate_left
                  · simp only [Act.put, List.setIfInBounds_toArray, List.set_cons_zero, List.set_cons_succ]
                    rfl
                  refine PrintLast.pure_ (i := 1) (N := some 56) (v := ?_) (a' := ?_) #[true, true, false, false, false, false, false, false, false] rfl rfl (by kernel_rfl) (fun _ _ _ h => h) (Or.inl ⟨by rfl, ?_⟩) ?_ ?_
                  rotate_left
                  · intro w'
                    go_simp
                    with_reducible rfl
                  rotate_left
                  · simp only [Act.put, List.setIfInBounds_toArray, List.set_cons_zero, List.set_cons_succ]
                    rfl
                  refine PrintLast.pure_ (i := 4) (N := some 59) (v := ?_) (a' := ?_) #[true, true, false, false, true, false, false, false, false] rfl rfl (by kernel_rfl) (fun _ _ _ h => h) (Or.inl ⟨by rfl, ?_⟩) ?_ ?_
                  rotate_left
                  · intro w'
                    go_simp
                    with_reducible rfl
                  rotate_left
                  · simp only [Act.put, List.setIfInBounds_toArray, List.set_cons_zero, List.set_cons_succ]
                    rfl
                  refine PrintLast.take_ (i := 2) (N := some 57) (v := .agg #[.int .i64 y.f2.f0, .int .i64 y.f2.f1, .slice A4 y.f2.f2.length c4]) (a' := ?_) #[true, true, true, false, true, false, false, false, false] rfl rfl (by kernel_rfl) (fun _ _ _ h => h) (yieldsIf_load_mid (by rfl) 31 (.tmp 56) rfl b8 2 rfl [.int .i64 y.f2.f0, .int .i64 y.f2.f1, .slice A4 y.f2.f2.length c4] _ (fun w hS => range_mid hS.1.1) Try.underlying31 rfl size31) hHeld ?_ ?_
                  rotate_left
                  · simp only [Act.put, List.setIfInBounds_toArray, List.set_cons_zero, List.set_cons_succ]
                    rfl
                  refine PrintLast.take_ (i := 5) (N := some 60) (v := .agg #[.int .i64 y.f2.f0, .int .i64 y.f2.f1, .slice A4 y.f2.f2.length c4]) (a' := ?_) #[true, true, true, false, true, true, false, false, false] rfl rfl (by kernel_rfl) (fun _ _ _ h => h) (yieldsIf_load_mid (by rfl) 48 (.tmp 10) rfl b10 0 rfl [.int .i64 y.f2.f0, .int .i64 y.f2.f1, .slice A4 y.f2.f2.length c4] _ (fun w hS => range3 hS.1.2) Try.underlying48 rfl size48) hHeld ?_ ?_
                  rotate_left
                  · simp only [Act.put, List.setIfInBounds_toArray, List.set_cons_zero, List.set_cons_succ]
                    rfl
                  refine PrintLast.one_ (i := 3) (N := some 58) #[true, true, true, true, true, true, false, false, false] rfl rfl (by kernel_rfl) (by decide) (fun K hK => ?_)
                  refine PrintLast.goes_ Try.func11 (by kernel_rfl) rfl #[.pointer (some ⟨pt, 0, none⟩), .agg #[.int .i64 y.f2.f0, .int .i64 y.f2.f1, .slice A4 y.f2.f2.length c4]] (by rfl) rfl rfl (by first | rfl | (simp only [List.map_toArray, List.map_cons, List.map_nil]; rfl)) ?_
                  refine (HM3.out.put_t hHeld.2 HN4.out).mono ?_
                  rintro e w5 ⟨rfl, hm, hs⟩
                  refine ⟨_, rfl, ?_⟩
                  have HM4 := Aside0.mk hm
                  clear hm
                  refine hK.out _ _ (⟨hHeld.1.stay hs HKK.out.1 HKK.out.2, Kd.C_below HST.out HM4.out.bel⟩) (fun hHeld => ?_)
                  clear hK K
                  refine PrintLast.norm_ (a' := ?_) ?_ ?_
                  rotate_left
                  · show Act.put _ (some 58) _ = _
                    simp only [Act.put, List.setIfInBounds_toArray, List.set_cons_zero, List.set_cons_succ]
                    rfl
                  refine PrintLast.one_ (i := 6) (N := some 61) #[true, true, true, true, true, true, true, false, false] rfl rfl (by kernel_rfl) (by decide) (fun K hK => ?_)
                  refine PrintLast.goes_ Try.func19 (by kernel_rfl) rfl #[.pointer (some ⟨pr, 0, none⟩), .agg #[.int .i64 y.f2.f0, .int .i64 y.f2.f1, .slice A4 y.f2.f2.length c4]] (by rfl) rfl rfl (by first | rfl | (simp only [List.map_toArray, List.map_cons, List.map_nil]; rfl)) ?_
                  refine (HM4.out.put_r hHeld.2 HN4.out).mono ?_
                  rintro e w5 ⟨rfl, hm, hs⟩
                  refine ⟨_, rfl, ?_⟩
                  have HM5 := Aside0.mk hm
                  clear hm
                  refine hK.out _ _ (⟨hHeld.1.stay hs HKK.out.1 HKK.out.2, Kd.C_below HST.out HM5.out.bel⟩) (fun hHeld => ?_)
                  clear hK K
                  refine PrintLast.norm_ (a' := ?_) ?_ ?_
                  rotate_left
                  · show Act.put _ (some 61) _ = _
                    simp only [Act.put, List.setIfInBounds_toArray, List.set_cons_zero, List.set_cons_succ]
                    rfl
                  refine PrintLast.pure_ (i := 7) (N := some 62) (v := ?_) (a' := ?_) #[true, true, true, true, true, true, true, true, false] rfl rfl (by kernel_rfl) (fun _ _ _ h => h) (Or.inl ⟨by rfl, ?_⟩) ?_ ?_
                  rotate_left
                  · intro w'
                    go_simp
                    with_reducible rfl
                  rotate_left
                  · simp only [Act.put, List.setIfInBounds_toArray, List.set_cons_zero, List.set_cons_succ]
                    rfl
                  refine PrintLast.pure_ (i := 8) (N := some 9) (v := ?_) (a' := ?_) #[true, true, true, true, true, true, true, true, true] rfl rfl (by kernel_rfl) (fun _ _ _ h => h) (Or.inl ⟨by rfl, ?_⟩) ?_ ?_
                  rotate_left
                  · intro w'
                    go_simp
                    with_reducible rfl
                  rotate_left
                  · simp only [Act.put, List.setIfInBounds_toArray, List.set_cons_zero, List.set_cons_succ]
                    rfl
                  refine PrintLast.done_ (by kernel_rfl) ?_
                  have HX5 := Aside0.mk hHeld.1
                  clear hHeld
                  go_wp2_with fail
                  go_meet
                  exact ⟨rfl, ⟨⟨_, HM5.out, by rw [putT_length]; exact HFT.out.1, fits_put HFT.out.2 HN4.out⟩, HX5.out⟩⟩
                · have d0 : (y.f0 == 0) = false := by simp [c0]
                  by_cases c1 : y.f0 = 1
                  · have d1 : (y.f0 == 1) = true := by simp [c1]
                    clear c0 c1
                    obtain ⟨u, hu⟩ : ∃ u, getT T y.f2.f0 y.f2.f1 = u := ⟨_, rfl⟩
                    have HGE := Aside0.mk hu
                    clear hu
                    obtain ⟨x0, x1, x2, x3⟩ := HBX.out.facts
                    go_wp2_with fail
                    refine (HM2.out.get_t HFT.out.2 y.f2.f0 y.f2.f1).mono ?_
                    rw [HGE.out]
                    rintro e w5 ⟨hb, hu⟩
                    have HM5 := Aside0.mk (HM2.out.below hb)
                    have HX5 := Aside0.mk (HBX.out.below hb)
                    clear hb HM2 HBX HA x0 x1 x2 x3
                    obtain ⟨x0, x1, x2, x3⟩ := HX5.out.facts
                    cases u with
                    | none =>
                      replace hu : e = .returned (.tuple #[.slice none 0 0, .bool false]) := hu
                      subst hu
                      go_wp2_with fail
                      refine (HM5.out.get_r y.f2.f0 y.f2.f1).mono ?_
                      rw [HGE.out]
                      rintro e w6 ⟨hb, hu⟩
                      replace hu : e = .returned (.tuple #[.slice none 0 0, .bool false]) := hu
                      subst hu
                      have HM6 := Aside0.mk (HM5.out.below hb)
                      have HX6 := Aside0.mk (HX5.out.below hb)
                      clear hb HM5 HX5 x0 x1 x2 x3
                      go_wp2_with fail
                      refine (texts_c (l := []) (Kd.C_nil _ _) (Nat.le_refl _) (Kd.C_nil _ _) (Nat.le_refl _) (by simp)).mono ?_
                      rintro e w7 ⟨rfl, hb⟩
                      have HM7 := Aside0.mk (HM6.out.below hb)
                      have HX7 := Aside0.mk (HX6.out.below hb)
                      clear hb HM6 HX6
                      go_wp2_with fail
                      go_meet
                      exact ⟨rfl, ⟨⟨_, HM7.out, HFT.out⟩, HX7.out⟩⟩
                    | some z =>
                      obtain ⟨v, rfl, ho⟩ := hu
                      obtain ⟨A5, c5, rfl, hc5, hr5⟩ := str_reads ho
                      have HR5 := Aside0.mk (And.intro hr5 hc5)
                      clear ho hr5 hc5
                      go_wp2_with fail
                      refine (HM5.out.get_r y.f2.f0 y.f2.f1).mono ?_
                      rw [HGE.out]
                      rintro e w6 ⟨hb, A6, c6, rfl, hc6, hr6⟩
                      have HR6 := Aside0.mk (And.intro (Kd.C_below HR5.out.1 hb) HR5.out.2)
                      have HQ6 := Aside0.mk (And.intro hr6 hc6)
                      have HM6 := Aside0.mk (HM5.out.below hb)
                      have HX6 := Aside0.mk (HX5.out.below hb)
                      clear hb HM5 HX5 x0 x1 x2 x3 HR5 hr6 hc6
                      go_wp2_with fail
                      refine (texts_c HR6.out.1 HR6.out.2 HQ6.out.1 HQ6.out.2 (fits_get HFT.out.2 HGE.out)).mono ?_
                      rintro e w7 ⟨rfl, hb⟩
                      have HM7 := Aside0.mk (HM6.out.below hb)
                      have HX7 := Aside0.mk (HX6.out.below hb)
                      clear hb HM6 HX6
                      go_wp2_with fail
                      go_meet
                      exact ⟨rfl, ⟨⟨_, HM7.out, HFT.out⟩, HX7.out⟩⟩
                  · have d1 : (y.f0 == 1) = false := by simp [c1]
                    by_cases c2 : y.f0 = 2
                    · have d2 : (y.f0 == 2) = true := by simp [c2]
                      clear c0 c1 c2
                      go_upto_region 21 with fail
                      refine PrintLast.start_ (n := 13) (S := fun w' => BxS w' b8 b10 y A4 c4 ∧ Kd.C Kd.string w' A4 y.f2.f2.length y.f2.f2) (ds := []) #[false, false, false, false, false, false, false, false, false, false, false, false, false] (by kernel_rfl) rfl rfl (⟨HBX.out.below (below_drew (Below.refl _ _)), Kd.C_below HA.out (below_drew (Below.refl _ _))⟩) (fun hHeld => ?_)
                      have HM3 := Aside0.mk (HM2.out.below (below_drew (Below.refl _ _)))
                      clear HM2 HBX HA
                      generalize w2.drew = w4 at *
                      refine PrintLast.pure_ (i := 0) (N := some 97) (v := ?_) (a' := ?_) #[true, false, false, false, false, false, false, false, false, false, false, false, false] rfl rfl (by kernel_rfl) (fun _ _ _ h => h) (Or.inl ⟨by rfl, ?_⟩) ?_ ?_
                      rotate_left
                      · intro w'
                        go_simp
                        with_reducible rfl
                      rotate_left
                      · simp only [Act.put, List.setIfInBounds_toArray, List.set_cons_zero, List.set_cons_succ]
                        rfl
                      refine PrintLast.pure_ (i := 1) (N := some 98) (v := ?_) (a' := ?_) #[true, true, false, false, false, false, false, false, false, false, false, false, false] rfl rfl (by kernel_rfl) (fun _ _ _ h => h) (Or.inl ⟨by rfl, ?_⟩) ?_ ?_
                      rotate_left
                      · intro w'
                        go_simp
                        with_reducible rfl
                      rotate_left
                      · simp only [Act.put, List.setIfInBounds_toArray, List.set_cons_zero, List.set_cons_succ]
                        rfl
                      refine PrintLast.pure_ (i := 3) (N := some 100) (v := ?_) (a' := ?_) #[true, true, false, true, false, false, false, false, false, false, false, false, false] rfl rfl (by kernel_rfl) (fun _ _ _ h => h) (Or.inl ⟨by rfl, ?_⟩) ?_ ?_
                      rotate_left
                      · intro w'
                        go_simp
                        with_reducible rfl
                      rotate_left
                      · simp only [Act.put, List.setIfInBounds_toArray, List.set_cons_zero, List.set_cons_succ]
                        rfl
                      refine PrintLast.pure_ (i := 6) (N := some 103) (v := ?_) (a' := ?_) #[true, true, false, true, false, false, true, false, false, false, false, false, false] rfl rfl (by kernel_rfl) (fun _ _ _ h => h) (Or.inl ⟨by rfl, ?_⟩) ?_ ?_
                      rotate_left
                      · intro w'
                        go_simp
                        with_reducible rfl
                      rotate_left
                      · simp only [Act.put, List.setIfInBounds_toArray, List.set_cons_zero, List.set_cons_succ]
                        rfl
                      refine PrintLast.pure_ (i := 7) (N := some 104) (v := ?_) (a' := ?_) #[true, true, false, true, false, false, true, true, false, false, false, false, false] rfl rfl (by kernel_rfl) (fun _ _ _ h => h) (Or.inl ⟨by rfl, ?_⟩) ?_ ?_
                      rotate_left
                      · intro w'
                        go_simp
                        with_reducible rfl
                      rotate_left
                      · simp only [Act.put, List.setIfInBounds_toArray, List.set_cons_zero, List.set_cons_succ]
                        rfl
                      refine PrintLast.take_ (i := 2) (N := some 99) (v := .int .i64 y.f1) (a' := ?_) #[true, true, true, true, false, false, true, true, false, false, false, false, false] rfl rfl (by kernel_rfl) (fun _ _ _ h => h) (Or.inl ⟨by rfl, ?_⟩) hHeld ?_ ?_
                      · intro w' hS
                        obtain ⟨x0, x1, x2, x3⟩ := hS.1.facts
                        go_simp
                      rotate_left
                      · simp only [Act.put, List.setIfInBounds_toArray, List.set_cons_zero, List.set_cons_succ]
                        rfl
                      refine PrintLast.take_ (i := 8) (N := some 105) (v := .int .i64 y.f1) (a' := ?_) #[true, true, true, true, false, false, true, true, true, false, false, false, false] rfl rfl (by kernel_rfl) (fun _ _ _ h => h) (Or.inl ⟨by rfl, ?_⟩) hHeld ?_ ?_
                      · intro w' hS
                        obtain ⟨x0, x1, x2, x3⟩ := hS.1.facts
                        go_simp
                      rotate_left
                      · simp only [Act.put, List.setIfInBounds_toArray, List.set_cons_zero, List.set_cons_succ]
                        rfl
                      refine PrintLast.take_ (i := 4) (N := some 101) (v := .agg #[.int .i64 y.f2.f0, .int .i64 y.f2.f1, .slice A4 y.f2.f2.length c4]) (a' := ?_) #[true, true, true, true, true, false, true, true, true, false, false, false, false] rfl rfl (by kernel_rfl) (fun _ _ _ h => h) (yieldsIf_load_mid (by rfl) 31 (.tmp 100) rfl b8 2 rfl [.int .i64 y.f2.f0, .int .i64 y.f2.f1, .slice A4 y.f2.f2.length c4] _ (fun w hS => range_mid hS.1.1) Try.underlying31 rfl size31) hHeld ?_ ?_
                      rotate_left
                      · simp only [Act.put, List.setIfInBounds_toArray, List.set_cons_zero, List.set_cons_succ]
                        rfl
                      refine PrintLast.take_ (i := 9) (N := some 106) (v := .agg #[.int .i64 y.f2.f0, .int .i64 y.f2.f1, .slice A4 y.f2.f2.length c4]) (a' := ?_) #[true, true, true, true, true, false, true, true, true, true, false, false, false] rfl rfl (by kernel_rfl) (fun _ _ _ h => h) (yieldsIf_load_mid (by rfl) 48 (.tmp 10) rfl b10 0 rfl [.int .i64 y.f2.f0, .int .i64 y.f2.f1, .slice A4 y.f2.f2.length c4] _ (fun w hS => range3 hS.1.2) Try.underlying48 rfl size48) hHeld ?_ ?_
                      rotate_left
                      · simp only [Act.put, List.setIfInBounds_toArray, List.set_cons_zero, List.set_cons_succ]
                        rfl
                      refine PrintLast.one_ (i := 5) (N := some 102) #[true, true, true, true, true, true, true, true, true, true, false, false, false] rfl rfl (by kernel_rfl) (by decide) (fun K hK => ?_)
                      refine PrintLast.goes_ Try.func17 (by kernel_rfl) rfl #[.pointer (some ⟨pt, 0, none⟩), .int .i64 y.f1, .agg #[.int .i64 y.f2.f0, .int .i64 y.f2.f1, .slice A4 y.f2.f2.length c4]] (by rfl) rfl rfl (by first | rfl | (simp only [List.map_toArray, List.map_cons, List.map_nil]; rfl)) ?_
                      refine (HM3.out.cas_t y.f1 hHeld.2 HN4.out).mono ?_
                      rintro e w5 ⟨rfl, hm, hs⟩
                      refine ⟨_, rfl, ?_⟩
                      have HM4 := Aside0.mk hm
                      clear hm
                      refine hK.out _ _ (⟨hHeld.1.stay hs HKK.out.1 HKK.out.2, Kd.C_below HST.out HM4.out.bel⟩) (fun hHeld => ?_)
                      clear hK K
                      refine PrintLast.norm_ (a' := ?_) ?_ ?_
                      rotate_left
                      · show Act.put _ (some 102) _ = _
                        simp only [Act.put, List.setIfInBounds_toArray, List.set_cons_zero, List.set_cons_succ]
                        rfl
                      refine PrintLast.one_ (i := 10) (N := some 107) #[true, true, true, true, true, true, true, true, true, true, true, false, false] rfl rfl (by kernel_rfl) (by decide) (fun K hK => ?_)
                      refine PrintLast.goes_ Try.func21 (by kernel_rfl) rfl #[.pointer (some ⟨pr, 0, none⟩), .int .i64 y.f1, .agg #[.int .i64 y.f2.f0, .int .i64 y.f2.f1, .slice A4 y.f2.f2.length c4]] (by rfl) rfl rfl (by first | rfl | (simp only [List.map_toArray, List.map_cons, List.map_nil]; rfl)) ?_
                      refine (HM4.out.cas_r y.f1 hHeld.2 HN4.out).mono ?_
                      rintro e w5 ⟨rfl, hm, hs⟩
                      refine ⟨_, rfl, ?_⟩
                      have HM5 := Aside0.mk hm
                      clear hm
                      refine hK.out _ _ (⟨hHeld.1.stay hs HKK.out.1 HKK.out.2, Kd.C_below HST.out HM5.out.bel⟩) (fun hHeld => ?_)
                      clear hK K
                      refine PrintLast.norm_ (a' := ?_) ?_ ?_
                      rotate_left
                      · show Act.put _ (some 107) _ = _
                        simp only [Act.put, List.setIfInBounds_toArray, List.set_cons_zero, List.set_cons_succ]
                        rfl
                      refine PrintLast.pure_ (i := 11) (N := some 108) (v := ?_) (a' := ?_) #[true, true, true, true, true, true, true, true, true, true, true, true, false] rfl rfl (by kernel_rfl) (fun _ _ _ h => h) (Or.inl ⟨by rfl, ?_⟩) ?_ ?_
                      rotate_left
                      · intro w'
                        go_simp
                        with_reducible rfl
                      rotate_left
                      · simp only [Act.put, List.setIfInBounds_toArray, List.set_cons_zero, List.set_cons_succ]
                        rfl
                      refine PrintLast.pure_ (i := 12) (N := some 9) (v := ?_) (a' := ?_) #[true, true, true, true, true, true, true, true, true, true, true, true, true] rfl rfl (by kernel_rfl) (fun _ _ _ h => h) (Or.inl ⟨by rfl, ?_⟩) ?_ ?_
                      rotate_left
                      · intro w'
                        go_simp
                        with_reducible rfl
                      rotate_left
                      · simp only [Act.put, List.setIfInBounds_toArray, List.set_cons_zero, List.set_cons_succ]
                        rfl
                      refine PrintLast.done_ (by kernel_rfl) ?_
                      have HX5 := Aside0.mk hHeld.1
                      clear hHeld
                      go_wp2_with fail
                      go_meet
                      exact ⟨rfl, ⟨⟨_, HM5.out, by rw [casT_length]; exact HFT.out.1, fits_cas HFT.out.2 HN4.out⟩, HX5.out⟩⟩
                    · have d2 : (y.f0 == 2) = false := by simp [c2]
                      by_cases c3 : y.f0 = 3
                      · have d3 : (y.f0 == 3) = true := by simp [c3]
                        clear c0 c1 c2 c3
                        obtain ⟨u, hu⟩ : ∃ u, lookT T y.f1 = u := ⟨_, rfl⟩
                        have HGE := Aside0.mk hu
                        clear hu
                        obtain ⟨x0, x1, x2, x3⟩ := HBX.out.facts
                        go_wp2_with fail
                        refine (HM2.out.load_t HFT.out.2 y.f1).mono ?_
                        rw [HGE.out]
                        rintro e w5 ⟨hb, hu⟩
                        have HM5 := Aside0.mk (HM2.out.below hb)
                        have HX5 := Aside0.mk (HBX.out.below hb)
                        clear hb HM2 HBX HA x0 x1 x2 x3
                        cases u with
                        | none =>
                          replace hu : e = .returned (.tuple #[.agg #[.int .i64 0, .int .i64 0, .slice none 0 0], .bool false]) := hu
                          subst hu
                          obtain ⟨x0, x1, x2, x3⟩ := HX5.out.facts
                          have hba := (Below.refl w5.heap.size w5).alloc (Nat.le_refl _) (.cells #[.int .i64 0, .int .i64 0, .slice none 0 0] 31)
                          have hnw := heap_alloc_new w5 (.cells #[.int .i64 0, .int .i64 0, .slice none 0 0] 31)
                          have y1 := pw_cell_below hba x1
                          have HM6 := Aside0.mk (HM5.out.below hba)
                          have HX6 := Aside0.mk (HX5.out.below hba)
                          have HN6 := Aside0.mk hnw
                          clear hnw hba
                          go_upto_region 24 with fail
                          change Code.wp Try.prog _ _ _ (w5.alloc (.cells #[.int .i64 0, .int .i64 0, .slice none 0 0] 31))
                          clear HM5 HX5 x0 x1 x2 x3
                          generalize (w5.alloc (.cells #[.int .i64 0, .int .i64 0, .slice none 0 0] 31)) = w6 at *
                          generalize w5.heap.size = b15 at *
                          go_wp2_with fail
                          refine (HM6.out.load_r y.f1).mono ?_
                          rw [HGE.out]
                          rintro e w7 ⟨hb, hu⟩
                          replace hu : e = .returned (.tuple #[.agg #[.int .i64 0, .int .i64 0, .slice none 0 0], .bool false]) := hu
                          subst hu
                          have hba := (Below.refl w7.heap.size w7).alloc (Nat.le_refl _) (.cells #[.int .i64 0, .int .i64 0, .slice none 0 0] 48)
                          have h15 := (hba.block _ (blk_lt ((hb.block _ (blk_lt HN6.out)).trans HN6.out))).trans ((hb.block _ (blk_lt HN6.out)).trans HN6.out)
                          have HM8 := Aside0.mk ((HM6.out.below hb).below hba)
                          have HX8 := Aside0.mk ((HX6.out.below hb).below hba)
                          have hnw := heap_alloc_new w7 (.cells #[.int .i64 0, .int .i64 0, .slice none 0 0] 48)
                          clear hb hba HM6 HX6 y1 HN6
                          go_upto_region 25 with fail
                          change Code.wp Try.prog _ _ _ (w7.alloc (.cells #[.int .i64 0, .int .i64 0, .slice none 0 0] 48))
                          generalize (w7.alloc (.cells #[.int .i64 0, .int .i64 0, .slice none 0 0] 48)) = w8 at *
                          generalize w7.heap.size = b17 at *
                          have p0 := (blk_cell h15 0).trans rfl
                          have q0 := (blk_cell hnw 0).trans rfl
                          have p1 := (blk_cell h15 1).trans rfl
                          have q1 := (blk_cell hnw 1).trans rfl
                          have p2 := (blk_cell h15 2).trans rfl
                          have q2 := (blk_cell hnw 2).trans rfl
                          clear h15 hnw
                          go_wp2_with fail
                          refine (same_c (l := []) (Kd.C_nil _ _) (Nat.le_refl _) (Kd.C_nil _ _) (Nat.le_refl _) (by simp)).mono ?_
                          rintro e w9 ⟨rfl, hb⟩
                          have HM9 := Aside0.mk (HM8.out.below hb)
                          have HX9 := Aside0.mk (HX8.out.below hb)
                          clear hb HM8 HX8 p0 p1 p2 q0 q1 q2
                          go_wp2_with fail
                          go_meet
                          exact ⟨rfl, ⟨⟨_, HM9.out, HFT.out⟩, HX9.out⟩⟩
                        | some z =>
                          obtain ⟨v, rfl, ho⟩ := hu
                          obtain ⟨A5, c5, rfl, hc5, hr5⟩ := str_reads ho
                          clear ho
                          obtain ⟨x0, x1, x2, x3⟩ := HX5.out.facts
                          have hba := (Below.refl w5.heap.size w5).alloc (Nat.le_refl _) (.cells #[.int .i64 z.f0, .int .i64 z.f1, .slice A5 z.f2.length c5] 31)
                          have hnw := heap_alloc_new w5 (.cells #[.int .i64 z.f0, .int .i64 z.f1, .slice A5 z.f2.length c5] 31)
                          have y1 := pw_cell_below hba x1
                          have HM6 := Aside0.mk (HM5.out.below hba)
                          have HX6 := Aside0.mk (HX5.out.below hba)
                          have HN6 := Aside0.mk hnw
                          have HR6 := Aside0.mk (And.intro (Kd.C_below hr5 hba) hc5)
                          clear hr5 hc5
                          clear hnw hba
                          go_upto_region 24 with fail
                          change Code.wp Try.prog _ _ _ (w5.alloc (.cells #[.int .i64 z.f0, .int .i64 z.f1, .slice A5 z.f2.length c5] 31))
                          clear HM5 HX5 x0 x1 x2 x3
                          generalize (w5.alloc (.cells #[.int .i64 z.f0, .int .i64 z.f1, .slice A5 z.f2.length c5] 31)) = w6 at *
                          generalize w5.heap.size = b15 at *
                          go_wp2_with fail
                          refine (HM6.out.load_r y.f1).mono ?_
                          rw [HGE.out]
                          rintro e w7 ⟨hb, A6, c6, rfl, ho⟩
                          obtain ⟨A6', c6', he6, hc6, hr6⟩ := str_reads ho
                          cases he6
                          have hba := (Below.refl w7.heap.size w7).alloc (Nat.le_refl _) (.cells #[.int .i64 z.f0, .int .i64 z.f1, .slice A6 z.f2.length c6] 48)
                          have h15 := (hba.block _ (blk_lt ((hb.block _ (blk_lt HN6.out)).trans HN6.out))).trans ((hb.block _ (blk_lt HN6.out)).trans HN6.out)
                          have HM8 := Aside0.mk ((HM6.out.below hb).below hba)
                          have HX8 := Aside0.mk ((HX6.out.below hb).below hba)
                          have hnw := heap_alloc_new w7 (.cells #[.int .i64 z.f0, .int .i64 z.f1, .slice A6 z.f2.length c6] 48)
                          have HR8 := Aside0.mk (And.intro (Kd.C_below (Kd.C_below HR6.out.1 hb) hba) HR6.out.2)
                          have HQ8 := Aside0.mk (And.intro (Kd.C_below hr6 hba) hc6)
                          clear HR6 hr6 hc6 ho
                          clear hb hba HM6 HX6 y1 HN6
                          go_upto_region 25 with fail
                          change Code.wp Try.prog _ _ _ (w7.alloc (.cells #[.int .i64 z.f0, .int .i64 z.f1, .slice A6 z.f2.length c6] 48))
                          generalize (w7.alloc (.cells #[.int .i64 z.f0, .int .i64 z.f1, .slice A6 z.f2.length c6] 48)) = w8 at *
                          generalize w7.heap.size = b17 at *
                          have p0 := (blk_cell h15 0).trans rfl
                          have q0 := (blk_cell hnw 0).trans rfl
                          have p1 := (blk_cell h15 1).trans rfl
                          have q1 := (blk_cell hnw 1).trans rfl
                          have p2 := (blk_cell h15 2).trans rfl
                          have q2 := (blk_cell hnw 2).trans rfl
                          clear h15 hnw
                          go_wp2_with fail
                          refine (same_c HR8.out.1 HR8.out.2 HQ8.out.1 HQ8.out.2 (fits_look HFT.out.2 HGE.out)).mono ?_
                          rintro e w9 ⟨rfl, hb⟩
                          have HM9 := Aside0.mk (HM8.out.below hb)
                          have HX9 := Aside0.mk (HX8.out.below hb)
                          clear hb HM8 HX8 p0 p1 p2 q0 q1 q2
                          go_wp2_with fail
                          go_meet
                          exact ⟨rfl, ⟨⟨_, HM9.out, HFT.out⟩, HX9.out⟩⟩
                      · have d3 : (y.f0 == 3) = false := by simp [c3]
                        by_cases c4 : y.f0 = 4
                        · have d4 : (y.f0 == 4) = true := by simp [c4]
                          clear c0 c1 c2 c3 c4
                          go_wp2_with fail
                          refine (HM2.out.clear_t).mono ?_
                          rintro e w5 ⟨rfl, hm, hs⟩
                          have HM5 := Aside0.mk hm
                          have HX5 := Aside0.mk (HBX.out.stay hs HKK.out.1 HKK.out.2)
                          clear hm hs HM2 HBX HA
                          go_wp2_with fail
                          refine (HM5.out.clear_r).mono ?_
                          rintro e w6 ⟨rfl, hm, hs⟩
                          have HM6 := Aside0.mk hm
                          have HX6 := Aside0.mk (HX5.out.stay hs HKK.out.1 HKK.out.2)
                          clear hm hs HM5 HX5
                          go_wp2_with fail
                          go_meet
                          exact ⟨rfl, ⟨⟨_, HM6.out, by rw [List.length_replicate]; exact HFT.out.1, fits_none _⟩, HX6.out⟩⟩
                        · have d4 : (y.f0 == 4) = false := by simp [c4]
                          clear c0 c1 c2 c3 c4
                          go_wp2_with fail
                          go_meet
                          exact ⟨rfl, ⟨⟨_, HM2.out, HFT.out⟩, HBX.out⟩⟩
              case rest =>
                obtain ⟨rfl, HA⟩ := hcut
                obtain ⟨⟨T1, hm1, ht1⟩, hx1⟩ := HA.out
                obtain ⟨G, hrm⟩ := hm1.rm
                obtain ⟨A0, c0, hp0⟩ := hrm.blk
                have HE : Aside0 (EndS W K wc b8 b10 y A4 c4 pt pr T1 A0 c0) := ⟨hx1, hm1, hp0⟩
                have HF1 := Aside0.mk ht1
                clear hm1 ht1 hx1 hrm hp0 HA HM2 HBX
                go_upto_region 29 with fail
                refine PrintLast.start_ (n := 38) (S := fun w' => EndS W K w' b8 b10 y A4 c4 pt pr T1 A0 c0) (ds := []) #[false, false, false, false, false, false, false, false, false, false, false, false, false, false, false, false, false, false, false, false, false, false, false, false, false, false, false, false, false, false, false, false, false, false, false, false, false, false] (by kernel_rfl) rfl rfl (HE.out.below (below_drew (Below.refl _ _))) (fun hHeld => ?_)
                clear HE
                generalize wc.drew = w4 at *
                refine PrintLast.pure_ (i := 0) (N := some 139) (v := ?_) (a' := ?_) #[true, false, false, false, false, false, false, false, false, false, false, false, false, false, false, false, false, false, false, false, false, false, false, false, false, false, false, false, false, false, false, false, false, false, false, false, false, false] rfl rfl (by kernel_rfl) (fun _ _ _ h => h) (Or.inl ⟨by rfl, ?_⟩) ?_ ?_
                rotate_left
                · intro w'
                  go_simp
                  with_reducible rfl
                rotate_left
                · simp only [Act.put, List.setIfInBounds_toArray, List.set_cons_zero, List.set_cons_succ]
                  rfl
                refine PrintLast.pure_ (i := 1) (N := some 140) (v := ?_) (a' := ?_) #[true, true, false, false, false, false, false, false, false, false, false, false, false, false, false, false, false, false, false, false, false, false, false, false, false, false, false, false, false, false, false, false, false, false, false, false, false, false] rfl rfl (by kernel_rfl) (fun _ _ _ h => h) (Or.inl ⟨by rfl, ?_⟩) ?_ ?_
                rotate_left
                · intro w'
                  go_simp
                  with_reducible rfl
                rotate_left
                · simp only [Act.put, List.setIfInBounds_toArray, List.set_cons_zero, List.set_cons_succ]
                  rfl
                refine PrintLast.pure_ (i := 2) (N := some 141) (v := ?_) (a' := ?_) #[true, true, true, false, false, false, false, false, false, false, false, false, false, false, false, false, false, false, false, false, false, false, false, false, false, false, false, false, false, false, false, false, false, false, false, false, false, false] rfl rfl (by kernel_rfl) (fun _ _ _ h => h) (Or.inl ⟨by rfl, ?_⟩) ?_ ?_
                rotate_left
                · intro w'
                  go_simp
                  with_reducible rfl
                rotate_left
                · simp only [Act.put, List.setIfInBounds_toArray, List.set_cons_zero, List.set_cons_succ]
                  rfl
                refine PrintLast.pure_ (i := 3) (N := some 142) (v := ?_) (a' := ?_) #[true, true, true, true, false, false, false, false, false, false, false, false, false, false, false, false, false, false, false, false, false, false, false, false, false, false, false, false, false, false, false, false, false, false, false, false, false, false] rfl rfl (by kernel_rfl) (fun _ _ _ h => h) (Or.inl ⟨by rfl, ?_⟩) ?_ ?_
                rotate_left
                · intro w'
                  go_simp
                  with_reducible rfl
                rotate_left
                · simp only [Act.put, List.setIfInBounds_toArray, List.set_cons_zero, List.set_cons_succ]
                  rfl
                refine PrintLast.pure_ (i := 5) (N := some 144) (v := ?_) (a' := ?_) #[true, true, true, true, false, true, false, false, false, false, false, false, false, false, false, false, false, false, false, false, false, false, false, false, false, false, false, false, false, false, false, false, false, false, false, false, false, false] rfl rfl (by kernel_rfl) (fun _ _ _ h => h) (Or.inl ⟨by rfl, ?_⟩) ?_ ?_
                rotate_left
                · intro w'
                  go_simp
                  with_reducible rfl
                rotate_left
                · simp only [Act.put, List.setIfInBounds_toArray, List.set_cons_zero, List.set_cons_succ]
                  rfl
                refine PrintLast.one_ (i := 4) (N := some 143) #[true, true, true, true, true, true, false, false, false, false, false, false, false, false, false, false, false, false, false, false, false, false, false, false, false, false, false, false, false, false, false, false, false, false, false, false, false, false] rfl rfl (by kernel_rfl) (by decide) (fun K hK => ?_)
                refine PrintLast.goes_ Try.func14 (by kernel_rfl) rfl #[.pointer (some ⟨pt, 0, none⟩)] (by rfl) rfl rfl (by first | rfl | (simp only [List.map_toArray, List.map_cons, List.map_nil]; rfl)) ?_
                refine (hHeld.2.1.used_t).mono ?_
                rintro e w5 ⟨rfl, hb⟩
                refine ⟨_, rfl, ?_⟩
                skip
                refine hK.out _ _ (hHeld.below hb) (fun hHeld => ?_)
                clear hK K
                refine PrintLast.norm_ (a' := ?_) ?_ ?_
                rotate_left
                · show Act.put _ (some 143) _ = _
                  simp only [Act.put, List.setIfInBounds_toArray, List.set_cons_zero, List.set_cons_succ]
                  rfl
                refine PrintLast.one_ (i := 6) (N := some 145) #[true, true, true, true, true, true, true, false, false, false, false, false, false, false, false, false, false, false, false, false, false, false, false, false, false, false, false, false, false, false, false, false, false, false, false, false, false, false] rfl rfl (by kernel_rfl) (by decide) (fun K hK => ?_)
                refine PrintLast.goes_ Try.func26 (by kernel_rfl) rfl #[.pointer (some ⟨pr, 0, none⟩)] (by rfl) rfl rfl (by first | rfl | (simp only [List.map_toArray, List.map_cons, List.map_nil]; rfl)) ?_
                refine (hHeld.2.1.used_r).mono ?_
                rintro e w5 ⟨rfl, hb⟩
                refine ⟨_, rfl, ?_⟩
                skip
                refine hK.out _ _ (hHeld.below hb) (fun hHeld => ?_)
                clear hK K
                refine PrintLast.norm_ (a' := ?_) ?_ ?_
                rotate_left
                · show Act.put _ (some 145) _ = _
                  simp only [Act.put, List.setIfInBounds_toArray, List.set_cons_zero, List.set_cons_succ]
                  rfl
                refine PrintLast.pure_ (i := 7) (N := some 146) (v := ?_) (a' := ?_) #[true, true, true, true, true, true, true, true, false, false, false, false, false, false, false, false, false, false, false, false, false, false, false, false, false, false, false, false, false, false, false, false, false, false, false, false, false, false] rfl rfl (by kernel_rfl) (fun _ _ _ h => h) (Or.inl ⟨by rfl, ?_⟩) ?_ ?_
                rotate_left
                · intro w'
                  go_simp
                  with_reducible rfl
                rotate_left
                · simp only [Act.put, List.setIfInBounds_toArray, List.set_cons_zero, List.set_cons_succ]
                  rfl
                refine PrintLast.pure_ (i := 8) (N := some 147) (v := ?_) (a' := ?_) #[true, true, true, true, true, true, true, true, true, false, false, false, false, false, false, false, false, false, false, false, false, false, false, false, false, false, false, false, false, false, false, false, false, false, false, false, false, false] rfl rfl (by kernel_rfl) (fun _ _ _ h => h) (Or.inl ⟨by rfl, ?_⟩) ?_ ?_
                rotate_left
                · intro w'
                  go_simp
                  with_reducible rfl
                rotate_left
                · simp only [Act.put, List.setIfInBounds_toArray, List.set_cons_zero, List.set_cons_succ]
                  rfl
                refine PrintLast.pure_ (i := 9) (N := some 148) (v := ?_) (a' := ?_) #[true, true, true, true, true, true, true, true, true, true, false, false, false, false, false, false, false, false, false, false, false, false, false, false, false, false, false, false, false, false, false, false, false, false, false, false, false, false] rfl rfl (by kernel_rfl) (fun _ _ _ h => h) (Or.inl ⟨by rfl, ?_⟩) ?_ ?_
                rotate_left
                · intro w'
                  go_simp
                  with_reducible rfl
                rotate_left
                · simp only [Act.put, List.setIfInBounds_toArray, List.set_cons_zero, List.set_cons_succ]
                  rfl
                refine PrintLast.pure_ (i := 10) (N := some 149) (v := ?_) (a' := ?_) #[true, true, true, true, true, true, true, true, true, true, true, false, false, false, false, false, false, false, false, false, false, false, false, false, false, false, false, false, false, false, false, false, false, false, false, false, false, false] rfl rfl (by kernel_rfl) (fun _ _ _ h => h) (Or.inl ⟨by rfl, ?_⟩) ?_ ?_
                rotate_left
                · intro w'
                  go_simp
                  with_reducible rfl
                rotate_left
                · simp only [Act.put, List.setIfInBounds_toArray, List.set_cons_zero, List.set_cons_succ]
                  rfl
                refine PrintLast.pure_ (i := 12) (N := some 151) (v := ?_) (a' := ?_) #[true, true, true, true, true, true, true, true, true, true, true, false, true, false, false, false, false, false, false, false, false, false, false, false, false, false, false, false, false, false, false, false, false, false, false, false, false, false] rfl rfl (by kernel_rfl) (fun _ _ _ h => h) (Or.inl ⟨by rfl, ?_⟩) ?_ ?_
                rotate_left
                · intro w'
                  go_simp
                  with_reducible rfl
                rotate_left
                · simp only [Act.put, List.setIfInBounds_toArray, List.set_cons_zero, List.set_cons_succ]
                  rfl
                refine PrintLast.pure_ (i := 13) (N := some 152) (v := ?_) (a' := ?_) #[true, true, true, true, true, true, true, true, true, true, true, false, true, true, false, false, false, false, false, false, false, false, false, false, false, false, false, false, false, false, false, false, false, false, false, false, false, false] rfl rfl (by kernel_rfl) (fun _ _ _ h => h) (Or.inl ⟨by rfl, ?_⟩) ?_ ?_
                rotate_left
                · intro w'
                  go_simp
                  with_reducible rfl
                rotate_left
                · simp only [Act.put, List.setIfInBounds_toArray, List.set_cons_zero, List.set_cons_succ]
                  rfl
                refine PrintLast.pure_ (i := 14) (N := some 153) (v := ?_) (a' := ?_) #[true, true, true, true, true, true, true, true, true, true, true, false, true, true, true, false, false, false, false, false, false, false, false, false, false, false, false, false, false, false, false, false, false, false, false, false, false, false] rfl rfl (by kernel_rfl) (fun _ _ _ h => h) (Or.inl ⟨by rfl, ?_⟩) ?_ ?_
                rotate_left
                · intro w'
                  go_simp
                  with_reducible rfl
                rotate_left
                · simp only [Act.put, List.setIfInBounds_toArray, List.set_cons_zero, List.set_cons_succ]
                  rfl
                refine PrintLast.take_ (i := 15) (N := some 154) (v := .slice A0 T1.length c0) (a' := ?_) #[true, true, true, true, true, true, true, true, true, true, true, false, true, true, true, true, false, false, false, false, false, false, false, false, false, false, false, false, false, false, false, false, false, false, false, false, false, false] rfl rfl (by kernel_rfl) (fun _ _ _ h => h) (Or.inl ⟨by rfl, ?_⟩) hHeld ?_ ?_
                · intro w' hS
                  have hc2 := (blk_cell hS.2.2 0).trans rfl
                  go_simp
                rotate_left
                · simp only [Act.put, List.setIfInBounds_toArray, List.set_cons_zero, List.set_cons_succ]
                  rfl
                refine PrintLast.pure_ (i := 16) (N := some 155) (v := ?_) (a' := ?_) #[true, true, true, true, true, true, true, true, true, true, true, false, true, true, true, true, true, false, false, false, false, false, false, false, false, false, false, false, false, false, false, false, false, false, false, false, false, false] rfl rfl (by kernel_rfl) (fun _ _ _ h => h) (Or.inl ⟨by rfl, ?_⟩) ?_ ?_
                rotate_left
                · intro w'
                  go_simp
                  with_reducible rfl
                rotate_left
                · simp only [Act.put, List.setIfInBounds_toArray, List.set_cons_zero, List.set_cons_succ]
                  rfl
                refine PrintLast.one_ (i := 11) (N := some 150) #[true, true, true, true, true, true, true, true, true, true, true, true, true, true, true, true, true, false, false, false, false, false, false, false, false, false, false, false, false, false, false, false, false, false, false, false, false, false] rfl rfl (by kernel_rfl) (by decide) (fun K hK => ?_)
                refine PrintLast.goes_ Try.func27 (by kernel_rfl) rfl #[.pointer (some ⟨pt, 0, none⟩)] (by rfl) rfl rfl (by first | rfl | (simp only [List.map_toArray, List.map_cons, List.map_nil]; rfl)) ?_
                refine (hHeld.2.1.size_t).mono ?_
                rintro e w5 ⟨rfl, rfl⟩
                refine ⟨_, rfl, ?_⟩
                skip
                refine hK.out _ _ (hHeld) (fun hHeld => ?_)
                clear hK K
                refine PrintLast.norm_ (a' := ?_) ?_ ?_
                rotate_left
                · show Act.put _ (some 150) _ = _
                  simp only [Act.put, List.setIfInBounds_toArray, List.set_cons_zero, List.set_cons_succ]
                  rfl
                refine PrintLast.pure_ (i := 17) (N := some 156) (v := ?_) (a' := ?_) #[true, true, true, true, true, true, true, true, true, true, true, true, true, true, true, true, true, true, false, false, false, false, false, false, false, false, false, false, false, false, false, false, false, false, false, false, false, false] rfl rfl (by kernel_rfl) (fun _ _ _ h => h) (Or.inl ⟨by rfl, ?_⟩) ?_ ?_
                rotate_left
                · intro w'
                  go_simp
                  with_reducible rfl
                rotate_left
                · simp only [Act.put, List.setIfInBounds_toArray, List.set_cons_zero, List.set_cons_succ]
                  rfl
                refine PrintLast.pure_ (i := 18) (N := some 157) (v := ?_) (a' := ?_) #[true, true, true, true, true, true, true, true, true, true, true, true, true, true, true, true, true, true, true, false, false, false, false, false, false, false, false, false, false, false, false, false, false, false, false, false, false, false] rfl rfl (by kernel_rfl) (fun _ _ _ h => h) (Or.inl ⟨by rfl, ?_⟩) ?_ ?_
                rotate_left
                · intro w'
                  go_simp
                  with_reducible rfl
                rotate_left
                · simp only [Act.put, List.setIfInBounds_toArray, List.set_cons_zero, List.set_cons_succ]
                  rfl
                refine PrintLast.pure_ (i := 19) (N := some 158) (v := ?_) (a' := ?_) #[true, true, true, true, true, true, true, true, true, true, true, true, true, true, true, true, true, true, true, true, false, false, false, false, false, false, false, false, false, false, false, false, false, false, false, false, false, false] rfl rfl (by kernel_rfl) (fun _ _ _ h => h) (Or.inl ⟨by rfl, ?_⟩) ?_ ?_
                rotate_left
                · intro w'
                  go_simp
                  with_reducible rfl
                rotate_left
                · simp only [Act.put, List.setIfInBounds_toArray, List.set_cons_zero, List.set_cons_succ]
                  rfl
                refine PrintLast.pure_ (i := 20) (N := some 159) (v := ?_) (a' := ?_) #[true, true, true, true, true, true, true, true, true, true, true, true, true, true, true, true, true, true, true, true, true, false, false, false, false, false, false, false, false, false, false, false, false, false, false, false, false, false] rfl rfl (by kernel_rfl) (fun _ _ _ h => h) (Or.inl ⟨by rfl, ?_⟩) ?_ ?_
                rotate_left
                · intro w'
                  go_simp
                  with_reducible rfl
                rotate_left
                · simp only [Act.put, List.setIfInBounds_toArray, List.set_cons_zero, List.set_cons_succ]
                  rfl
                refine PrintLast.pure_ (i := 21) (N := some 160) (v := ?_) (a' := ?_) #[true, true, true, true, true, true, true, true, true, true, true, true, true, true, true, true, true, true, true, true, true, true, false, false, false, false, false, false, false, false, false, false, false, false, false, false, false, false] rfl rfl (by kernel_rfl) (fun _ _ _ h => h) (Or.inl ⟨by rfl, ?_⟩) ?_ ?_
                rotate_left
                · intro w'
                  go_simp
                  with_reducible rfl
                rotate_left
                · simp only [Act.put, List.setIfInBounds_toArray, List.set_cons_zero, List.set_cons_succ]
                  rfl
                refine PrintLast.pure_ (i := 22) (N := some 161) (v := ?_) (a' := ?_) #[true, true, true, true, true, true, true, true, true, true, true, true, true, true, true, true, true, true, true, true, true, true, true, false, false, false, false, false, false, false, false, false, false, false, false, false, false, false] rfl rfl (by kernel_rfl) (fun _ _ _ h => h) (Or.inl ⟨by rfl, ?_⟩) ?_ ?_
                rotate_left
                · intro w'
                  go_simp
                  with_reducible rfl
                rotate_left
                · simp only [Act.put, List.setIfInBounds_toArray, List.set_cons_zero, List.set_cons_succ]
                  rfl
                refine PrintLast.pure_ (i := 24) (N := some 163) (v := ?_) (a' := ?_) #[true, true, true, true, true, true, true, true, true, true, true, true, true, true, true, true, true, true, true, true, true, true, true, false, true, false, false, false, false, false, false, false, false, false, false, false, false, false] rfl rfl (by kernel_rfl) (fun _ _ _ h => h) (Or.inl ⟨by rfl, ?_⟩) ?_ ?_
                rotate_left
                · intro w'
                  go_simp
                  with_reducible rfl
                rotate_left
                · simp only [Act.put, List.setIfInBounds_toArray, List.set_cons_zero, List.set_cons_succ]
                  rfl
                refine PrintLast.pure_ (i := 25) (N := some 164) (v := ?_) (a' := ?_) #[true, true, true, true, true, true, true, true, true, true, true, true, true, true, true, true, true, true, true, true, true, true, true, false, true, true, false, false, false, false, false, false, false, false, false, false, false, false] rfl rfl (by kernel_rfl) (fun _ _ _ h => h) (Or.inl ⟨by rfl, ?_⟩) ?_ ?_
                rotate_left
                · intro w'
                  go_simp
                  with_reducible rfl
                rotate_left
                · simp only [Act.put, List.setIfInBounds_toArray, List.set_cons_zero, List.set_cons_succ]
                  rfl
                refine PrintLast.take_ (i := 23) (N := some 162) (v := .int .i64 y.f2.f0) (a' := ?_) #[true, true, true, true, true, true, true, true, true, true, true, true, true, true, true, true, true, true, true, true, true, true, true, true, true, true, false, false, false, false, false, false, false, false, false, false, false, false] rfl rfl (by kernel_rfl) (fun _ _ _ h => h) (Or.inl ⟨by rfl, ?_⟩) hHeld ?_ ?_
                · intro w' hS
                  obtain ⟨x0, x1, x2, x3⟩ := hS.1.facts
                  go_simp
                rotate_left
                · simp only [Act.put, List.setIfInBounds_toArray, List.set_cons_zero, List.set_cons_succ]
                  rfl
                refine PrintLast.take_ (i := 26) (N := some 165) (v := .int .i64 y.f2.f1) (a' := ?_) #[true, true, true, true, true, true, true, true, true, true, true, true, true, true, true, true, true, true, true, true, true, true, true, true, true, true, true, false, false, false, false, false, false, false, false, false, false, false] rfl rfl (by kernel_rfl) (fun _ _ _ h => h) (Or.inl ⟨by rfl, ?_⟩) hHeld ?_ ?_
                · intro w' hS
                  obtain ⟨x0, x1, x2, x3⟩ := hS.1.facts
                  go_simp
                rotate_left
                · simp only [Act.put, List.setIfInBounds_toArray, List.set_cons_zero, List.set_cons_succ]
                  rfl
                refine PrintLast.pure_ (i := 28) (N := some 167) (v := ?_) (a' := ?_) #[true, true, true, true, true, true, true, true, true, true, true, true, true, true, true, true, true, true, true, true, true, true, true, true, true, true, true, false, true, false, false, false, false, false, false, false, false, false] rfl rfl (by kernel_rfl) (fun _ _ _ h => h) (Or.inl ⟨by rfl, ?_⟩) ?_ ?_
                rotate_left
                · intro w'
                  go_simp
                  with_reducible rfl
                rotate_left
                · simp only [Act.put, List.setIfInBounds_toArray, List.set_cons_zero, List.set_cons_succ]
                  rfl
                refine PrintLast.pure_ (i := 29) (N := some 168) (v := ?_) (a' := ?_) #[true, true, true, true, true, true, true, true, true, true, true, true, true, true, true, true, true, true, true, true, true, true, true, true, true, true, true, false, true, true, false, false, false, false, false, false, false, false] rfl rfl (by kernel_rfl) (fun _ _ _ h => h) (Or.inl ⟨by rfl, ?_⟩) ?_ ?_
                rotate_left
                · intro w'
                  go_simp
                  with_reducible rfl
                rotate_left
                · simp only [Act.put, List.setIfInBounds_toArray, List.set_cons_zero, List.set_cons_succ]
                  rfl
                refine PrintLast.pure_ (i := 30) (N := some 169) (v := ?_) (a' := ?_) #[true, true, true, true, true, true, true, true, true, true, true, true, true, true, true, true, true, true, true, true, true, true, true, true, true, true, true, false, true, true, true, false, false, false, false, false, false, false] rfl rfl (by kernel_rfl) (fun _ _ _ h => h) (Or.inl ⟨by rfl, ?_⟩) ?_ ?_
                rotate_left
                · intro w'
                  go_simp
                  with_reducible rfl
                rotate_left
                · simp only [Act.put, List.setIfInBounds_toArray, List.set_cons_zero, List.set_cons_succ]
                  rfl
                refine PrintLast.pure_ (i := 32) (N := some 171) (v := ?_) (a' := ?_) #[true, true, true, true, true, true, true, true, true, true, true, true, true, true, true, true, true, true, true, true, true, true, true, true, true, true, true, false, true, true, true, false, true, false, false, false, false, false] rfl rfl (by kernel_rfl) (fun _ _ _ h => h) (Or.inl ⟨by rfl, ?_⟩) ?_ ?_
                rotate_left
                · intro w'
                  go_simp
                  with_reducible rfl
                rotate_left
                · simp only [Act.put, List.setIfInBounds_toArray, List.set_cons_zero, List.set_cons_succ]
                  rfl
                refine PrintLast.pure_ (i := 33) (N := some 172) (v := ?_) (a' := ?_) #[true, true, true, true, true, true, true, true, true, true, true, true, true, true, true, true, true, true, true, true, true, true, true, true, true, true, true, false, true, true, true, false, true, true, false, false, false, false] rfl rfl (by kernel_rfl) (fun _ _ _ h => h) (Or.inl ⟨by rfl, ?_⟩) ?_ ?_
                rotate_left
                · intro w'
                  go_simp
                  with_reducible rfl
                rotate_left
                · simp only [Act.put, List.setIfInBounds_toArray, List.set_cons_zero, List.set_cons_succ]
                  rfl
                refine PrintLast.take_ (i := 31) (N := some 170) (v := .int .i64 y.f2.f0) (a' := ?_) #[true, true, true, true, true, true, true, true, true, true, true, true, true, true, true, true, true, true, true, true, true, true, true, true, true, true, true, false, true, true, true, true, true, true, false, false, false, false] rfl rfl (by kernel_rfl) (fun _ _ _ h => h) (Or.inl ⟨by rfl, ?_⟩) hHeld ?_ ?_
                · intro w' hS
                  obtain ⟨x0, x1, x2, x3⟩ := hS.1.facts
                  go_simp
                rotate_left
                · simp only [Act.put, List.setIfInBounds_toArray, List.set_cons_zero, List.set_cons_succ]
                  rfl
                refine PrintLast.take_ (i := 34) (N := some 173) (v := .int .i64 y.f2.f1) (a' := ?_) #[true, true, true, true, true, true, true, true, true, true, true, true, true, true, true, true, true, true, true, true, true, true, true, true, true, true, true, false, true, true, true, true, true, true, true, false, false, false] rfl rfl (by kernel_rfl) (fun _ _ _ h => h) (Or.inl ⟨by rfl, ?_⟩) hHeld ?_ ?_
                · intro w' hS
                  obtain ⟨x0, x1, x2, x3⟩ := hS.1.facts
                  go_simp
                rotate_left
                · simp only [Act.put, List.setIfInBounds_toArray, List.set_cons_zero, List.set_cons_succ]
                  rfl
                refine PrintLast.one_ (i := 27) (N := some 166) #[true, true, true, true, true, true, true, true, true, true, true, true, true, true, true, true, true, true, true, true, true, true, true, true, true, true, true, true, true, true, true, true, true, true, true, false, false, false] rfl rfl (by kernel_rfl) (by decide) (fun K hK => ?_)
                refine PrintLast.goes_ Try.func16 (by kernel_rfl) rfl #[.pointer (some ⟨pt, 0, none⟩), .int .i64 y.f2.f0, .int .i64 y.f2.f1] (by rfl) rfl rfl (by first | rfl | (simp only [List.map_toArray, List.map_cons, List.map_nil]; rfl)) ?_
                refine (hHeld.2.1.home_t y.f2.f0 y.f2.f1).mono ?_
                rintro e w5 ⟨rfl, rfl⟩
                refine ⟨_, rfl, ?_⟩
                skip
                refine hK.out _ _ (hHeld) (fun hHeld => ?_)
                clear hK K
                refine PrintLast.norm_ (a' := ?_) ?_ ?_
                rotate_left
                · show Act.put _ (some 166) _ = _
                  simp only [Act.put, List.setIfInBounds_toArray, List.set_cons_zero, List.set_cons_succ]
                  rfl
                refine PrintLast.one_ (i := 35) (N := some 174) #[true, true, true, true, true, true, true, true, true, true, true, true, true, true, true, true, true, true, true, true, true, true, true, true, true, true, true, true, true, true, true, true, true, true, true, true, false, false] rfl rfl (by kernel_rfl) (by decide) (fun K hK => ?_)
                refine PrintLast.goes_ Try.func28 (by kernel_rfl) rfl #[.pointer (some ⟨pr, 0, none⟩), .int .i64 y.f2.f0, .int .i64 y.f2.f1] (by rfl) rfl rfl (by first | rfl | (simp only [List.map_toArray, List.map_cons, List.map_nil]; rfl)) ?_
                refine (hHeld.2.1.home_r y.f2.f0 y.f2.f1).mono ?_
                rintro e w5 ⟨rfl, rfl⟩
                refine ⟨_, rfl, ?_⟩
                skip
                refine hK.out _ _ (hHeld) (fun hHeld => ?_)
                clear hK K
                refine PrintLast.norm_ (a' := ?_) ?_ ?_
                rotate_left
                · show Act.put _ (some 174) _ = _
                  simp only [Act.put, List.setIfInBounds_toArray, List.set_cons_zero, List.set_cons_succ]
                  rfl
                refine PrintLast.pure_ (i := 36) (N := some 175) (v := ?_) (a' := ?_) #[true, true, true, true, true, true, true, true, true, true, true, true, true, true, true, true, true, true, true, true, true, true, true, true, true, true, true, true, true, true, true, true, true, true, true, true, true, false] rfl rfl (by kernel_rfl) (fun _ _ _ h => h) (Or.inl ⟨by rfl, ?_⟩) ?_ ?_
                rotate_left
                · intro w'
                  go_simp
                  with_reducible rfl
                rotate_left
                · simp only [Act.put, List.setIfInBounds_toArray, List.set_cons_zero, List.set_cons_succ]
                  rfl
                refine PrintLast.pure_ (i := 37) (N := some 176) (v := ?_) (a' := ?_) #[true, true, true, true, true, true, true, true, true, true, true, true, true, true, true, true, true, true, true, true, true, true, true, true, true, true, true, true, true, true, true, true, true, true, true, true, true, true] rfl rfl (by kernel_rfl) (fun _ _ _ h => h) (Or.inl ⟨by rfl, ?_⟩) ?_ ?_
                rotate_left
                · intro w'
                  go_simp
                  with_reducible rfl
                rotate_left
                · simp only [Act.put, List.setIfInBounds_toArray, List.set_cons_zero, List.set_cons_succ]
                  rfl
                refine PrintLast.done_ (by kernel_rfl) ?_
                go_wp2_with fail
                exact ⟨⟨k + 1, by go_num, HLT.out, ⟨T1, hHeld.2.1.free, HF1.out.1, HF1.out.2⟩⟩, by have := HLT.out; simp [intOf]; omega⟩
            · have g1 : ¬ (k : Int) < (l.length : Int) := by omega
              have HB := Aside0.mk hms.bel
              clear hms
              go_wp2_with fail
              refine (lives_c).mono ?_
              rintro e w3 ⟨rfl, hb⟩
              have HB3 := Aside0.mk (below_step HB.out hb)
              clear hb
              go_wp2_with fail
              go_ret
              exact ⟨rfl, HB3.out⟩
end Go.Proofs.Ytpgdehelamgbnaa
