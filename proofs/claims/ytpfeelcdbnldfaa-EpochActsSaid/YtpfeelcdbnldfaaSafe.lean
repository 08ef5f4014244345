/-
  EpochSafe: the walk.
-/
import Derived.Test.YtpfeelcdbnldfaaSf
import Derived.Test.YtpfeelcdbnldfaaMins
import Derived.Test.YtpfeelcdbnldfaaWait
namespace Go.Proofs.Ytpfeelcdbnldfaa
open Go.RowKit Go.Proofs.YtpfeelcdbnldfaaW.PrintWords
set_option linter.unusedVariables false
set_option linter.unusedSimpArgs false

theorem info4 : (Try.prog.info? 4).map (fun i => (i.zero, i.size, i.bytes)) = some (some (.bool false), 1, 1) := by kernel_rfl
theorem rc_safe {S : List Int} {n : Nat} {L I M : List It} {x : It} (h : Rc (leastV S n 8).2 (leastV S n 8).1 L I M) (h8 : n ≤ 8) (hx : x ∈ I) (t : Nat) (h0 : 0 < pinnedV S n t) : x.2 < pinnedV S n t := by
  have ht : t < 8 := by
    by_cases e : t < n
    · omega
    · rw [pinnedV_out e] at h0
      omega
  have k := leastV_spec S n 8
  rcases h.below x hx with e | e
  · have := k.no e t ht
    omega
  · by_cases hb : (leastV S n 8).2 = true
    · have := k.le hb t ht h0
      omega
    · have := k.no (by simpa using hb) t ht
      omega
set_option maxHeartbeats 4000000 in
set_option maxRecDepth 100000 in
theorem walk3 (pins : Int) (hp : 0 ≤ pins) (hp1 : Aside0 (pins ≤ 18446744073709551615)) (A : Option Addr) (c : Nat) (l : List Ac) (w : World) (hC : Kd.C kAc w A l.length l) (hcl : l.length ≤ c) (hb : l.length * 16 ≤ 140737488351232) :
    Calls Try.prog 3 #[.int .u64 pins, .slice A l.length c] w fun e w' => e = .returned (.bool true) ∧ Below w.heap.size w w' := by
  have HC := Aside0.mk hC
  have HCL := Aside0.mk hcl
  clear hC hcl
  by_cases hbig : 200 < l.length
  · have gbig : (200 : Int) < (l.length : Int) := by omega
    go_enter Try.func3, Try.ntmps3
    go_wp2_with fail
    have hN : 1 ≤ 1 + pins % 8 ∧ 1 + pins % 8 ≤ 8 := by omega
    generalize 1 + pins % 8 = N at hN ⊢
    obtain ⟨n, rfl⟩ : ∃ n : Nat, N = n := ⟨N.toNat, by omega⟩
    obtain ⟨hn1, hn8⟩ : 1 ≤ n ∧ n ≤ 8 := by omega
    clear hN
    refine (new_s n hn1 hn8 w).mono ?_
    rintro e w1 ⟨rfl, hS, hB, hO⟩
    have HB := Aside0.mk hB
    clear hS hB hO
    go_wp2_with fail
    refine (lives_c _).mono ?_
    rintro e w2 ⟨rfl, hB2⟩
    have HB2 := Aside0.mk (below_step HB.out hB2)
    clear hB2
    go_wp2_with fail
    go_ret
    exact ⟨rfl, HB2.out⟩
  · have gbig : ¬ ((200 : Int) < (l.length : Int)) := by omega
    have hmk : ∀ W : World, (Instr.makeSlice 28 (.int .i64 ((l.length : Int) + 1)) (.int .i64 ((l.length : Int) + 1))).run Try.prog W = .ok (.slice (some ⟨W.heap.size, 0, none⟩) (l.length + 1) (l.length + 1)) (W.alloc (.cells (madeCells #[.bool false] (l.length + 1)) 4)) := by
      have := print_make_of (P := Try.prog) 28 4 (.bool false) 1 Try.underlying28 info4 rfl (by decide) (l.length + 1) (by omega)
      simpa using this
    go_enter Try.func3, Try.ntmps3
    go_wp2_with fail
    have hN : 1 ≤ 1 + pins % 8 ∧ 1 + pins % 8 ≤ 8 := by omega
    generalize 1 + pins % 8 = N at hN ⊢
    obtain ⟨n, rfl⟩ : ∃ n : Nat, N = n := ⟨N.toNat, by omega⟩
    obtain ⟨hn1, hn8⟩ : 1 ≤ n ∧ n ≤ 8 := by omega
    clear hN
    refine (new_s n hn1 hn8 w).mono ?_
    rintro e w1 ⟨rfl, hS, hB, hO⟩
    have HS := Aside0.mk hS
    have HB := Aside0.mk hB
    have HOW := Aside0.mk hO
    clear hS hB hO
    go_wp2_with fail
    clear hmk
    have HW : Aside0 (Wd w (w1.alloc (.cells (madeCells #[.bool false] (l.length + 1)) 4)) w.heap.size 1 [0, 0, 0, 0, 0, 0, 0, 0] n [] (.slice none 0 0) [] w1.heap.size (l.length + 1) (List.replicate (l.length + 1) false)) := by
      have hlt := HS.out.ow_lt w.heap.size (Or.inl rfl)
      have hX := (Nx.refl HS.out).below ((Below.refl _ _).alloc (Nat.le_refl _) (.cells (madeCells #[.bool false] (l.length + 1)) 4))
      have how := (HS.out.below ((Below.refl _ _).alloc (Nat.le_refl _) (.cells (madeCells #[.bool false] (l.length + 1)) 4)) (Nat.le_refl _)).2
      refine ⟨⟨hX.st, HB.out.alloc HB.out.size _, fun k hk => ?_, World.ownsRow_nil _ _ _ _, own_made_of (enc := Value.bool) (d := false) w1 w.heap.size 4 (l.length + 1) HB.out.size (by omega), fun k hk => by simp [Value.ownBlock] at hk, fun hk => ?_, by simp [Value.ownBlock]⟩⟩
      · rw [how] at hk
        rw [HOW.out k hk]
        exact Nat.le_refl _
      · rw [how] at hk
        have := HOW.out _ hk
        omega
    have HG0 := Aside0.mk (Sf.start (l.length + 1))
    generalize w1.alloc (.cells (madeCells #[.bool false] (l.length + 1)) 4) = w2 at HW ⊢
    generalize w1.heap.size = gb at HW ⊢
    clear HS HB HOW
    go_loopw [7, 46] (fun vw i wr => ∃ (k : Nat) (S : List Int) (now : Int) (L : List It) (wh : List Int) (G : List Bool), i = .int .i64 k ∧ k ≤ l.length ∧ 1 ≤ now ∧ now ≤ (k : Int) + 1 ∧ Aside0 (wh.length ≤ k) ∧ Aside0 (L.length ≤ k) ∧ Aside0 (Sf L wh G) ∧ Aside0 (Wd w wr w.heap.size now S n L vw wh gb (l.length + 1) G)) (fun _ i _ => l.length - (intOf i).toNat)
    case atStart => exact ⟨0, _, 1, [], [], _, rfl, Nat.zero_le _, by decide, by decide, ⟨Nat.le_refl _⟩, ⟨Nat.le_refl _⟩, HG0, HW⟩
    case round =>
      clear HW HG0
      obtain ⟨k, S, now, L, wh, G, rfl, hk, h1, hnow, HWL, HLL, HG, HW⟩ := hrel
      obtain ⟨Aw, cw, hvw⟩ := HW.out.when
      subst hvw
      by_cases hlt : k < l.length
      · have g1 : (k : Int) < (l.length : Int) := by omega
        obtain ⟨ad, rfl, c1, c2, c3⟩ := at_act (Kd.C_below HC.out HW.out.below) k hlt hlt
        generalize l[k].kind = kd at c1
        generalize l[k].n = x at c2 c3
        have HWa := Aside0.mk (HW.out.by_below ((Below.refl _ _).alloc (Nat.le_refl _) (.cells #[.int .i64 kd, .int .i64 x] 30)))
        have d1 := cell1 wr #[.int .i64 kd, .int .i64 x] 30 1
        simp only [List.getElem?_toArray, List.getElem?_cons_zero, List.getElem?_cons_succ] at d1
        go_upto_block 2 with (fail)
        generalize wr.alloc (.cells #[.int .i64 kd, .int .i64 x] 30) = wa at HWa d1 ⊢
        by_cases k0 : kd = 0
        · subst k0
          go_wp2_with fail
          refine (now_s HWa.out.st).mono ?_
          rintro e w3 ⟨rfl, rfl⟩
          go_wp2_with fail
          refine (publish_s HWa.out.st (by omega) (by omega)).mono ?_
          rintro e w4 ⟨rfl, hX⟩
          have HW4 := Aside0.mk (HWa.out.nx hX)
          clear hX
          go_wp2_with fail
          go_roundw
          case rel => exact ⟨k + 1, S, now + 1, L, wh, G, by go_num, hlt, by omega, by omega, ⟨Nat.le_succ_of_le HWL.out⟩, ⟨Nat.le_succ_of_le HLL.out⟩, HG, HW4⟩
          case measure => simp [intOf]; omega
        · by_cases k1 : kd = 1
          · subst k1
            go_wp2_with fail
            refine (pin_s HWa.out.st).mono ?_
            rintro e w3 (⟨i, hi, b, _, rfl, hX⟩ | ⟨_, rfl, hX⟩)
            · have HW3 := Aside0.mk (HWa.out.nx hX)
              have hi8 : i < S.length := by have := HWa.out.st.len; omega
              have HP : Aside0 (pinnedV (S.set i now) n i = now) := ⟨by rw [pinnedV_at hi, getD_set _ _ _ _ hi8, if_pos rfl]⟩
              clear hX b
              go_wp2_with fail
              refine (pinned_s HW3.out.st i).mono ?_
              rintro e w4 ⟨rfl, rfl⟩
              rw [HP.out]
              go_wp2_with fail
              refine (now_s HW3.out.st).mono ?_
              rintro e w4 ⟨rfl, rfl⟩
              go_wp2_with fail
              go_roundw
              case rel => exact ⟨k + 1, _, now, L, wh, G, by go_num, hlt, by omega, by omega, ⟨Nat.le_succ_of_le HWL.out⟩, ⟨Nat.le_succ_of_le HLL.out⟩, HG, HW3⟩
              case measure => simp [intOf]; omega
            · have HW3 := Aside0.mk (HWa.out.nx hX)
              clear hX
              go_wp2_with fail
              go_roundw
              case rel => exact ⟨k + 1, S, now, L, wh, G, by go_num, hlt, by omega, by omega, ⟨Nat.le_succ_of_le HWL.out⟩, ⟨Nat.le_succ_of_le HLL.out⟩, HG, HW3⟩
              case measure => simp [intOf]; omega
          · by_cases k2 : kd = 2
            · subst k2
              go_wp2_with fail
              refine (unpin_s HWa.out.st x).mono ?_
              rintro e w3 h3
              have h4 : ∃ (y : Int) (S2 : List Int), e = .returned (.int .i64 y) ∧ Nx wa w.heap.size now S2 n L w3 := by
                rcases h3 with ⟨_, rfl, hX⟩ | ⟨_, hx0, hxn, rfl, hX⟩
                · exact ⟨_, _, rfl, hX⟩
                · exact ⟨_, _, rfl, hX⟩
              obtain ⟨y, S2, rfl, hX⟩ := h4
              have HW3 := Aside0.mk (HWa.out.nx hX)
              clear hX h3
              go_wp2_with fail
              go_roundw
              case rel => exact ⟨k + 1, S2, now, L, wh, G, by go_num, hlt, by omega, by omega, ⟨Nat.le_succ_of_le HWL.out⟩, ⟨Nat.le_succ_of_le HLL.out⟩, HG, HW3⟩
              case measure => simp [intOf]; omega
            · by_cases k3 : kd = 3
              · subst k3
                go_wp2_with fail
                refine (retire_c HWa.out.st (by have := HLL.out; omega) wh.length).mono ?_
                rintro e w3 ⟨rfl, hX⟩
                have HW3 := Aside0.mk (HWa.out.nx hX)
                clear hX
                go_wp2_with fail
                refine (now_s HW3.out.st).mono ?_
                rintro e w4 ⟨rfl, rfl⟩
                go_wp2_with (at_builtin; refine print_append_num (w0 := w4) w.heap.size rfl (.tmp 90) (.tmp 93) 27 3 .i64 8 rfl Try.underlying27 info3 (by decide) (.slice Aw wh.length cw) wh now rfl rfl HW3.out.wh (Below.refl _ _) HW3.out.below.size (by have := HWL.out; omega) ?_; intro v1 w5 ho hb hg hat; have HW5 := Aside0.mk (HW3.out.append ho hg hat); clear ho hb hg hat)
                go_roundw
                case rel => exact ⟨k + 1, S, now, _, _, G, by go_num, hlt, by omega, by omega, ⟨by have := HWL.out; rw [List.length_append, List.length_singleton]; omega⟩, ⟨by have := HLL.out; rw [List.length_cons]; omega⟩, ⟨HG.out.retire now⟩, HW5⟩
                case measure => simp [intOf]; omega
              · by_cases k4 : kd = 4
                · subst k4
                  go_wp2_with fail
                  refine (reclaim_c HWa.out.st (by have := HLL.out; omega)).mono ?_
                  rintro e w3 ⟨I, M, v, rfl, hR, hM, hX, hO, hOw⟩
                  have hgb := HWa.out.gb_lt
                  have HW3 := Aside0.mk (HWa.out.nx hX)
                  have HV : Aside0 (∀ k, v.ownBlock = some k → wa.heap.size ≤ k) := ⟨fun k hk => (hO.lt k hk).1⟩
                  have HGB : Aside0 (gb < wa.heap.size) := ⟨hgb.2⟩
                  have HRS : Aside0 (∀ x, x ∈ I → ∀ t : Nat, 0 < pinnedV S n t → x.2 < pinnedV S n t) := ⟨fun x hx t h0 => rc_safe hR hn8 hx t h0⟩
                  have HLM : Aside0 (I.length ≤ 200 ∧ M.length ≤ k) := ⟨by have h1 := hR.perm.length_eq; have h2 := HLL.out; rw [List.length_append] at h1; omega⟩
                  have HG3 := Aside0.mk (HG.out.perm hR.perm)
                  obtain ⟨Av, cv, rfl⟩ := own_slice hO
                  have HO := Aside0.mk hO
                  have hil : I.length ≤ 200 := HLM.out.1
                  clear hR hM hX hO hOw hgb
                  go_wp2_with fail
                  go_loopw [100] (fun j wi => ∃ (t : Nat) (G2 : List Bool), j = .int .i64 t ∧ t ≤ I.length ∧ Aside0 (Sf (I.drop t ++ M) wh G2) ∧ Aside0 (Wd w wi w.heap.size now S n M (.slice Aw wh.length cw) wh gb (l.length + 1) G2) ∧ Aside0 (wi.ownsRow wa.heap.size 3 1 (.slice Av I.length cv) I.length (nums .i64 (I.map Prod.fst)))) (fun j _ => I.length - (intOf j).toNat)
                  case atStart => exact ⟨0, G, rfl, Nat.zero_le _, HG3, HW3, HO⟩
                  case round =>
                    clear HG3 HW3 HO
                    obtain ⟨t, G2, rfl, ht, HG2, HW2, HO2⟩ := hrel
                    by_cases htl : t < I.length
                    · have g3 : (t : Int) < (I.length : Int) := by omega
                      obtain ⟨gv, cv2, ev, _, _⟩ := HO2.out.form (by omega)
                      injection ev with ev1 ev2 ev3
                      subst ev1 ev3
                      have hc := (own_at HO2.out t (by omega) (by omega)).1
                      have hrd : rd (I.map Prod.fst) (t : Int) = I[t].1 := by
                        unfold rd
                        rw [Int.toNat_natCast, List.getD_eq_getElem?_getD, List.getElem?_map, List.getElem?_eq_getElem htl]
                        rfl
                      rw [hrd, Int.toNat_natCast] at hc
                      have hdr := HG2.out
                      rw [List.drop_eq_getElem_cons htl, List.cons_append] at hdr
                      obtain ⟨i, hi1, hi2, hi3, hi4⟩ := hdr.mem _ List.mem_cons_self
                      rw [hi1] at hc
                      have hgl := HW2.out.glen
                      have him : i < l.length + 1 := by have := HWL.out; omega
                      have HG4 := Aside0.mk (hdr.mark i hi1 (by rw [hgl]; exact him))
                      obtain ⟨hgc, hgf⟩ := HW2.out.at_gone i him
                      rw [hi4] at hgc
                      have HW4 := Aside0.mk (HW2.out.mark i)
                      have HO4 : Aside0 ((wr.setCell ⟨gb, i, none⟩ (.bool true)).ownsRow wa.heap.size 3 1 (.slice (some ⟨gv, 0, none⟩) I.length cv) I.length (nums .i64 (I.map Prod.fst))) :=
                        ⟨own_fr HO2.out ((Fr.refl (fun k => k = gb) wr).setCell (p := ⟨gb, i, none⟩) (Or.inl rfl) _) (fun k hk e => by have h1 := HV.out k hk; have h2 := HGB.out; omega)⟩
                      have gi : (i : Int) < (wh.length : Int) := by omega
                      have HRT : Aside0 (∀ u : Nat, 0 < pinnedV S n u → wh.getD i 0 < pinnedV S n u) := ⟨fun u h0 => by rw [hi3]; exact HRS.out _ (List.getElem_mem htl) u h0⟩
                      clear hrd hdr hi1 hi3 hi4 hgl HG2
                      go_wp2_with fail
                      generalize wr.setCell ⟨gb, i, none⟩ (.bool true) = wj at HW4 HO4 ⊢
                      obtain ⟨gw, cw2, ew, hwc⟩ := HW4.out.at_when i hi2
                      injection ew with ew1 ew2 ew3
                      subst ew1 ew3
                      go_loop [16] (fun s => ∃ u : Nat, s = .int .i64 u ∧ u ≤ n) (fun s => n - (intOf s).toNat)
                      case atStart => exact ⟨0, rfl, Nat.zero_le _⟩
                      case round =>
                        obtain ⟨u, rfl, hu⟩ := hrel
                        by_cases hun : u < n
                        · have g4 : (u : Int) < (n : Int) := by omega
                          have hrt := HRT.out u
                          have HPC := Aside0.mk (pinned_s HW4.out.st u)
                          generalize pinnedV S n u = y at hrt HPC
                          generalize wh.getD i 0 = z at hrt hwc
                          by_cases hy : 0 < y
                          · have hz : ¬ y ≤ z := by have := hrt hy; omega
                            clear hrt
                            go_wp2_with fail
                            refine HPC.out.mono ?_
                            rintro e w5 ⟨rfl, rfl⟩
                            go_wp2_with fail
                            go_round
                            case rel => exact ⟨u + 1, by go_num, hun⟩
                            case measure => simp [intOf]; omega
                          · clear hrt
                            go_wp2_with fail
                            refine HPC.out.mono ?_
                            rintro e w5 ⟨rfl, rfl⟩
                            go_wp2_with fail
                            go_round
                            case rel => exact ⟨u + 1, by go_num, hun⟩
                            case measure => simp [intOf]; omega
                        · have hun2 : u = n := by omega
                          subst hun2
                          clear hwc
                          go_wp2_with fail
                          go_roundw
                          case rel => exact ⟨t + 1, _, by go_num, htl, HG4, HW4, HO4⟩
                          case measure => simp [intOf]; omega
                    · have htl2 : t = I.length := by omega
                      subst htl2
                      have HG4 := HG2.out
                      rw [List.drop_eq_nil_of_le (Nat.le_refl _), List.nil_append] at HG4
                      have HG5 := Aside0.mk HG4
                      have HLM2 : Aside0 (M.length ≤ k + 1) := ⟨by have := HLM.out.2; omega⟩
                      clear HG4 HG2
                      go_wp2_with fail
                      go_roundw
                      case rel => exact ⟨k + 1, S, now, M, wh, _, by go_num, hlt, by omega, by omega, ⟨Nat.le_succ_of_le HWL.out⟩, HLM2, HG5, HW2⟩
                      case measure => simp [intOf]; omega
                · go_wp2_with fail
                  go_roundw
                  case rel => exact ⟨k + 1, S, now, L, wh, G, by go_num, hlt, by omega, by omega, ⟨Nat.le_succ_of_le HWL.out⟩, ⟨Nat.le_succ_of_le HLL.out⟩, HG, HWa⟩
                  case measure => simp [intOf]; omega
      · have hkl : k = l.length := by omega
        subst hkl
        go_wp2_with fail
        go_loopw [18] (fun s wi => ∃ (t : Nat) (S2 : List Int), s = .int .i64 t ∧ t ≤ n ∧ Aside0 (∀ u : Nat, u < t → S2.getD u 0 = 0) ∧ Aside0 (Wd w wi w.heap.size now S2 n L (.slice Aw wh.length cw) wh gb (l.length + 1) G)) (fun s _ => n - (intOf s).toNat)
        case atStart => exact ⟨0, S, rfl, Nat.zero_le _, ⟨fun u h => by omega⟩, HW⟩
        case round =>
          clear HW
          obtain ⟨t, S2, rfl, ht, HZ, HW⟩ := hrel
          by_cases htn : t < n
          · have g3 : (t : Int) < (n : Int) := by omega
            go_wp2_with fail
            refine (unpin_s HW.out.st t).mono ?_
            rintro e w3 h3
            have h4 : ∃ (y : Int) (S3 : List Int), e = .returned (.int .i64 y) ∧ (∀ u : Nat, u < t + 1 → S3.getD u 0 = 0) ∧ Nx wr w.heap.size now S3 n L w3 := by
              have hl8 := HW.out.st.len
              rcases h3 with ⟨h0, rfl, hX⟩ | ⟨_, hx0, hxn, rfl, hX⟩
              · refine ⟨_, _, rfl, fun u hu => ?_, hX⟩
                by_cases e : u = t
                · subst e
                  rw [pinnedV_at htn] at h0
                  exact h0
                · exact HZ.out u (by omega)
              · refine ⟨_, _, rfl, fun u hu => ?_, hX⟩
                rw [Int.toNat_natCast, getD_set _ _ _ _ (by omega)]
                split
                · rfl
                · exact HZ.out u (by omega)
            obtain ⟨y, S3, rfl, hz, hX⟩ := h4
            have HZ3 := Aside0.mk hz
            have HW3 := Aside0.mk (HW.out.nx hX)
            clear hX h3 hz
            go_wp2_with fail
            go_roundw
            case rel => exact ⟨t + 1, S3, by go_num, htn, HZ3, HW3⟩
            case measure => simp [intOf]; omega
          · obtain rfl : n = t := by omega
            have HLV : Aside0 ((leastV S2 n 8).2 = false) := ⟨by
              have k2 := leastV_spec S2 n 8
              generalize leastV S2 n 8 = a at k2
              obtain ⟨m, b⟩ := a
              cases b with
              | false => rfl
              | true =>
                obtain ⟨⟨s, _, e⟩, h0⟩ := k2.is rfl
                simp only at e h0
                by_cases hs : s < n
                · rw [pinnedV_at hs, HZ.out s hs] at e
                  omega
                · rw [pinnedV_out hs] at e
                  omega⟩
            have HMV : Aside0 (minV S2 n now = now) := ⟨by unfold minV; rw [HLV.out]; rfl⟩
            clear HZ
            go_wp2_with fail
            obtain ⟨wa, rfl⟩ : ∃ wa : World, wa = wr := ⟨_, rfl⟩
            refine (reclaim_c HW.out.st (by have := HLL.out; omega)).mono ?_
            rintro e w3 ⟨I, M, v, rfl, hR, hM, hX, hO, hOw⟩
            obtain rfl : M = [] := hM.elim id (fun e => by have := HLV.out; rw [this] at e; exact absurd e.1 (by decide))
            have hgb := HW.out.gb_lt
            have HW3 := Aside0.mk (HW.out.nx hX)
            have HV : Aside0 (∀ k, v.ownBlock = some k → wa.heap.size ≤ k) := ⟨fun k hk => (hO.lt k hk).1⟩
            have HGB : Aside0 (gb < wa.heap.size) := ⟨hgb.2⟩
            have HG3 := Aside0.mk (HG.out.perm hR.perm)
            have hil : I.length ≤ 200 := by
              have h1 := hR.perm.length_eq
              have h2 := HLL.out
              rw [List.length_append] at h1
              simp only [List.length_nil] at h1
              omega
            obtain ⟨Av, cv, rfl⟩ := own_slice hO
            have HO := Aside0.mk hO
            clear hR hM hX hO hOw hgb
            go_wp2_with fail
            go_loopw [152] (fun j wi => ∃ (t : Nat) (G2 : List Bool), j = .int .i64 t ∧ t ≤ I.length ∧ Aside0 (Sf (I.drop t ++ []) wh G2) ∧ Aside0 (Wd w wi w.heap.size now S2 n [] (.slice Aw wh.length cw) wh gb (l.length + 1) G2) ∧ Aside0 (wi.ownsRow wa.heap.size 3 1 (.slice Av I.length cv) I.length (nums .i64 (I.map Prod.fst)))) (fun j _ => I.length - (intOf j).toNat)
            case atStart => exact ⟨0, G, rfl, Nat.zero_le _, HG3, HW3, HO⟩
            case round =>
              clear HG3 HW3 HO
              obtain ⟨t, G2, rfl, ht, HG2, HW2, HO2⟩ := hrel
              by_cases htl : t < I.length
              · have g3 : (t : Int) < (I.length : Int) := by omega
                obtain ⟨gv, cv2, ev, _, _⟩ := HO2.out.form (by omega)
                injection ev with ev1 ev2 ev3
                subst ev1 ev3
                have hc := (own_at HO2.out t (by omega) (by omega)).1
                have hrd : rd (I.map Prod.fst) (t : Int) = I[t].1 := by
                  unfold rd
                  rw [Int.toNat_natCast, List.getD_eq_getElem?_getD, List.getElem?_map, List.getElem?_eq_getElem htl]
                  rfl
                rw [hrd, Int.toNat_natCast] at hc
                have hdr := HG2.out
                rw [List.drop_eq_getElem_cons htl, List.cons_append] at hdr
                obtain ⟨i, hi1, hi2, hi3, hi4⟩ := hdr.mem _ List.mem_cons_self
                rw [hi1] at hc
                have hgl := HW2.out.glen
                have him : i < l.length + 1 := by have := HWL.out; omega
                have HG4 := Aside0.mk (hdr.mark i hi1 (by rw [hgl]; exact him))
                obtain ⟨hgc, hgf⟩ := HW2.out.at_gone i him
                rw [hi4] at hgc
                have HW4 := Aside0.mk (HW2.out.mark i)
                have HO4 : Aside0 ((wr.setCell ⟨gb, i, none⟩ (.bool true)).ownsRow wa.heap.size 3 1 (.slice (some ⟨gv, 0, none⟩) I.length cv) I.length (nums .i64 (I.map Prod.fst))) :=
                  ⟨own_fr HO2.out ((Fr.refl (fun k => k = gb) wr).setCell (p := ⟨gb, i, none⟩) (Or.inl rfl) _) (fun k hk e => by have h1 := HV.out k hk; have h2 := HGB.out; omega)⟩
                have gi : (i : Int) < (wh.length : Int) := by omega
                clear hrd hdr hi1 hi3 hi4 hgl HG2
                go_wp2_with fail
                go_roundw
                case rel => exact ⟨t + 1, _, by go_num, htl, HG4, HW4, HO4⟩
                case measure => simp [intOf]; omega
              · have htl2 : t = I.length := by omega
                subst htl2
                have HG4 := HG2.out
                rw [List.drop_eq_nil_of_le (Nat.le_refl _), List.nil_append] at HG4
                have HD := Aside0.mk (fun i hi => HG4.done i hi)
                clear HG4 HG2
                go_wp2_with fail
                go_loop [176] (fun s => ∃ u : Nat, s = .int .i64 u ∧ u ≤ wh.length) (fun s => wh.length - (intOf s).toNat)
                case atStart => exact ⟨0, rfl, Nat.zero_le _⟩
                case round =>
                  obtain ⟨u, rfl, hu⟩ := hrel
                  have hwl := HWL.out
                  by_cases hun : u < wh.length
                  · have g4 : (u : Int) < (wh.length : Int) := by omega
                    obtain ⟨hgc, _⟩ := HW2.out.at_gone u (by omega)
                    rw [HD.out u hun] at hgc
                    go_wp2_with fail
                    go_round
                    case rel => exact ⟨u + 1, by go_num, hun⟩
                    case measure => simp [intOf]; omega
                  · have hun2 : u = wh.length := by omega
                    subst hun2
                    go_wp2_with fail
                    refine (waiting_c HW2.out.st (by decide)).mono ?_
                    rintro e w5 ⟨v5, N5, rfl, hP5, _, hO5, hB5⟩
                    obtain rfl : N5 = [] := List.perm_nil.1 hP5
                    obtain ⟨A5, c5, rfl⟩ := own_slice hO5
                    have HW5 := Aside0.mk (HW2.out.by_below hB5)
                    clear hP5 hO5 hB5
                    go_wp2_with fail
                    refine (min_s HW5.out.st).mono ?_
                    rintro e w6 ⟨rfl, rfl⟩
                    rw [HMV.out]
                    go_wp2_with fail
                    refine (now_s HW5.out.st).mono ?_
                    rintro e w6 ⟨rfl, rfl⟩
                    go_wp2_with fail
                    refine (lives_c _).mono ?_
                    rintro e w8 ⟨rfl, hB8⟩
                    have HB8 := Aside0.mk (HW5.out.by_below hB8).below
                    clear hB8
                    go_wp2_with fail
                    go_ret
                    exact ⟨rfl, HB8.out⟩
end Go.Proofs.Ytpfeelcdbnldfaa
