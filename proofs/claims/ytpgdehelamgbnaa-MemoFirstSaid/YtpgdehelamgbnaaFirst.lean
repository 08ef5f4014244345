/-
  MemoFirst: the law's walk.
-/
import Derived.Test.YtpgdehelamgbnaaFirstM
namespace Go.Proofs.Ytpgdehelamgbnaa
open Go.RowKit Go.Proofs.YtpgdehelamgbnaaW Go.Proofs.YtpgdehelamgbnaaW.PrintWords PMemoActs
set_option linter.unusedVariables false
set_option linter.unusedSimpArgs false
/-- An act's cells. -/
def ac (a : S33) (A : Option Addr) (c : Nat) : Array Value := #[.int .i64 a.f0, .int .i64 a.f1, .int .i64 a.f2.f0, .int .i64 a.f2.f1, .slice A a.f2.f2.length c]
theorem act_at {W : World} {A : Option Addr} {l : List S33} (h : Kd.C k33 W A l.length l) (k : Nat) (hk : k < l.length) : ∃ ad A4 c4, A = some ad ∧ W.cell? (ad.add (k * 5)) = some (.int .i64 (l[k]).f0) ∧ W.cell? ⟨(ad.add (k * 5)).block, (ad.add (k * 5)).off + 1, none⟩ = some (.int .i64 (l[k]).f1) ∧
    W.cell? ⟨(ad.add (k * 5)).block, (ad.add (k * 5)).off + 2, none⟩ = some (.int .i64 (l[k]).f2.f0) ∧ W.cell? ⟨(ad.add (k * 5)).block, (ad.add (k * 5)).off + 3, none⟩ = some (.int .i64 (l[k]).f2.f1) ∧
    W.cell? ⟨(ad.add (k * 5)).block, (ad.add (k * 5)).off + 4, none⟩ = some (.slice A4 (l[k]).f2.f2.length c4) ∧ (l[k]).f2.f2.length ≤ c4 ∧ Kd.C Kd.string W A4 (l[k]).f2.f2.length (l[k]).f2.f2 := by
  have := at_T33 h (k : Int) (by omega) (by omega)
  rw [rd33_at l k hk, Int.toNat_natCast] at this
  exact this
theorem info31 : (Try.prog.info? 31).map (fun i => (i.zero, i.size, i.bytes)) = some (some (.agg #[.int .i64 0, .int .i64 0, .slice none 0 0]), 3, 40) := by kernel_rfl
set_option maxHeartbeats 4000000 in
set_option maxRecDepth 100000 in
theorem first_w {W : World} (a : Int) (ha : 0 ≤ a) (ha2 : a ≤ 18446744073709551615) {A : Option Addr} {c : Nat} {l : List S33} (h : Kd.C k33 W A l.length l) (hc : l.length ≤ c) (hf : FitsA l) :
    Calls Try.prog 3 #[.int .u64 a, .slice A l.length c] W fun e w' => e = .returned (.bool true) ∧ Below W.heap.size W w' := by
  obtain ⟨n, hs⟩ : ∃ n : Nat, a % 40 = (n : Int) := Int.eq_ofNat_of_zero_le (Int.emod_nonneg _ (by decide))
  have hn40 : (n : Int) < 40 := by rw [← hs]; exact Int.emod_lt_of_pos _ (by decide)
  have HNN : Aside0 (n < 40 ∧ n ≤ 65536) := ⟨by omega, by omega⟩
  have H := Aside0.mk h
  have HC := Aside0.mk hc
  have HF := Aside0.mk hf
  have gl : (l.length : Int) ≤ 140737488355328 := by have := hf.1; omega
  clear h hc hf
  go_enter Try.func3, Try.ntmps3
  go_wp2_with fail
  refine (newT_c n HNN.out.2).mono ?_
  rintro e w1 ⟨p, rfl, ht, hb⟩
  have HT1 := Aside0.mk (FS.new ht hb)
  have H1 := Aside0.mk (Kd.C_below H.out hb)
  clear ht hb hs ha ha2
  go_wp2_with fail
  refine (light_c H1.out HC.out HF.out).mono ?_
  rintro e w2 ⟨b, rfl, hb⟩
  have HT2 := Aside0.mk (HT1.out.below hb)
  clear hb HT1 H1
  cases b with
  | false =>
    go_wp2_with fail
    refine (lives_c).mono ?_
    rintro e w3 ⟨rfl, hb⟩
    have HB := Aside0.mk (below_step HT2.out.bel hb)
    clear hb
    go_wp2_with fail
    go_ret
    exact ⟨rfl, HB.out⟩
  | true =>
    go_wp2_with fail
    go_loopw [39, 7] (fun v v7 wr => ∃ k : Nat, v = .int .i64 k ∧ k ≤ l.length ∧ Aside0 (∃ T X, FS W (fun _ => False) wr (some ⟨p, 0, none⟩) v7 X T ∧ Ins T n (X.map (·.1)) ∧ ∀ e ∈ X, Came W e)) (fun v _ _ => l.length - (intOf v).toNat)
    case atStart => exact ⟨0, rfl, Nat.zero_le _, ⟨_, [], HT2.out, ins_0 n, fun e he => by cases he⟩⟩
    case round =>
      obtain ⟨k, rfl, hk, ⟨T, X, hfs, hins, hcame⟩⟩ := hrel
      by_cases hlt : k < l.length
      · have g1 : (k : Int) < (l.length : Int) := by omega
        obtain ⟨Ai, ci, rfl⟩ := hfs.slice_
        obtain ⟨ad, A4, c4, rfl, e0, e1, e2, e3, e4, hl4, hr4⟩ := act_at H.out k hlt
        have e0 := pw_cell_below hfs.bel e0
        have e1 := pw_cell_below hfs.bel e1
        have e2 := pw_cell_below hfs.bel e2
        have e3 := pw_cell_below hfs.bel e3
        have e4 := pw_cell_below hfs.bel e4
        have hX : X.length ≤ n := by
          have h1 := hins.2.2.2
          have h2 : used T ≤ T.length := List.length_filter_le ..
          rw [hins.1, h1, List.length_map] at h2
          exact h2
        have gX : (X.length : Int) ≤ 40 := by omega
        have HFS := Aside0.mk hfs
        have HIN := Aside0.mk hins
        have HCA := Aside0.mk hcame
        have HLT := Aside0.mk hlt
        have HY : Aside0 (Came W ((l[k]).f2, A4, c4)) := ⟨hr4, hl4, HF.out.2 _ (List.getElem_mem hlt)⟩
        clear hfs hins hcame HT2 hX hk hl4 hr4
        generalize l[k] = y at *
        clear hlt
        go_wp2_with fail
        have hba := (Below.refl wr.heap.size wr).alloc (Nat.le_refl _) (.cells (ac y A4 c4) 33)
        have HFA := Aside0.mk (HFS.out.guard hba)
        have HGA := Aside0.mk (heap_alloc_new wr (.cells (ac y A4 c4) 33))
        change Code.wp Try.prog _ _ _ (wr.alloc (.cells (ac y A4 c4) 33))
        obtain ⟨Bx, hBx⟩ : ∃ Bx, wr.heap.size = Bx := ⟨_, rfl⟩
        rw [World.size_alloc, hBx] at HFA
        rw [hBx] at HGA ⊢
        clear hba HFS e0 e1 e2 e3 e4
        generalize wr.alloc (.cells (ac y A4 c4) 33) = wa at *
        clear hBx
        go_loopw [10, 45] (fun v10 v45 wr => ∃ (i : Nat) (z : Int), v45 = .int .i64 i ∧ v10 = .int .i64 z ∧ i ≤ X.length ∧ -1 ≤ z ∧ z ≤ 40 ∧ Aside0 (decide (0 ≤ z) = hasK ((X.take i).map (·.1)) y.f2) ∧ Aside0 (Below wa.heap.size wa wr)) (fun _ v _ => X.length - (intOf v).toNat)
        case atStart => exact ⟨0, -1, rfl, rfl, Nat.zero_le _, Int.le_refl _, by decide, ⟨rfl⟩, ⟨Below.refl _ _⟩⟩
        case round =>
          obtain ⟨i, z, rfl, rfl, hi, hz1, hz2, HZ, HBw⟩ := hrel
          have hg := (HBw.out.block _ (blk_lt HGA.out)).trans HGA.out
          have HFw := Aside0.mk (HFA.out.below HBw.out)
          have HGw := Aside0.mk hg
          have b2 : wr.cell? ⟨Bx, 2, none⟩ = some (.int .i64 y.f2.f0) := (blk_cell hg 2).trans rfl
          have b3 : wr.cell? ⟨Bx, 3, none⟩ = some (.int .i64 y.f2.f1) := (blk_cell hg 3).trans rfl
          clear hg
          by_cases hil : i < X.length
          · have gi : (i : Int) < (X.length : Int) := by omega
            obtain ⟨g, cap, hv, x0, x1, x2⟩ := HFw.out.at_ i hil
            have hv2 := hv
            simp only [Value.slice.injEq, true_and] at hv2
            obtain ⟨rfl, rfl⟩ := hv2
            have HIL := Aside0.mk hil
            have HSN : Aside0 (hasK ((X.take (i + 1)).map (·.1)) y.f2 = (hasK ((X.take i).map (·.1)) y.f2 || keyed y.f2.f0 y.f2.f1 (X[i]).1)) := ⟨by rw [List.take_succ_eq_append_getElem hil, List.map_append, List.map_cons, List.map_nil, hasK_snoc]⟩
            generalize X[i] = en at *
            have hbe := (Below.refl wr.heap.size wr).alloc (Nat.le_refl _) (.cells #[.int .i64 en.1.f0, .int .i64 en.1.f1, .slice en.2.1 en.1.f2.length en.2.2] 31)
            have b2 := pw_cell_below hbe b2
            have b3 := pw_cell_below hbe b3
            have HBE := Aside0.mk (below_step HBw.out hbe)
            clear hv hil hbe
            cases d0 : (en.1.f0 == y.f2.f0) with
            | false =>
              have HKE : Aside0 (keyed y.f2.f0 y.f2.f1 en.1 = false) := ⟨by unfold keyed; rw [d0]; rfl⟩
              go_wp2_with fail
              exact ⟨⟨i + 1, z, by go_num, rfl, HIL.out, by omega, by omega, ⟨by rw [HSN.out, HKE.out, ← HZ.out]; simp⟩, HBE⟩, by have := HIL.out; simp [intOf]; omega⟩
            | true =>
              cases d1 : (en.1.f1 == y.f2.f1) with
              | false =>
                have HKE : Aside0 (keyed y.f2.f0 y.f2.f1 en.1 = false) := ⟨by unfold keyed; rw [d1]; simp⟩
                go_wp2_with fail
                exact ⟨⟨i + 1, z, by go_num, rfl, HIL.out, by omega, by omega, ⟨by rw [HSN.out, HKE.out, ← HZ.out]; simp⟩, HBE⟩, by have := HIL.out; simp [intOf]; omega⟩
              | true =>
                have HKE : Aside0 (keyed y.f2.f0 y.f2.f1 en.1 = true) := ⟨by unfold keyed; rw [d0, d1]; rfl⟩
                go_wp2_with fail
                exact ⟨⟨i + 1, (i : Int), by go_num, rfl, HIL.out, by omega, by omega, ⟨by rw [HSN.out, HKE.out, ← HZ.out]; simp⟩, HBE⟩, by have := HIL.out; simp [intOf]; omega⟩
          · have hil2 : i = X.length := by omega
            subst hil2
            rw [List.take_length] at HZ
            clear hil hi
            have hg := (HBw.out.block _ (blk_lt HGA.out)).trans HGA.out
            have b4 : wr.cell? ⟨Bx, 4, none⟩ = some (.slice A4 y.f2.f2.length c4) := (blk_cell hg 4).trans rfl
            clear hg
            go_wp2_with fail
            refine (HFw.out.put_c (y := y.f2) (Kd.C_below HY.out.1 HFw.out.bel) HY.out.2.2).mono ?_
            rintro e w3 ⟨he, hfs, hgd⟩
            obtain ⟨hpb, hin⟩ := ins_step HIN.out HNN.out.2 y.f2
            rw [hpb] at he
            subst he
            have hg3 := (hgd Bx ⟨Nat.le_refl _, Nat.lt_succ_self _⟩).trans HGw.out
            have HF3 := Aside0.mk hfs.free
            have HI3 := Aside0.mk hin
            have HG3 := Aside0.mk hg3
            rw [List.length_map]
            obtain ⟨hk, hhk⟩ : ∃ hk, hasK (X.map (·.1)) y.f2 = hk := ⟨_, rfl⟩
            rw [hhk] at hpb HZ ⊢
            have HH0 := Aside0.mk hhk
            obtain ⟨pb, hpb2⟩ : ∃ pb, (!hk && decide (X.length < n)) = pb := ⟨_, rfl⟩
            rw [hpb2]
            have HPB := Aside0.mk hpb2
            clear hpb hhk hpb2 hfs hgd hin hg3 HFw HGw HBw HFA HGA b2 b3 b4
            go_upto_region 17 with fail
            go_cut [79] from 70 to 78 (fun v79 wc => v79 = .bool false ∧ wc = w3)
            case first =>
              cases hk with
              | true =>
                have hz0 : 0 ≤ z := of_decide_eq_true HZ.out
                have hp : pb = false := HPB.out.symm
                subst hp
                go_wp2_with fail
                go_meet
                exact ⟨rfl, rfl⟩
              | false =>
                have hz0 : z < 0 := by have := of_decide_eq_false HZ.out; omega
                by_cases hXn : X.length < n
                · have gXn : (X.length : Int) < (n : Int) := by omega
                  have hp : pb = true := by rw [← HPB.out, decide_eq_true hXn]; rfl
                  subst hp
                  clear hXn
                  go_wp2_with fail
                  go_meet
                  exact ⟨rfl, rfl⟩
                · have gXn : ¬ (X.length : Int) < (n : Int) := by omega
                  have hp : pb = false := by rw [← HPB.out, decide_eq_false hXn]; rfl
                  subst hp
                  clear hXn
                  go_wp2_with fail
                  go_meet
                  exact ⟨rfl, rfl⟩
            case rest =>
              obtain ⟨rfl, rfl⟩ := hcut
              go_upto_if 80 with fail
              go_cut [7] from 81 to 85 (fun v7 wd => ∃ X', Aside0 (FS W (fun _ => False) wd (some ⟨p, 0, none⟩) v7 X' (putT T y.f2)) ∧ Aside0 (Ins (putT T y.f2) n (X'.map (·.1))) ∧ Aside0 (∀ e ∈ X', Came W e) ∧ Aside0 (wd.heap[Bx]? = some (.cells (ac y A4 c4) 33 (0, 0))) ∧ Aside0 (pb = true → hk = false) ∧ Aside0 ((pb || hk) = hasK (X'.map (·.1)) y.f2))
              case first =>
                cases pb with
                | false =>
                  go_wp2_with fail
                  go_meet
                  have hi := HI3.out
                  have e : insN (X.map (·.1)) n y.f2 = X.map (·.1) := by
                    unfold insN
                    rw [HH0.out, List.length_map, if_neg (fun h => by have := HPB.out; rw [h.1, decide_eq_true h.2] at this; cases this)]
                  rw [e] at hi
                  exact ⟨X, HF3, ⟨hi⟩, HCA, HG3, ⟨fun h => by cases h⟩, ⟨by rw [HH0.out]; rfl⟩⟩
                | true =>
                  have hp := HPB.out
                  rw [Bool.and_eq_true] at hp
                  have HK0 : Aside0 (hk = false) := ⟨by simpa using hp.1⟩
                  have HXN : Aside0 (X.length < n) := ⟨of_decide_eq_true hp.2⟩
                  have hs := HF3.out.bel.size
                  have HSZ := Aside0.mk hs
                  have b2 : wc.cell? ⟨Bx, 2, none⟩ = some (.int .i64 y.f2.f0) := (blk_cell HG3.out 2).trans rfl
                  have b3 : wc.cell? ⟨Bx, 3, none⟩ = some (.int .i64 y.f2.f1) := (blk_cell HG3.out 3).trans rfl
                  have b4 : wc.cell? ⟨Bx, 4, none⟩ = some (.slice A4 y.f2.f2.length c4) := (blk_cell HG3.out 4).trans rfl
                  have HXL : Aside0 ((X.length + 1) * 40 ≤ 140737488355328) := ⟨by omega⟩
                  clear hp hs
                  go_wp2_with (at_builtin; refine print_append_cells (w0 := W) (W := wc) W.heap.size rfl (.tmp 81) (.tmp 84) 28 31 _ 3 40 rfl Try.underlying28 info31 rfl (by decide) (by decide) (.slice Ai X.length ci) X.length (fl X) (ec (y.f2, A4, c4)) rfl rfl rfl (ec_one _) HF3.out.2.1 HF3.out.bel HSZ.out HXL.out ?_; intro v1 w4 ho4 hb4 hg4 hv4; have HF4 := Aside0.mk (HF3.out.snoc ho4 hb4 hg4 hv4); have HG4 := Aside0.mk (blk_grown HG3.out hg4 (own_ne HF3.out.2.1 HG3.out (by decide))); clear ho4 hb4 hg4 hv4)
                  go_meet
                  have hi := HI3.out
                  have e : insN (X.map (·.1)) n y.f2 = (X ++ [(y.f2, A4, c4)]).map (·.1) := by
                    unfold insN
                    rw [HH0.out, HK0.out, List.length_map, if_pos ⟨rfl, HXN.out⟩, List.map_append]
                    rfl
                  rw [e] at hi
                  refine ⟨_, HF4, ⟨hi⟩, ⟨fun e he => ?_⟩, HG4, ⟨fun _ => HK0.out⟩, ⟨?_⟩⟩
                  · rcases List.mem_append.1 he with he | he
                    · exact HCA.out e he
                    · rw [List.mem_singleton.1 he]
                      exact HY.out
                  · rw [List.map_append, List.map_cons, List.map_nil, hasK_snoc, keyed_true.2 ⟨rfl, rfl⟩]
                    simp
              case rest =>
                obtain ⟨X', HF4, HI4, HC4, HG4, HPH, HHK⟩ := hcut
                clear HF3 HI3 HG3 HCA HIN HPB gX
                generalize putT T y.f2 = T4 at *
                have HFT : Aside0 (Fits T4) := ⟨fun yy hy => by
                  obtain ⟨i, hi, e⟩ := List.getElem_of_mem hy
                  have hst : Stored T4 yy := ⟨i, hi, by rw [List.getD_eq_getElem?_getD, List.getElem?_eq_getElem hi, e]; rfl⟩
                  obtain ⟨en, hen, rfl⟩ := List.mem_map.1 ((HI4.out.2.2.1 yy).1 hst)
                  exact (HC4.out en hen).2.2⟩
                have hX4 : X'.length ≤ n := by
                  have h1 := HI4.out.2.2.2
                  have h2 : used T4 ≤ T4.length := List.length_filter_le ..
                  rw [HI4.out.1, h1, List.length_map] at h2
                  exact h2
                have gX : (X'.length : Int) ≤ 40 := by omega
                obtain ⟨Aj, cj, rfl⟩ := HF4.out.slice_
                clear hX4
                go_wp2_with fail
                go_loopw [88] (fun v88 wr => ∃ i : Nat, v88 = .int .i64 i ∧ i ≤ X'.length ∧ Aside0 (Below wc.heap.size wc wr)) (fun v _ => X'.length - (intOf v).toNat)
                case atStart => exact ⟨0, rfl, Nat.zero_le _, ⟨Below.refl _ _⟩⟩
                case round =>
                  obtain ⟨i, rfl, hi, HBw⟩ := hrel
                  have HFw := Aside0.mk (HF4.out.below HBw.out)
                  by_cases hil : i < X'.length
                  · have gi : (i : Int) < (X'.length : Int) := by omega
                    obtain ⟨g, cap, hv, x0, x1, x2⟩ := HFw.out.at_ i hil
                    have hv2 := hv
                    simp only [Value.slice.injEq, true_and] at hv2
                    obtain ⟨rfl, rfl⟩ := hv2
                    have HIL := Aside0.mk hil
                    have HCE := Aside0.mk (HC4.out _ (List.getElem_mem hil))
                    have HGE := Aside0.mk (ins_get HI4.out HNN.out.2 (List.mem_map.2 ⟨_, List.getElem_mem hil, rfl⟩))
                    generalize X'[i] = en at *
                    have hbe := (Below.refl wr.heap.size wr).alloc (Nat.le_refl _) (.cells #[.int .i64 en.1.f0, .int .i64 en.1.f1, .slice en.2.1 en.1.f2.length en.2.2] 31)
                    have HGN := Aside0.mk (heap_alloc_new wr (.cells #[.int .i64 en.1.f0, .int .i64 en.1.f1, .slice en.2.1 en.1.f2.length en.2.2] 31))
                    have HFN := Aside0.mk (HFw.out.below hbe)
                    have HBN := Aside0.mk (below_step HBw.out hbe)
                    clear hv hil hbe hi
                    go_wp2_with fail
                    obtain ⟨F, hTm⟩ := HFN.out.tm
                    refine (hTm.get_c HFT.out en.1.f0 en.1.f1).mono ?_
                    rw [HGE.out]
                    rintro e w5 ⟨hb, v, rfl, ho⟩
                    obtain ⟨A5, c5, rfl, hc5, hr5⟩ := str_reads ho
                    have d2 : w5.cell? ⟨wr.heap.size, 2, none⟩ = some (.slice en.2.1 en.1.f2.length en.2.2) := (blk_cell ((hb.block _ (blk_lt HGN.out)).trans HGN.out) 2).trans rfl
                    have HB5 := Aside0.mk (below_step HBN.out hb)
                    have HR5 := Aside0.mk hr5
                    have HS5 := Aside0.mk (Kd.C_below HCE.out.1 (HFN.out.below hb).bel)
                    clear hb ho hr5 hTm x0 x1 x2
                    go_wp2_with fail
                    refine (texts_c HR5.out hc5 HS5.out HCE.out.2.1 HCE.out.2.2).mono ?_
                    rintro e w6 ⟨rfl, hb⟩
                    have HB6 := Aside0.mk (below_step HB5.out hb)
                    clear hb d2
                    go_wp2_with fail
                    exact ⟨⟨i + 1, by go_num, HIL.out, HB6⟩, by have := HIL.out; simp [intOf]; omega⟩
                  · have hil2 : i = X'.length := by omega
                    subst hil2
                    clear hil hi
                    have hg := (HBw.out.block _ (blk_lt HG4.out)).trans HG4.out
                    have b2 : wr.cell? ⟨Bx, 2, none⟩ = some (.int .i64 y.f2.f0) := (blk_cell hg 2).trans rfl
                    have b3 : wr.cell? ⟨Bx, 3, none⟩ = some (.int .i64 y.f2.f1) := (blk_cell hg 3).trans rfl
                    obtain ⟨F, hTm⟩ := HFw.out.tm
                    have HTM := Aside0.mk hTm
                    have HGA := Aside0.mk (ins_get_any HI4.out HNN.out.2 y.f2)
                    have HUS : Aside0 (used T4 = X'.length) := ⟨by rw [HI4.out.2.2.2, List.length_map]⟩
                    rw [← HHK.out] at HGA
                    clear hg hTm HF4 HG4
                    go_wp2_with fail
                    refine (HTM.out.get_c HFT.out y.f2.f0 y.f2.f1).mono ?_
                    generalize getT T4 y.f2.f0 y.f2.f1 = gt at *
                    rintro e w5 ⟨hb, hgt⟩
                    have HT5 := Aside0.mk (HTM.out.below hb)
                    have HF5 := Aside0.mk (HFw.out.below hb)
                    clear hb HTM HFw HBw b2 b3
                    cases gt with
                    | none =>
                      have hgt : e = .returned (.tuple #[.slice none 0 0, .bool false]) := hgt
                      subst hgt
                      have hph : (pb || hk) = false := HGA.out.symm
                      rw [Bool.or_eq_false_iff] at hph
                      obtain ⟨rfl, rfl⟩ := hph
                      have hz0 : z < 0 := by have := of_decide_eq_false HZ.out; omega
                      go_wp2_with fail
                      refine (HT5.out.used_c).mono ?_
                      rw [HUS.out]
                      rintro e w6 ⟨rfl, hb⟩
                      have HF6 := Aside0.mk (HF5.out.below hb)
                      clear hb
                      go_wp2_with fail
                      exact ⟨⟨k + 1, by go_num, HLT.out, ⟨_, X', HF6.out.free, HI4.out, HC4.out⟩⟩, by have := HLT.out; simp [intOf]; omega⟩
                    | some yy =>
                      obtain ⟨v, rfl, ho⟩ : ∃ v, e = .returned (.tuple #[v, .bool true]) ∧ w5.ownsRow wr.heap.size 9 1 v yy.f2.length (strs yy.f2) := hgt
                      obtain ⟨A5, c5, rfl, hc5, hr5⟩ := str_reads ho
                      clear ho hr5
                      have hph : true = (pb || hk) := HGA.out
                      cases pb with
                      | true =>
                        clear hph
                        go_wp2_with fail
                        refine (HT5.out.used_c).mono ?_
                        rw [HUS.out]
                        rintro e w6 ⟨rfl, hb⟩
                        have HF6 := Aside0.mk (HF5.out.below hb)
                        clear hb
                        go_wp2_with fail
                        exact ⟨⟨k + 1, by go_num, HLT.out, ⟨_, X', HF6.out.free, HI4.out, HC4.out⟩⟩, by have := HLT.out; simp [intOf]; omega⟩
                      | false =>
                        have hk1 : hk = true := hph.symm
                        subst hk1
                        clear hph
                        have hz0 : 0 ≤ z := of_decide_eq_true HZ.out
                        go_wp2_with fail
                        refine (HT5.out.used_c).mono ?_
                        rw [HUS.out]
                        rintro e w6 ⟨rfl, hb⟩
                        have HF6 := Aside0.mk (HF5.out.below hb)
                        clear hb
                        go_wp2_with fail
                        exact ⟨⟨k + 1, by go_num, HLT.out, ⟨_, X', HF6.out.free, HI4.out, HC4.out⟩⟩, by have := HLT.out; simp [intOf]; omega⟩
      · have hkl : ¬ (k : Int) < (l.length : Int) := by omega
        have HB := Aside0.mk hfs.bel
        clear hlt hk hfs hins hcame HT2
        go_wp2_with fail
        refine (lives_c).mono ?_
        rintro e w3 ⟨rfl, hb⟩
        have HB3 := Aside0.mk (below_step HB.out hb)
        clear hb
        go_wp2_with fail
        go_ret
        exact ⟨rfl, HB3.out⟩
end Go.Proofs.Ytpgdehelamgbnaa
