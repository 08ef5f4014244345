/-
  MemoOwn: the law's walk.
-/
import Derived.Test.YtpgdehelamgbnaaLives
namespace Go.Proofs.Ytpgdehelamgbnaa
open Go.RowKit Go.Proofs.YtpgdehelamgbnaaW Go.Proofs.YtpgdehelamgbnaaW.PrintWords PMemoActs
set_option linter.unusedVariables false
set_option linter.unusedSimpArgs false
theorem scan_empty {ep nd : Int} {n h : Nat} (hn : h < n) : scan ep nd (line (List.replicate n none) h) = .free h := by
  unfold line
  rw [List.length_replicate]
  obtain ⟨m, rfl⟩ : ∃ m, n = m + 1 := ⟨n - 1, by omega⟩
  rw [List.range_succ_eq_map, List.map_cons, Nat.add_zero, Nat.mod_eq_of_lt hn]
  simp [scan, hn]
theorem put_first {n : Nat} (hn : 0 < n) (hm : n ≤ 65536) (y : S31) : putB (List.replicate n none) y = true ∧ putT (List.replicate n none) y = (List.replicate n none).set (homeN n y.f0 y.f1) (some y) ∧ homeN n y.f0 y.f1 < n := by
  have hh : homeN n y.f0 y.f1 < n := by
    rcases (homeN_spec n y.f0 y.f1 hm).2 with h | h
    · exact h
    · omega
  refine ⟨?_, ?_, hh⟩
  · unfold putB
    rw [List.length_replicate, scan_empty hh]
  · unfold putT
    rw [List.length_replicate, scan_empty hh]
theorem get_first {n : Nat} (hm : n ≤ 65536) (y : S31) (hh : homeN n y.f0 y.f1 < n) : getT ((List.replicate n none).set (homeN n y.f0 y.f1) (some y)) y.f0 y.f1 = some y ∧ lookT ((List.replicate n none).set (homeN n y.f0 y.f1) (some y)) (homeN n y.f0 y.f1 : Int) = some y := by
  constructor
  · unfold getT line
    rw [List.length_set, List.length_replicate]
    obtain ⟨m, rfl⟩ : ∃ m, n = m + 1 := ⟨n - 1, by omega⟩
    rw [List.range_succ_eq_map, List.map_cons, Nat.add_zero, Nat.mod_eq_of_lt hh]
    have hk : keyed y.f0 y.f1 y = true := by simp [keyed]
    simp [scan, hh, hk]
  · unfold lookT
    rw [if_neg (by omega), Int.toNat_natCast]
    simp [hh]
theorem str_cells {w : World} {A : Option Addr} {ss : List ByteArray} (h : Kd.C Kd.string w A ss.length ss) {ad : Addr} (ha : A = some ad) {j : Nat} {u : Value} (hu : (strs ss)[j]? = some u) : w.cell? (ad.add j) = some u := by
  rw [strs_get] at hu
  obtain ⟨s, hs, rfl⟩ := Option.map_eq_some_iff.1 hu
  have hj := (List.getElem?_eq_some_iff.1 hs).1
  obtain ⟨ad', ha', hc⟩ := h.2.2 (by omega)
  rw [ha] at ha'
  cases ha'
  obtain ⟨cs, hcl, hR, hcell⟩ := hc j s hs
  have hcs : cs = [Value.string s] := hR
  subst hcs
  have := hcell 0 _ rfl
  simpa only [Kd.string, Kd.scalar, Nat.mul_one, Nat.add_zero] using this
/-- Some of the texts are longer by a byte. -/
def grow (b : UInt8) (ss : List ByteArray) (k : Nat) : List ByteArray := (ss.take k).map (· ++ ⟨#[b]⟩) ++ ss.drop k
theorem grow_length (b : UInt8) (ss : List ByteArray) (k : Nat) : (grow b ss k).length = ss.length := by
  simp [grow]
  omega
theorem grow_at (b : UInt8) (ss : List ByteArray) (k : Nat) (hk : k < ss.length) : (grow b ss k)[k]? = some ss[k] := by
  unfold grow
  rw [List.getElem?_append_right (by simp; omega)]
  simp [hk, Nat.min_eq_left (Nat.le_of_lt hk)]
theorem grow_set (b : UInt8) (ss : List ByteArray) (k : Nat) (hk : k < ss.length) : (grow b ss k).set k (ss[k] ++ ⟨#[b]⟩) = grow b ss (k + 1) := by
  unfold grow
  rw [List.set_append_right _ _ (by simp; omega), List.take_succ_eq_append_getElem hk, List.map_append, List.append_assoc]
  congr 1
  rw [List.length_map, List.length_take, Nat.min_eq_left (Nat.le_of_lt hk), Nat.sub_self, List.drop_eq_getElem_cons hk, List.set_cons_zero]
  rfl
theorem own_grow {w : World} {base g cap : Nat} {b : UInt8} {ss : List ByteArray} {k : Nat} {s0 : ByteArray} (h : w.ownsRow base 9 1 (.slice (some ⟨g, 0, none⟩) ss.length cap) ss.length (strs (grow b ss k))) (hs : (grow b ss k).set k (s0 ++ ⟨#[b]⟩) = grow b ss (k + 1)) :
    (w.setCell ⟨g, k, none⟩ (.string (s0 ++ ⟨#[b]⟩))).ownsRow base 9 1 (.slice (some ⟨g, 0, none⟩) ss.length cap) ss.length (strs (grow b ss (k + 1))) := by
  have := (h.stored k (.string (s0 ++ ⟨#[b]⟩))).1
  rw [← hs]
  simpa [strs, List.map_set] using this
section
variable {W : World} {A : Option Addr} {c : Nat} {ss : List ByteArray}
set_option maxHeartbeats 2000000 in
set_option maxRecDepth 100000 in
theorem own_w (h : Kd.C Kd.string W A ss.length ss) (hc : ss.length ≤ c) (hn : ss.length ≤ 8796093022200) (hsz : ∀ s ∈ ss, s.size ≤ 140737488351232) (ep nd : Int) :
    Calls Try.prog 4 #[.slice A ss.length c, .int .i64 ep, .int .i64 nd] W fun e w' => e = .returned (.bool true) ∧ Below W.heap.size W w' := by
  have H := Aside0.mk h
  have HC := Aside0.mk hc
  have HN := Aside0.mk hn
  have HZ := Aside0.mk hsz
  have gn : (ss.length : Int) ≤ 8796093022200 := by omega
  clear h hc hsz
  by_cases hb : 100 < ss.length
  · have hbi : (100 : Int) < (ss.length : Int) := by omega
    clear hn hb
    go_enter Try.func4, Try.ntmps4
    go_wp2_with fail
    refine (lives_c).mono ?_
    rintro e w1 ⟨rfl, hb1⟩
    have HB := Aside0.mk hb1
    clear hb1
    go_wp2_with fail
    go_ret
    exact ⟨rfl, HB.out⟩
  · have hbi : (ss.length : Int) ≤ 100 := by omega
    have HL := Aside0.mk hb
    obtain ⟨z, hz, hzc⟩ := info9z
    have HZI := Aside0.mk hz
    clear hn hb hz
    go_enter Try.func4, Try.ntmps4
    go_wp2_with fail
    refine (newT_c 3 (by decide)).mono ?_
    rintro e w1 ⟨p, rfl, ht, hb⟩
    have HT1 := Aside0.mk (ht.mono (F' := fun k => W.heap.size ≤ k ∧ k < w1.heap.size) (fun k h1 h2 => ⟨h1, h2⟩))
    have HB1 := Aside0.mk hb
    have H1 := Aside0.mk (Kd.C_below H.out hb)
    have HR : Aside0 (∀ j u, (strs ss)[j]? = some u → ∀ ad, A = some ad → (w1.alloc (.cells #[] 9)).cell? (ad.add j) = some u) := ⟨fun j u hu ad ha => str_cells (Kd.C_below H1.out ((Below.refl w1.heap.size w1).alloc (Nat.le_refl _) _)) ha hu⟩
    have HA : Aside0 (0 < ss.length → ∃ ad, A = some ad) := ⟨fun h0 => by obtain ⟨ad, ha, _⟩ := H1.out.2.2 h0; exact ⟨ad, ha⟩⟩
    have HNIL : Aside0 (A = none → ss.length = 0) := ⟨fun e => by
      rcases Nat.eq_zero_or_pos ss.length with h0 | h0
      · exact h0
      · obtain ⟨ad, ha⟩ := HA.out h0
        rw [e] at ha
        cases ha⟩
    clear ht hb
    go_wp2_with (at_builtin; refine append_any w1.heap.size rfl (.tmp 24) (.tmp 25) 29 9 z 1 16 rfl Try.underlying29 HZI.out hzc (by decide) (by decide) (.slice (some ⟨w1.heap.size, 0, none⟩) 0 0) 0 [] (strs ss) A ss.length c rfl rfl (by rw [strs_length, Nat.mul_one]) (strs_one ss) ?a1 ?a2 ?a5 ?a3 ?a4 ?_; (case a1 => exact World.ownsRow_made w1 #[] 0 (Nat.le_refl _) (by decide) rfl); (case a2 => exact fun h0 => by obtain ⟨ad, ha⟩ := HA.out h0; exact ⟨ad, ha, fun j u hu => HR.out j u hu ad ha⟩); (case a5 => exact HNIL.out); (case a3 => simp); (case a4 => have := HN.out; omega); intro v1 w2 ho hg hat; have HO2 := Aside0.mk ho; have HG2 := Aside0.mk hg; clear ho hg hat; obtain ⟨A1, c1, rfl, hc1, hr1⟩ := str_reads (b := w1.heap.size) (ss := ss) (by have := HO2.out; rw [Nat.zero_add, List.nil_append] at this; exact this); have HRR := Aside0.mk hr1; clear hr1 hc1)
    have hb2 : Below w1.heap.size w1 w2 := ((Below.refl w1.heap.size w1).alloc (Nat.le_refl _) (.cells #[] 9)).grown HG2.out (by simp) (fun k hk => by simp [Value.ownBlock] at hk; omega)
    have HP := Aside0.mk (put_first (n := 3) (by decide) (by decide) ⟨ep, nd, ss⟩)
    have HT2 := Aside0.mk (HT1.out.below hb2)
    have HB2 := Aside0.mk (below_step HB1.out hb2)
    have HR2 := HRR
    have HO := Aside0.mk (show w2.ownsRow w1.heap.size 9 1 (.slice A1 ss.length c1) ss.length (strs ss) by have := HO2.out; rw [Nat.zero_add, List.nil_append] at this; exact this)
    have HW2 : Aside0 (w1.heap.size ≤ w2.heap.size) := ⟨hb2.size⟩
    have H2 := Aside0.mk (Kd.C_below H1.out hb2)
    have H0 := H
    clear hb2 HRR HO2 HG2 HT1 HR HA HNIL H H1
    refine (HT2.out.put_c (y := ⟨ep, nd, ss⟩) HR2.out HN.out).mono ?_
    rintro e w3 ⟨he, ht, hf⟩
    rw [HP.out.1] at he
    subst he
    rw [HP.out.2.1] at ht
    have HT3 := Aside0.mk (ht.mono (F' := fun k => (W.heap.size ≤ k ∧ k < w1.heap.size) ∨ (w2.heap.size ≤ k ∧ k < w3.heap.size)) (fun k h1 h2 => h1.imp id (fun h => ⟨h, h2⟩)))
    have HF3 := Aside0.mk hf
    have HW3 : Aside0 (w2.heap.size ≤ w3.heap.size) := ⟨hf.size⟩
    clear ht hf
    have HO3 := Aside0.mk (own_move HO.out (fun k hk => HF3.out.block k (own_lt HO.out k hk) (fun h => by have := own_base HO.out k hk; omega)))
    have HLT := Aside0.mk (fun k hk => own_lt HO.out k hk)
    have HB3 := Aside0.mk (HB2.out.trans (HF3.out.to_below (B := W.heap.size) HB2.out.size (fun k hk => hk.1)))
    clear HF3 HO HR2 HT2 HB2
    have HGT := Aside0.mk (get_first (n := 3) (by decide) ⟨ep, nd, ss⟩ HP.out.2.2)
    have HFT : Aside0 (Fits ((List.replicate 3 none).set (homeN 3 ep nd) (some (⟨ep, nd, ss⟩ : S31)))) := ⟨fun y hy => by
      rcases List.mem_or_eq_of_mem_set hy with hy | hy
      · have := List.eq_of_mem_replicate hy
        cases this
      · cases hy
        exact HN.out⟩
    have HH3 : Aside0 (((List.replicate 3 none).set (homeN 3 ep nd) (some (⟨ep, nd, ss⟩ : S31))).length = 3) := ⟨by rw [List.length_set, List.length_replicate]⟩
    clear HP
    simp only at HGT
    generalize (List.replicate 3 none).set (homeN 3 ep nd) (some (⟨ep, nd, ss⟩ : S31)) = T1 at *
    go_wp2_with fail
    go_loopw [36] (fun v wr => ∃ k : Nat, v = .int .i64 k ∧ k ≤ ss.length ∧ Aside0 (wr.ownsRow w1.heap.size 9 1 (.slice A1 ss.length c1) ss.length (strs (grow 120 ss k))) ∧ Aside0 (Tm wr (fun k => (W.heap.size ≤ k ∧ k < w1.heap.size) ∨ (w2.heap.size ≤ k ∧ k < w3.heap.size)) (some ⟨p, 0, none⟩) T1) ∧ Aside0 (Below W.heap.size W wr) ∧ Aside0 (w3.heap.size ≤ wr.heap.size)) (fun v _ => ss.length - (intOf v).toNat)
    case atStart => exact ⟨0, rfl, Nat.zero_le _, HO3, HT3, HB3, ⟨Nat.le_refl _⟩⟩
    case round =>
      obtain ⟨k, rfl, hk, HOr, HTr, HBr, HW3r⟩ := hrel
      by_cases hlt : k < ss.length
      · have g1 : (k : Int) < (ss.length : Int) := by omega
        obtain ⟨g, cap, hv⟩ : ∃ g cap, (Value.slice A1 ss.length c1) = .slice (some ⟨g, 0, none⟩) ss.length cap := by
          rcases HOr.out.2 with ⟨h1, h2⟩ | ⟨g, cap, cur, h1, _⟩
          · injection h1 with e1 e2 e3
            omega
          · exact ⟨g, cap, h1⟩
        have hv2 := hv
        simp only [Value.slice.injEq, true_and] at hv2
        obtain ⟨rfl, rfl⟩ := hv2
        have hc0 : wr.cell? ⟨g, k, none⟩ = some (.string ss[k]) := by
          rw [HOr.out.cellAt k (by omega), strs_get, grow_at 120 ss k hlt]
          rfl
        have hf0 := HOr.out.frozenAt k
        have hz0 := HZ.out ss[k] (List.getElem_mem hlt)
        have HLk := Aside0.mk hlt
        have HGS := Aside0.mk (grow_set 120 ss k hlt)
        generalize ss[k] = s0 at *
        clear hlt hv
        go_wp2_with fail
        refine ⟨⟨k + 1, by go_num, HLk.out, ⟨own_grow HOr.out HGS.out⟩, ⟨HTr.out.fr ((Fr.refl (fun i => i = g) wr).setCell (p := ⟨g, k, none⟩) (Or.inl rfl) _) (fun i hi _ e => ?_)⟩, ⟨HBr.out.setCell (p := ⟨g, k, none⟩) (Nat.le_trans HB1.out.size (own_base HOr.out g rfl)) _⟩, ⟨by have := HW3r.out; simpa using this⟩⟩, by have := HLk.out; simp [intOf]; omega⟩
        subst e
        have h1 := own_base HOr.out i rfl
        have h2 := HLT.out i rfl
        rcases hi with hi | hi <;> omega
      · have hkl : ¬ (k : Int) < (ss.length : Int) := by omega
        clear hlt hk HOr HO3 HT3 HB3
        go_wp2_with fail
        refine (HTr.out.get_c HFT.out ep nd).mono ?_
        rw [HGT.out.1]
        rintro e w5 ⟨hb, v, rfl, ho⟩
        obtain ⟨A2, c2, rfl, hc2, hr2⟩ := str_reads ho
        have HT5 := Aside0.mk (HTr.out.below hb)
        have HB5 := Aside0.mk (below_step HBr.out hb)
        have HO5 := Aside0.mk ho
        have HR5 := Aside0.mk hr2
        have HS5 := Aside0.mk (Kd.C_below H0.out HB5.out)
        have HLS : Aside0 (w3.heap.size ≤ wr.heap.size) := ⟨HW3r.out⟩
        clear hb ho hr2 HTr HBr
        go_wp2_with fail
        refine (texts_c HR5.out hc2 HS5.out HC.out HN.out).mono ?_
        rintro e w6 ⟨rfl, hb⟩
        have HT6 := Aside0.mk (HT5.out.below hb)
        have HB6 := Aside0.mk (below_step HB5.out hb)
        have HO6 := Aside0.mk (own_move HO5.out (fun k hk => hb.block k (own_lt HO5.out k hk)))
        clear hb HT5 HB5 HO5 HR5 HS5 HLT hkl
        obtain ⟨N5, hN5⟩ : ∃ N5, wr.heap.size = N5 := ⟨_, rfl⟩
        rw [hN5] at HO6 HLS
        clear hN5 HW3r
        go_wp2_with fail
        go_loopw [63] (fun v wr => ∃ k : Nat, v = .int .i64 k ∧ k ≤ ss.length ∧ Aside0 (wr.ownsRow N5 9 1 (.slice A2 ss.length c2) ss.length (strs (grow 121 ss k))) ∧ Aside0 (Tm wr (fun k => (W.heap.size ≤ k ∧ k < w1.heap.size) ∨ (w2.heap.size ≤ k ∧ k < w3.heap.size)) (some ⟨p, 0, none⟩) T1) ∧ Aside0 (Below W.heap.size W wr)) (fun v _ => ss.length - (intOf v).toNat)
        case atStart => exact ⟨0, rfl, Nat.zero_le _, HO6, HT6, HB6⟩
        case round =>
          obtain ⟨k, rfl, hk, HOr, HTr, HBr⟩ := hrel
          by_cases hlt : k < ss.length
          · have g1 : (k : Int) < (ss.length : Int) := by omega
            obtain ⟨g, cap, hv⟩ : ∃ g cap, (Value.slice A2 ss.length c2) = .slice (some ⟨g, 0, none⟩) ss.length cap := by
              rcases HOr.out.2 with ⟨h1, h2⟩ | ⟨g, cap, cur, h1, _⟩
              · injection h1 with e1 e2 e3
                omega
              · exact ⟨g, cap, h1⟩
            have hv2 := hv
            simp only [Value.slice.injEq, true_and] at hv2
            obtain ⟨rfl, rfl⟩ := hv2
            have hc0 : wr.cell? ⟨g, k, none⟩ = some (.string ss[k]) := by
              rw [HOr.out.cellAt k (by omega), strs_get, grow_at 121 ss k hlt]
              rfl
            have hf0 := HOr.out.frozenAt k
            have hz0 := HZ.out ss[k] (List.getElem_mem hlt)
            have HLk := Aside0.mk hlt
            have HGS := Aside0.mk (grow_set 121 ss k hlt)
            generalize ss[k] = s0 at *
            clear hlt hv
            go_wp2_with fail
            refine ⟨⟨k + 1, by go_num, HLk.out, ⟨own_grow HOr.out HGS.out⟩, ⟨HTr.out.fr ((Fr.refl (fun i => i = g) wr).setCell (p := ⟨g, k, none⟩) (Or.inl rfl) _) (fun i hi _ e => ?_)⟩, ⟨HBr.out.setCell (p := ⟨g, k, none⟩) (by have h1 := own_base HOr.out g rfl; have h2 := HLS.out; have h3 := HW2.out; have h4 := HB1.out.size; have h5 := HW3.out; simp only; omega) _⟩⟩, by have := HLk.out; simp [intOf]; omega⟩
            subst e
            have h1 := own_base HOr.out i rfl
            have h2 := HLS.out
            have h3 := HW2.out
            have h5 := HW3.out
            rcases hi with hi | hi <;> omega
          · have hkl : ¬ (k : Int) < (ss.length : Int) := by omega
            clear hlt hk HOr HO6 HT6 HB6
            go_wp2_with fail
            refine (HTr.out.home_c ep nd).mono ?_
            rintro e w7 ⟨rfl, rfl⟩
            rw [HH3.out]
            go_wp2_with fail
            refine (HTr.out.load_c HFT.out _).mono ?_
            rw [HGT.out.2]
            rintro e w7 ⟨hb, v, rfl, ho⟩
            obtain ⟨A3, c3, rfl, hc3, hr3⟩ := str_reads ho
            have hb8 := (Below.refl w7.heap.size w7).alloc (Nat.le_refl _) (.cells #[.int .i64 ep, .int .i64 nd, .slice A3 ss.length c3] 31)
            have HG8 := Aside0.mk (heap_alloc_new w7 (.cells #[.int .i64 ep, .int .i64 nd, .slice A3 ss.length c3] 31))
            have HT8 := Aside0.mk ((HTr.out.below hb).below hb8)
            have HB8 := Aside0.mk (below_step (below_step HBr.out hb) hb8)
            have HR8 := Aside0.mk (Kd.C_below hr3 hb8)
            clear hb ho hr3 HTr HBr hb8
            go_wp2_with fail
            refine (HT8.out.get_c HFT.out ep nd).mono ?_
            rw [HGT.out.1]
            rintro e w9 ⟨hb, v, rfl, ho⟩
            obtain ⟨A4, c4, rfl, hc4, hr4⟩ := str_reads ho
            have HT9 := Aside0.mk (HT8.out.below hb)
            have HB9 := Aside0.mk (below_step HB8.out hb)
            have HR9 := Aside0.mk (Kd.C_below HR8.out hb)
            have HU9 := Aside0.mk hr4
            have HS9 := Aside0.mk (Kd.C_below H0.out HB9.out)
            have hg9 := (hb.block _ (blk_lt HG8.out)).trans HG8.out
            have d2 : w9.cell? ⟨w7.heap.size, 2, none⟩ = some (.slice A3 ss.length c3) := (blk_cell hg9 2).trans rfl
            clear hb ho hr4 HT8 HB8 HR8 HG8 hg9
            go_wp2_with fail
            refine (texts_c HR9.out hc3 HS9.out HC.out HN.out).mono ?_
            rintro e w10 ⟨rfl, hb⟩
            have HB10 := Aside0.mk (below_step HB9.out hb)
            have HU10 := Aside0.mk (Kd.C_below HU9.out hb)
            have HS10 := Aside0.mk (Kd.C_below HS9.out hb)
            clear hb d2 HT9 HB9 HR9 HU9 HS9
            go_wp2_with fail
            refine (texts_c HU10.out hc4 HS10.out HC.out HN.out).mono ?_
            rintro e w11 ⟨rfl, hb⟩
            have HB11 := Aside0.mk (below_step HB10.out hb)
            clear hb
            go_wp2_with fail
            refine (lives_c).mono ?_
            rintro e w12 ⟨rfl, hb⟩
            have HB12 := Aside0.mk (below_step HB11.out hb)
            clear hb
            go_wp2_with fail
            go_ret
            exact ⟨rfl, HB12.out⟩
end
end Go.Proofs.Ytpgdehelamgbnaa
