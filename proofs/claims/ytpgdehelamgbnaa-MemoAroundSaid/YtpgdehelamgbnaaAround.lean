/-
  MemoAround: the law's walk.
-/
import Derived.Test.YtpgdehelamgbnaaAroundP
namespace Go.Proofs.Ytpgdehelamgbnaa
open Go.RowKit Go.Proofs.YtpgdehelamgbnaaW Go.Proofs.YtpgdehelamgbnaaW.PrintWords PMemoActs
set_option linter.unusedVariables false
set_option linter.unusedSimpArgs false
theorem filled_fits {T : List (Option S31)} {n h i : Nat} (hf : Filled T n h i) (hn : h < n) : Fits T := fun y hy => by
  obtain ⟨k, hk, e⟩ := List.getElem_of_mem hy
  obtain ⟨j, hj, rfl⟩ := mod_surj hn (show k < n by rw [← hf.1]; exact hk)
  have := hf.2 j hj
  rw [List.getD_eq_getElem?_getD, List.getElem?_eq_getElem hk, e] at this
  simp only [Option.getD_some] at this
  split at this
  · cases this
    show exx.length ≤ _
    decide
  · cases this
set_option maxHeartbeats 2000000 in
set_option maxRecDepth 100000 in
theorem around_w {W : World} (a b : Int) (ha : 0 ≤ a) (ha2 : a ≤ 18446744073709551615) (hb : 0 ≤ b) (hb2 : b ≤ 18446744073709551615) :
    Calls Try.prog 5 #[.int .u64 a, .int .u64 b] W fun e w' => e = .returned (.bool true) ∧ Below W.heap.size W w' := by
  obtain ⟨s, hs⟩ : ∃ s : Nat, a % 30 = (s : Int) := Int.eq_ofNat_of_zero_le (Int.emod_nonneg _ (by decide))
  have hs30 : (s : Int) < 30 := by rw [← hs]; exact Int.emod_lt_of_pos _ (by decide)
  obtain ⟨n, hn⟩ : ∃ n : Nat, 1 + (s : Int) = (n : Int) := ⟨1 + s, by omega⟩
  have hn1 : (1 : Int) ≤ (n : Int) := by omega
  have hn30 : (n : Int) ≤ 30 := by omega
  obtain ⟨h, hh⟩ : ∃ h : Nat, b % (n : Int) = (h : Int) := Int.eq_ofNat_of_zero_le (Int.emod_nonneg _ (by omega))
  have hhn : (h : Int) < (n : Int) := by rw [← hh]; exact Int.emod_lt_of_pos _ (by omega)
  go_enter Try.func5, Try.ntmps5
  go_wp2_with fail
  have HNN : Aside0 (n ≤ 30 ∧ h < n) := ⟨by omega, by omega⟩
  refine (newT_c n (by omega)).mono ?_
  rintro e w1 ⟨p, rfl, ht, hb0⟩
  have HT1 : Aside0 (∃ T, Filled T n h 0 ∧ Tm w1 (fun k => W.heap.size ≤ k) (some ⟨p, 0, none⟩) T) := ⟨_, filled_0 n h HNN.out.2, ht⟩
  have HB1 := Aside0.mk hb0
  clear ht hb0 hs hh hn ha ha2 hb hb2 hs30
  go_wp2_with fail
  go_loopw [8] (fun v wr => ∃ i : Nat, v = .int .i64 i ∧ i ≤ n ∧ Aside0 (∃ T, Filled T n h i ∧ Tm wr (fun k => W.heap.size ≤ k) (some ⟨p, 0, none⟩) T) ∧ Aside0 (Below W.heap.size W wr)) (fun v _ => n - (intOf v).toNat)
  case atStart => exact ⟨0, rfl, Nat.zero_le _, HT1, HB1⟩
  case round =>
    obtain ⟨i, rfl, hi, ⟨T, hF, hT⟩, HB⟩ := hrel
    have HF := Aside0.mk hF
    have HT := Aside0.mk hT
    clear hF hT
    by_cases hlt : i < n
    · have g1 : (i : Int) < (n : Int) := by omega
      obtain ⟨m, hm⟩ : ∃ m : Nat, i * n = m := ⟨_, rfl⟩
      have hmi : (i : Int) * (n : Int) = (m : Int) := by rw [← hm]; push_cast; rfl
      have hm870 : m ≤ 30 * 30 := by rw [← hm]; exact Nat.mul_le_mul (by omega) (by omega)
      have hm9 : (m : Int) ≤ 900 := by omega
      obtain ⟨z, hz⟩ : ∃ z : Nat, h + m = z := ⟨_, rfl⟩
      have hzi : (h : Int) + (m : Int) = (z : Int) := by omega
      have HZ : Aside0 (h + i * n = z) := ⟨by rw [hm, hz]⟩
      obtain ⟨j, hj⟩ : ∃ j : Nat, (h + i) % n = j := ⟨_, rfl⟩
      have hji : ((h : Int) + (i : Int)) % (n : Int) = (j : Int) := by rw [← hj]; push_cast; rfl
      have HJ := Aside0.mk hj
      have HHM := Aside0.mk (home_at HNN.out.2 HNN.out.1 (Nat.le_of_lt hlt))
      have HST := Aside0.mk (filled_step HF.out HNN.out.2 HNN.out.1 hlt)
      have HLK := Aside0.mk (filled_look HST.out.2.2 hlt)
      rw [HZ.out] at HHM HST HLK
      rw [HJ.out] at HLK
      have HI := Aside0.mk hlt
      have hn0 : ¬ (n : Int) = 0 := by omega
      clear hm hz hj hlt hm870
      go_wp2_with fail
      refine (HT.out.home_c 0 (z : Int)).mono ?_
      rintro e w3 ⟨rfl, rfl⟩
      rw [HF.out.1, HHM.out]
      go_wp2_with fail
      have hba := (Below.refl wr.heap.size wr).alloc (Nat.le_refl _) (.cells (strs exx).toArray 9)
      have HK := Aside0.mk (str_lit wr exx (by decide))
      have HTA := Aside0.mk (HT.out.below hba)
      have HBA := Aside0.mk (below_step HB.out hba)
      clear hba HT HB
      change Calls Try.prog 11 _ (wr.alloc (.cells (strs exx).toArray 9)) _
      refine (HTA.out.put_c (y := ent z) HK.out (by show exx.length ≤ _; decide)).mono ?_
      rintro e w3 ⟨he, ht, hf⟩
      rw [HST.out.1] at he
      subst he
      have HT3 := Aside0.mk (ht.mono (F' := fun k => W.heap.size ≤ k) (fun k hk _ => hk.elim id (fun h => Nat.le_trans HBA.out.size h)))
      have HB3 := Aside0.mk (HBA.out.trans (hf.to_below HBA.out.size (fun _ h => h)))
      have HF3 := Aside0.mk HST.out.2.2
      have HFT : Aside0 (Fits (putT T (ent z))) := ⟨filled_fits HF3.out HNN.out.2⟩
      clear ht hf HK HTA HBA HST HF
      generalize putT T (ent z) = T3 at *
      go_wp2_with fail
      refine (HT3.out.load_c HFT.out (j : Int)).mono ?_
      rw [HLK.out]
      rintro e w4 ⟨hb, v, rfl, ho⟩
      obtain ⟨A3, c3, rfl, hc3, hr3⟩ := str_reads ho
      have hb8 := (Below.refl w4.heap.size w4).alloc (Nat.le_refl _) (.cells #[.int .i64 0, .int .i64 (z : Int), .slice A3 exx.length c3] 31)
      have HT8 := Aside0.mk ((HT3.out.below hb).below hb8)
      have HB8 := Aside0.mk (below_step (below_step HB3.out hb) hb8)
      clear hb ho hr3 hc3 HT3 HB3 hb8
      simp only [ent]
      go_wp2_with fail
      exact ⟨⟨i + 1, by go_num, HI.out, ⟨T3, HF3.out, HT8.out⟩, HB8⟩, by have := HI.out; simp [intOf]; omega⟩
    · have hkl : i = n := by omega
      subst hkl
      have HFU := Aside0.mk (filled_full HF.out HNN.out.2 HNN.out.1)
      obtain ⟨m, hm⟩ : ∃ m : Nat, i * i = m := ⟨_, rfl⟩
      have hmi : (i : Int) * (i : Int) = (m : Int) := by rw [← hm]; push_cast; rfl
      have hm870 : m ≤ 30 * 30 := by rw [← hm]; exact Nat.mul_le_mul (by omega) (by omega)
      have hm9 : (m : Int) ≤ 900 := by omega
      obtain ⟨z, hz⟩ : ∃ z : Nat, h + m = z := ⟨_, rfl⟩
      have hzi : (h : Int) + (m : Int) = (z : Int) := by omega
      have HZ : Aside0 (h + i * i = z) := ⟨by rw [hm, hz]⟩
      rw [HZ.out] at HFU
      clear hm hz hlt hm870 hi
      have HK : Aside0 (Kd.C Kd.string wr none 0 []) := ⟨⟨rfl, by decide, fun h => absurd h (by decide)⟩⟩
      go_wp2_with fail
      refine (HT.out.put_c (y := ⟨0, (z : Int), []⟩) HK.out (Nat.zero_le _)).mono ?_
      rintro e w3 ⟨he, ht, hf⟩
      rw [HFU.out.1] at he
      subst he
      rw [HFU.out.2.1] at ht
      have HT3 := Aside0.mk (ht.mono (F' := fun k => W.heap.size ≤ k) (fun k hk _ => hk.elim id (fun h => Nat.le_trans HB.out.size h)))
      have HB3 := Aside0.mk (HB.out.trans (hf.to_below HB.out.size (fun _ h => h)))
      clear ht hf HT HB HK
      go_wp2_with fail
      refine (HT3.out.used_c).mono ?_
      rw [HFU.out.2.2.1]
      rintro e w4 ⟨rfl, hb⟩
      have HT4 := Aside0.mk (HT3.out.below hb)
      have HB4 := Aside0.mk (below_step HB3.out hb)
      have HK : Aside0 (Kd.C Kd.string w4 none 0 []) := ⟨⟨rfl, by decide, fun h => absurd h (by decide)⟩⟩
      clear hb HT3 HB3
      go_wp2_with fail
      refine (HT4.out.cas_c (h : Int) (y := ⟨0, 0, []⟩) HK.out (Nat.zero_le _)).mono ?_
      rw [HFU.out.2.2.2]
      rintro e w5 ⟨rfl, _, hf⟩
      have HB5 := Aside0.mk (HB4.out.trans (hf.to_below HB4.out.size (fun _ h => h)))
      clear hf HT4 HB4 HK
      go_wp2_with fail
      refine (lives_c).mono ?_
      rintro e w6 ⟨rfl, hb⟩
      have HB6 := Aside0.mk (below_step HB5.out hb)
      clear hb
      go_wp2_with fail
      go_ret
      exact ⟨rfl, HB6.out⟩
end Go.Proofs.Ytpgdehelamgbnaa
