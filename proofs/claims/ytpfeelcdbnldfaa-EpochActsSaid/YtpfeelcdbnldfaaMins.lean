/-
  EpochMins: the walk.
-/
import Derived.Test.YtpfeelcdbnldfaaActs
namespace Go.Proofs.Ytpfeelcdbnldfaa
open Go.RowKit Go.Proofs.YtpfeelcdbnldfaaW.PrintWords
set_option linter.unusedVariables false
set_option linter.unusedSimpArgs false

/-- What holds between two acts. -/
structure Ok (S : List Int) (now last : Int) : Prop where
  one : 1 ≤ now
  lo : ∀ j : Nat, 0 ≤ S.getD j 0
  hi : ∀ j : Nat, S.getD j 0 ≤ now
  last : last ≤ now
theorem Ok.start : Ok [0, 0, 0, 0, 0, 0, 0, 0] 1 0 := by
  refine ⟨by decide, fun j => ?_, fun j => ?_, by decide⟩ <;> rw [Bs.start.free j (Nat.zero_le _)] <;> decide
theorem Ok.pub {S : List Int} {now la : Int} (h : Ok S now la) : Ok S (now + 1) la :=
  ⟨by have := h.one; omega, h.lo, fun j => by have := h.hi j; omega, by have := h.last; omega⟩
theorem Ok.put {S : List Int} {now la x : Int} {i : Nat} (h : Ok S now la) (hi : i < S.length) (h0 : 0 ≤ x) (h1 : x ≤ now) : Ok (S.set i x) now la := by
  refine ⟨h.one, fun j => ?_, fun j => ?_, h.last⟩ <;> rw [getD_set _ _ _ _ hi] <;> split
  · exact h0
  · exact h.lo j
  · exact h1
  · exact h.hi j
theorem Ok.to_now {S : List Int} {now la : Int} (h : Ok S now la) : Ok S now now := ⟨h.one, h.lo, h.hi, Int.le_refl _⟩
theorem Ok.pinned {S : List Int} {now la : Int} (h : Ok S now la) (n s : Nat) : 0 ≤ pinnedV S n s ∧ pinnedV S n s ≤ now := by
  by_cases e : s < n
  · rw [pinnedV_at e]
    exact ⟨h.lo s, h.hi s⟩
  · rw [pinnedV_out e]
    have := h.one
    omega
/-- The least that is held is no more than what is held, and it is held if any is; else it is now. -/
theorem minV_facts {S : List Int} {n : Nat} {now : Int} (h8 : n ≤ 8) :
    (∀ s : Nat, 0 < pinnedV S n s → minV S n now ≤ pinnedV S n s) ∧ ((∃ s : Nat, s < n ∧ 0 < pinnedV S n s ∧ pinnedV S n s = minV S n now) ∨ ((∀ s : Nat, ¬ 0 < pinnedV S n s) ∧ minV S n now = now)) := by
  have h := leastV_spec S n 8
  unfold minV
  generalize leastV S n 8 = a at h
  obtain ⟨m, b⟩ := a
  simp only at h ⊢
  have hlt : ∀ s : Nat, 0 < pinnedV S n s → s < n := fun s h0 => by
    by_cases e : s < n
    · exact e
    · rw [pinnedV_out e] at h0
      omega
  cases b with
  | false => exact ⟨fun s h0 => by have := h.no rfl s (by have := hlt s h0; omega); omega, Or.inr ⟨fun s h0 => by have := h.no rfl s (by have := hlt s h0; omega); omega, rfl⟩⟩
  | true =>
    obtain ⟨⟨t, ht, e⟩, h3⟩ := h.is rfl
    exact ⟨fun s h0 => h.le rfl s (by have := hlt s h0; omega) h0, Or.inl ⟨t, hlt t (by omega), by omega, e⟩⟩
/-- What has been seen of the first slots. -/
structure Seen (S : List Int) (n : Nat) (m : Int) (s : Nat) (h i : Bool) : Prop where
  held : h = true ↔ ∃ t : Nat, t < s ∧ 0 < pinnedV S n t
  is : i = true ↔ ∃ t : Nat, t < s ∧ 0 < pinnedV S n t ∧ pinnedV S n t = m
theorem Seen.start (S : List Int) (n : Nat) (m : Int) : Seen S n m 0 false false := ⟨by simp, by simp⟩
theorem Seen.next {S : List Int} {n : Nat} {m : Int} {s : Nat} {h i h2 i2 : Bool} (k : Seen S n m s h i) (e1 : h2 = (h || decide (0 < pinnedV S n s))) (e2 : i2 = (i || (decide (0 < pinnedV S n s) && decide (pinnedV S n s = m)))) : Seen S n m (s + 1) h2 i2 := by
  subst e1 e2
  constructor
  · rw [Bool.or_eq_true, k.held, decide_eq_true_iff]
    constructor
    · rintro (⟨t, a, b⟩ | a)
      · exact ⟨t, by omega, b⟩
      · exact ⟨s, by omega, a⟩
    · rintro ⟨t, a, b⟩
      by_cases e : t = s
      · subst e
        exact Or.inr b
      · exact Or.inl ⟨t, by omega, b⟩
  · rw [Bool.or_eq_true, k.is, Bool.and_eq_true, decide_eq_true_iff, decide_eq_true_iff]
    constructor
    · rintro (⟨t, a, b⟩ | a)
      · exact ⟨t, by omega, b⟩
      · exact ⟨s, by omega, a⟩
    · rintro ⟨t, a, b⟩
      by_cases e : t = s
      · subst e
        exact Or.inr b
      · exact Or.inl ⟨t, by omega, b⟩
theorem Seen.last {S : List Int} {n : Nat} {now : Int} {h i : Bool} (k : Seen S n (minV S n now) n h i) (h8 : n ≤ 8) : i = h ∧ (h = false → minV S n now = now) := by
  obtain ⟨_, f2⟩ := minV_facts (S := S) (n := n) (now := now) h8
  have e1 := k.held
  have e2 := k.is
  rcases f2 with ⟨s, a, b, c⟩ | ⟨a, b⟩
  · have t1 : h = true := e1.2 ⟨s, a, b⟩
    have t2 : i = true := e2.2 ⟨s, a, b, c⟩
    exact ⟨by rw [t1, t2], fun e => by rw [t1] at e; cases e⟩
  · refine ⟨?_, fun _ => b⟩
    have t1 : ¬ h = true := fun e => by obtain ⟨t, _, q⟩ := e1.1 e; exact a t q
    have t2 : ¬ i = true := fun e => by obtain ⟨t, _, q, _⟩ := e2.1 e; exact a t q
    cases h <;> cases i <;> simp_all
set_option maxHeartbeats 2000000 in
set_option maxRecDepth 100000 in
theorem walk6 (pins : Int) (hp : 0 ≤ pins) (hp1 : Aside0 (pins ≤ 18446744073709551615)) (A : Option Addr) (c : Nat) (l : List Ac) (w : World) (hC : Kd.C kAc w A l.length l) (hcl : l.length ≤ c) (hb : l.length * 16 ≤ 140737488351232) :
    Calls Try.prog 6 #[.int .u64 pins, .slice A l.length c] w fun e w' => e = .returned (.bool true) ∧ Below w.heap.size w w' := by
  have HC := Aside0.mk hC
  have HCL := Aside0.mk hcl
  clear hC hcl
  by_cases hbig : 200 < l.length
  · have gbig : (200 : Int) < (l.length : Int) := by omega
    go_enter Try.func6, Try.ntmps6
    go_wp2_with fail
    have hN : 1 ≤ 1 + pins % 8 ∧ 1 + pins % 8 ≤ 8 := by omega
    generalize 1 + pins % 8 = N at hN ⊢
    obtain ⟨n, rfl⟩ : ∃ n : Nat, N = n := ⟨N.toNat, by omega⟩
    obtain ⟨hn1, hn8⟩ : 1 ≤ n ∧ n ≤ 8 := by omega
    clear hN
    refine (new_s n hn1 hn8 w).mono ?_
    rintro e w1 ⟨rfl, hS, hB, hO⟩
    have HB := Aside0.mk hB
    clear hS hB hO
    go_wp2_with fail
    refine (lives_c _).mono ?_
    rintro e w2 ⟨rfl, hB2⟩
    have HB2 := Aside0.mk (below_step HB.out hB2)
    clear hB2
    go_wp2_with fail
    go_ret
    exact ⟨rfl, HB2.out⟩
  · have gbig : ¬ ((200 : Int) < (l.length : Int)) := by omega
    go_enter Try.func6, Try.ntmps6
    go_wp2_with fail
    have hN : 1 ≤ 1 + pins % 8 ∧ 1 + pins % 8 ≤ 8 := by omega
    generalize 1 + pins % 8 = N at hN ⊢
    obtain ⟨n, rfl⟩ : ∃ n : Nat, N = n := ⟨N.toNat, by omega⟩
    obtain ⟨hn1, hn8⟩ : 1 ≤ n ∧ n ≤ 8 := by omega
    clear hN
    refine (new_s n hn1 hn8 w).mono ?_
    rintro e w1 ⟨rfl, hS, hB, hO⟩
    have HS := Aside0.mk hS
    have HB := Aside0.mk hB
    have HOW := Aside0.mk hO
    clear hS hB hO
    go_wp2_with fail
    go_loopw [7, 36] (fun last i wr => ∃ (k : Nat) (S : List Int) (now la : Int), i = .int .i64 k ∧ last = .int .i64 la ∧ k ≤ l.length ∧ 1 ≤ now ∧ now ≤ (k : Int) + 1 ∧ Aside0 (Ok S now la) ∧ Aside0 (Nx w1 w.heap.size now S n [] wr)) (fun _ i _ => l.length - (intOf i).toNat)
    case atStart => exact ⟨0, _, 1, 0, rfl, rfl, Nat.zero_le _, by decide, by decide, ⟨Ok.start⟩, ⟨Nx.refl HS.out⟩⟩
    case round =>
      obtain ⟨k, S, now, la, rfl, rfl, hk, h1, hnow, HK, HX⟩ := hrel
      by_cases hlt : k < l.length
      · have g1 : (k : Int) < (l.length : Int) := by omega
        have hBW := HB.out.trans (HX.out.fr.to_below HB.out.size (fun k hk => by rw [HOW.out k hk]; exact Nat.le_refl _))
        have HBW := Aside0.mk hBW
        obtain ⟨ad, rfl, c1, c2, c3⟩ := at_act (Kd.C_below HC.out hBW) k hlt hlt
        clear hBW
        generalize l[k].kind = kd at c1
        generalize l[k].n = x at c2 c3
        go_upto_block 2 with (fail)
        have HXa := Aside0.mk (HX.out.below ((Below.refl _ _).alloc (Nat.le_refl _) (.cells #[.int .i64 kd, .int .i64 x] 30)))
        have d1 := cell1 wr #[.int .i64 kd, .int .i64 x] 30 1
        simp only [List.getElem?_toArray, List.getElem?_cons_zero, List.getElem?_cons_succ] at d1
        go_cut [7] (fun last wc => ∃ (S2 : List Int) (now2 la2 : Int), last = .int .i64 la2 ∧ 1 ≤ now2 ∧ now2 ≤ (k : Int) + 2 ∧ Aside0 (Ok S2 now2 la2) ∧ Aside0 (Nx w1 w.heap.size now2 S2 n [] wc))
        case first =>
          generalize wr.alloc (.cells #[.int .i64 kd, .int .i64 x] 30) = wa at HXa d1 ⊢
          by_cases k0 : kd = 0
          · subst k0
            go_wp2_with fail
            refine (publish_s HXa.out.st (by omega) (by omega)).mono ?_
            rintro e w3 ⟨rfl, hX⟩
            have HX3 := Aside0.mk (HXa.out.trans hX)
            have HK3 := Aside0.mk HK.out.pub
            clear hX
            go_wp2_with fail
            go_meet
            case rel => exact ⟨S, now + 1, la, rfl, by omega, by omega, HK3, HX3⟩
          · by_cases k1 : kd = 1
            · subst k1
              go_wp2_with fail
              refine (pin_s HXa.out.st).mono ?_
              rintro e w3 (⟨i, hi, b, _, rfl, hX⟩ | ⟨_, rfl, hX⟩)
              · have HX3 := Aside0.mk (HXa.out.trans hX)
                have hi8 : i < S.length := by have := HXa.out.st.len; omega
                have HK3 := Aside0.mk (HK.out.put hi8 (by omega) (Int.le_refl now))
                have HP : Aside0 (pinnedV (S.set i now) n i = now) := ⟨by rw [pinnedV_at hi, getD_set _ _ _ _ hi8, if_pos rfl]⟩
                have hla : ¬ now < la := by have := HK.out.last; omega
                clear hX b
                go_wp2_with fail
                refine (pinned_s HX3.out.st i).mono ?_
                rintro e w4 ⟨rfl, rfl⟩
                rw [HP.out]
                go_wp2_with fail
                refine (pinned_s HX3.out.st i).mono ?_
                rintro e w4 ⟨rfl, rfl⟩
                rw [HP.out]
                go_wp2_with fail
                go_meet
                case rel => exact ⟨_, now, now, rfl, by omega, by omega, ⟨HK3.out.to_now⟩, HX3⟩
              · have HX3 := Aside0.mk (HXa.out.trans hX)
                clear hX
                go_wp2_with fail
                go_meet
                case rel => exact ⟨S, now, la, rfl, by omega, by omega, HK, HX3⟩
            · by_cases k2 : kd = 2
              · subst k2
                go_wp2_with fail
                refine (unpin_s HXa.out.st x).mono ?_
                rintro e w3 (⟨_, rfl, hX⟩ | ⟨_, hx0, hxn, rfl, hX⟩)
                · have HX3 := Aside0.mk (HXa.out.trans hX)
                  clear hX
                  go_wp2_with fail
                  go_meet
                  case rel => exact ⟨S, now, la, rfl, by omega, by omega, HK, HX3⟩
                · have HX3 := Aside0.mk (HXa.out.trans hX)
                  have hi8 : x.toNat < S.length := by have := HXa.out.st.len; omega
                  have HK3 := Aside0.mk (HK.out.put hi8 (Int.le_refl 0) (by omega))
                  clear hX
                  go_wp2_with fail
                  go_meet
                  case rel => exact ⟨_, now, la, rfl, by omega, by omega, HK3, HX3⟩
              · go_wp2_with fail
                go_meet
                case rel => exact ⟨S, now, la, rfl, by omega, by omega, HK, HXa⟩
        case rest =>
          obtain ⟨S2, now2, la2, rfl, h2, hnow2, HK2, HX2⟩ := hcut
          go_wp2_with fail
          have HMF := Aside0.mk (minV_facts (S := S2) (n := n) (now := now2) hn8)
          go_loop [12, 13, 14] (fun hd is s => ∃ (t : Nat) (h i : Bool), s = .int .i64 t ∧ hd = .bool h ∧ is = .bool i ∧ t ≤ n ∧ Aside0 (Seen S2 n (minV S2 n now2) t h i)) (fun _ _ s => n - (intOf s).toNat)
          case atStart => exact ⟨0, false, false, rfl, rfl, rfl, Nat.zero_le _, ⟨Seen.start _ _ _⟩⟩
          case round =>
            obtain ⟨t, h, i, rfl, rfl, rfl, ht, HSN⟩ := hrel
            by_cases htn : t < n
            · have g2 : (t : Int) < (n : Int) := by omega
              have hv := HK2.out.pinned n t
              have hm := HMF.out.1 t
              have HNX := Aside0.mk (fun h2 i2 e1 e2 => HSN.out.next (h2 := h2) (i2 := i2) e1 e2)
              have HPC := Aside0.mk (pinned_s HX2.out.st t)
              have HMC := Aside0.mk (min_s HX2.out.st)
              have HNC := Aside0.mk (now_s HX2.out.st)
              clear HSN
              generalize pinnedV S2 n t = v at hv hm HNX HPC
              generalize minV S2 n now2 = m at hm HNX HMC ⊢
              obtain ⟨hv0, hv1⟩ := hv
              have hv2 : ¬ now2 < v := by omega
              by_cases hvp : 0 < v
              · have hm2 : ¬ v < m := by have := hm hvp; omega
                clear hm
                by_cases hvm : v = m
                · have hb : (v == m) = true := by simpa using hvm
                  have HVM := Aside0.mk hvm
                  clear hvm
                  cases h <;> cases i
                  all_goals
                    go_wp2_with fail
                    refine HPC.out.mono ?_
                    rintro e w3 ⟨rfl, rfl⟩
                    go_wp2_with fail
                    refine HMC.out.mono ?_
                    rintro e w3 ⟨rfl, rfl⟩
                    go_wp2_with fail
                    refine HNC.out.mono ?_
                    rintro e w3 ⟨rfl, rfl⟩
                    go_wp2_with fail
                    try (refine HMC.out.mono ?_; rintro e w3 ⟨rfl, rfl⟩; go_wp2_with fail)
                    go_round
                    case rel => exact ⟨t + 1, true, true, by go_num, rfl, rfl, htn, ⟨HNX.out _ _ (by rw [decide_eq_true hvp]; simp) (by rw [decide_eq_true hvp, decide_eq_true HVM.out]; simp)⟩⟩
                    case measure => simp [intOf]; omega
                · have hb : (v == m) = false := by simpa using hvm
                  have HVM := Aside0.mk hvm
                  clear hvm
                  cases h <;> cases i
                  all_goals
                    go_wp2_with fail
                    refine HPC.out.mono ?_
                    rintro e w3 ⟨rfl, rfl⟩
                    go_wp2_with fail
                    refine HMC.out.mono ?_
                    rintro e w3 ⟨rfl, rfl⟩
                    go_wp2_with fail
                    refine HNC.out.mono ?_
                    rintro e w3 ⟨rfl, rfl⟩
                    go_wp2_with fail
                    try (refine HMC.out.mono ?_; rintro e w3 ⟨rfl, rfl⟩; go_wp2_with fail)
                    go_round
                    case rel => exact ⟨t + 1, true, _, by go_num, rfl, rfl, htn, ⟨HNX.out _ _ (by rw [decide_eq_true hvp]; simp) (by rw [decide_eq_false HVM.out]; simp)⟩⟩
                    case measure => simp [intOf]; omega
              · clear hm
                cases h <;> cases i
                all_goals
                  go_wp2_with fail
                  refine HPC.out.mono ?_
                  rintro e w3 ⟨rfl, rfl⟩
                  go_wp2_with fail
                  refine HNC.out.mono ?_
                  rintro e w3 ⟨rfl, rfl⟩
                  go_wp2_with fail
                  go_round
                  case rel => exact ⟨t + 1, _, _, by go_num, rfl, rfl, htn, ⟨HNX.out _ _ (by rw [decide_eq_false (show ¬ 0 < v by omega)]; simp) (by rw [decide_eq_false (show ¬ 0 < v by omega)]; simp)⟩⟩
                  case measure => simp [intOf]; omega
            · have htn2 : t = n := by omega
              subst htn2
              obtain ⟨hi, hmn⟩ := HSN.out.last hn8
              subst hi
              have HMC := Aside0.mk (min_s HX2.out.st)
              have HNC := Aside0.mk (now_s HX2.out.st)
              clear HSN HMF
              cases i with
              | true =>
                clear hmn
                go_wp2_with fail
                go_roundw
                case rel => exact ⟨k + 1, S2, now2, la2, by go_num, rfl, hlt, h2, by omega, HK2, HX2⟩
                case measure => simp [intOf]; omega
              | false =>
                have e := hmn rfl
                rw [e] at HMC
                clear hmn e
                go_wp2_with fail
                refine HMC.out.mono ?_
                rintro e w3 ⟨rfl, rfl⟩
                go_wp2_with fail
                refine HNC.out.mono ?_
                rintro e w3 ⟨rfl, rfl⟩
                go_wp2_with fail
                go_roundw
                case rel => exact ⟨k + 1, S2, now2, la2, by go_num, rfl, hlt, h2, by omega, HK2, HX2⟩
                case measure => simp [intOf]; omega
      · have hkl : k = l.length := by omega
        subst hkl
        go_wp2_with fail
        refine (lives_c _).mono ?_
        rintro e w8 ⟨rfl, hB8⟩
        have HX8 := Aside0.mk (HX.out.below hB8)
        clear hB8
        go_wp2_with fail
        go_ret
        exact ⟨rfl, HB.out.trans (HX8.out.fr.to_below HB.out.size (fun k hk => by rw [HOW.out k hk]; exact Nat.le_refl _))⟩
end Go.Proofs.Ytpfeelcdbnldfaa
