/-
  EpochBusy: the walk.
-/
import Derived.Test.YtpfeelcdbnldfaaLives
namespace Go.Proofs.Ytpfeelcdbnldfaa
open Go.RowKit Go.Proofs.YtpfeelcdbnldfaaW.PrintWords
set_option linter.unusedVariables false
set_option linter.unusedSimpArgs false

/-- What the least is. -/
structure Lst (S : List Int) (n k : Nat) (m : Int) (b : Bool) : Prop where
  no : b = false → ∀ s : Nat, s < k → pinnedV S n s ≤ 0
  is : b = true → (∃ s : Nat, s < k ∧ pinnedV S n s = m) ∧ 0 < m
  le : b = true → ∀ s : Nat, s < k → 0 < pinnedV S n s → m ≤ pinnedV S n s
theorem leastV_spec (S : List Int) (n k : Nat) : Lst S n k (leastV S n k).1 (leastV S n k).2 := by
  induction k with
  | zero => exact ⟨fun _ s h => by omega, (fun h => by cases h), (fun h => by cases h)⟩
  | succ k ih =>
    have he : leastV S n (k + 1) = if 0 < pinnedV S n k ∧ ((leastV S n k).2 = false ∨ pinnedV S n k < (leastV S n k).1) then (pinnedV S n k, true) else leastV S n k := rfl
    rw [he]
    generalize leastV S n k = a at ih
    obtain ⟨m, b⟩ := a
    simp only at ih ⊢
    split
    · rename_i h
      refine ⟨(fun e => by cases e), fun _ => ⟨⟨k, by omega, rfl⟩, h.1⟩, fun _ s hs h0 => ?_⟩
      show pinnedV S n k ≤ _
      by_cases e : s = k
      · subst e
        omega
      · rcases h.2 with h2 | h2
        · have := ih.no h2 s (by omega)
          omega
        · cases b with
          | false => have := ih.no rfl s (by omega); omega
          | true => have := ih.le rfl s (by omega) h0; omega
    · rename_i h
      simp only
      refine ⟨fun e s hs => ?_, fun e => ?_, fun e s hs h0 => ?_⟩
      · by_cases e2 : s = k
        · subst e2
          refine Int.not_lt.1 fun hlt => h ⟨hlt, Or.inl e⟩
        · exact ih.no e s (by omega)
      · obtain ⟨⟨s, h1, h2⟩, h3⟩ := ih.is e
        exact ⟨⟨s, by omega, h2⟩, h3⟩
      · by_cases e2 : s = k
        · subst e2
          refine Int.not_lt.1 fun hlt => h ⟨h0, Or.inr hlt⟩
        · exact ih.le e s (by omega) h0
theorem pinnedV_at {S : List Int} {n s : Nat} (h : s < n) : pinnedV S n s = S.getD s 0 := by
  unfold pinnedV
  rw [if_pos ⟨by omega, by omega⟩]
  rfl
theorem pinnedV_out {S : List Int} {n s : Nat} (h : ¬ s < n) : pinnedV S n s = 0 := by
  unfold pinnedV
  rw [if_neg (by omega)]
theorem minV_is {S : List Int} {n : Nat} {now m : Int} (h0 : 0 < m) (h1 : ∃ s : Nat, s < 8 ∧ pinnedV S n s = m) (h2 : ∀ s : Nat, s < 8 → 0 < pinnedV S n s → m ≤ pinnedV S n s) : minV S n now = m := by
  have h := leastV_spec S n 8
  unfold minV
  generalize leastV S n 8 = a at h
  obtain ⟨l, b⟩ := a
  simp only at h ⊢
  obtain ⟨s, hs, e⟩ := h1
  cases b with
  | false => have := h.no rfl s hs; omega
  | true =>
    rw [if_pos rfl]
    obtain ⟨⟨t, ht, e2⟩, h3⟩ := h.is rfl
    have a1 := h.le rfl s hs (by omega)
    have a2 := h2 t ht (by omega)
    omega
theorem getD_set (S : List Int) (i j : Nat) (x : Int) (hi : i < S.length) : (S.set i x).getD j 0 = if j = i then x else S.getD j 0 := by
  rw [List.getD_eq_getElem?_getD, List.getD_eq_getElem?_getD, List.getElem?_set]
  by_cases e : i = j
  · subst e
    rw [if_pos rfl, if_pos hi, if_pos rfl]
    rfl
  · rw [if_neg e, if_neg (Ne.symm e)]
/-- The slots of EpochBusy, k of which are held. -/
structure Bs (S : List Int) (k : Nat) : Prop where
  held : ∀ j, j < k → S.getD j 0 = (j : Int) + 1
  free : ∀ j, k ≤ j → S.getD j 0 = 0
theorem Bs.start : Bs [0, 0, 0, 0, 0, 0, 0, 0] 0 := by
  refine ⟨fun j h => by omega, fun j _ => ?_⟩
  rw [List.getD_eq_getElem?_getD]
  by_cases h : j < 8
  · have : j = 0 ∨ j = 1 ∨ j = 2 ∨ j = 3 ∨ j = 4 ∨ j = 5 ∨ j = 6 ∨ j = 7 := by omega
    rcases this with rfl | rfl | rfl | rfl | rfl | rfl | rfl | rfl <;> rfl
  · rw [List.getElem?_eq_none (by simp; omega)]
    rfl
theorem Bs.next {S : List Int} {k i : Nat} (h : Bs S k) (hk : k < S.length) (hi : S.getD i 0 = 0) (hj : ∀ j, j < i → S.getD j 0 ≠ 0) : i = k ∧ Bs (S.set i ((k : Int) + 1)) (k + 1) := by
  obtain rfl : i = k := by
    rcases Nat.lt_trichotomy i k with e | e | e
    · have := h.held i e
      omega
    · exact e
    · exact absurd (h.free k (Nat.le_refl _)) (hj k e)
  refine ⟨rfl, fun j hj => ?_, fun j hj => ?_⟩
  · rw [getD_set _ _ _ _ hk]
    by_cases e : j = i
    · subst e
      rw [if_pos rfl]
    · rw [if_neg e]
      exact h.held j (by omega)
  · rw [getD_set _ _ _ _ hk, if_neg (by omega)]
    exact h.free j (by omega)
theorem Bs.min {S : List Int} {n : Nat} (h : Bs S n) (h0 : 1 ≤ n) (h8 : n ≤ 8) (now : Int) : minV S n now = 1 := by
  refine minV_is (by decide) ⟨0, by decide, ?_⟩ fun s hs h1 => ?_
  · rw [pinnedV_at (by omega), h.held 0 (by omega)]
    rfl
  · by_cases e : s < n
    · rw [pinnedV_at e, h.held s e]
      omega
    · rw [pinnedV_out e] at h1
      omega
set_option maxHeartbeats 1000000 in
set_option maxRecDepth 100000 in
theorem walk5 (pins free : Int) (hp : 0 ≤ pins) (hp1 : Aside0 (pins ≤ 18446744073709551615)) (hf : 0 ≤ free) (hf1 : Aside0 (free ≤ 18446744073709551615)) (w : World) : Calls Try.prog 5 #[.int .u64 pins, .int .u64 free] w fun e w' => e = .returned (.bool true) ∧ Below w.heap.size w w' := by
  go_enter Try.func5, Try.ntmps5
  go_wp2_with fail
  have hN : 1 ≤ 1 + pins % 8 ∧ 1 + pins % 8 ≤ 8 := by omega
  generalize 1 + pins % 8 = N at hN ⊢
  obtain ⟨n, rfl⟩ : ∃ n : Nat, N = n := ⟨N.toNat, by omega⟩
  obtain ⟨hn1, hn8⟩ : 1 ≤ n ∧ n ≤ 8 := by omega
  clear hN
  refine (new_s n hn1 hn8 w).mono ?_
  rintro e w1 ⟨rfl, hS, hB, hO⟩
  have HS := Aside0.mk hS
  have HB := Aside0.mk hB
  have HOW := Aside0.mk hO
  clear hS hB hO
  go_wp2_with fail
  go_loopw [7] (fun i wr => ∃ (k : Nat) (S : List Int), i = .int .i64 k ∧ k ≤ n ∧ Aside0 (Bs S k) ∧ Aside0 (Nx w1 w.heap.size ((k : Int) + 1) S n [] wr)) (fun i _ => n - (intOf i).toNat)
  case atStart => exact ⟨0, _, rfl, Nat.zero_le _, ⟨Bs.start⟩, ⟨Nx.refl HS.out⟩⟩
  case round =>
    obtain ⟨k, S, rfl, hk, HK, HX⟩ := hrel
    have hl8 := HX.out.st.len.1
    by_cases hlt : k < n
    · have g1 : (k : Int) < (n : Int) := by omega
      have HL := Aside0.mk hl8
      clear hl8
      go_wp2_with fail
      refine (pin_s HX.out.st).mono ?_
      rintro e w2 h2
      have h3 : e = .returned (.tuple #[.int .i64 k, .int .i64 0]) ∧ ∃ S2, Bs S2 (k + 1) ∧ Nx wr w.heap.size ((k : Int) + 1) S2 n [] w2 := by
        rcases h2 with ⟨i, a, b, c, rfl, hX⟩ | ⟨h1, _⟩
        · obtain ⟨rfl, hb⟩ := HK.out.next (by rw [HL.out]; omega) b c
          exact ⟨rfl, _, hb, hX⟩
        · exact absurd (HK.out.free k (Nat.le_refl _)) (h1 k hlt)
      obtain ⟨rfl, S2, hb, hX⟩ := h3
      have HB2 := Aside0.mk hb
      have HX2 := Aside0.mk (HX.out.trans hX)
      clear h2 hb hX
      go_wp2_with fail
      refine (publish_s HX2.out.st (by omega) (by omega)).mono ?_
      rintro e w3 ⟨rfl, hX⟩
      have HX3 := Aside0.mk (HX2.out.trans hX)
      clear hX
      go_wp2_with fail
      go_roundw
      case rel => exact ⟨k + 1, S2, by go_num, hlt, HB2, HX3⟩
      case measure => simp [intOf]; omega
    · have hkl : k = n := by omega
      subst hkl
      have gk1 : (1 : Int) ≤ k := by omega
      have gk8 : (k : Int) ≤ 8 := by omega
      have HL := Aside0.mk hl8
      have HM := Aside0.mk (HK.out.min hn1 hn8 ((k : Int) + 1))
      clear hl8
      go_wp2_with fail
      obtain ⟨f, hf2, hfk⟩ : ∃ f : Nat, wrap64 (free % (k : Int)) = f ∧ f < k := by
        have a1 := Int.emod_nonneg free (show (k : Int) ≠ 0 by omega)
        have a2 := Int.emod_lt_of_pos free (show (0 : Int) < k by omega)
        refine ⟨(free % (k : Int)).toNat, ?_, by omega⟩
        unfold wrap64
        omega
      rw [hf2]
      clear hf2
      have hfs : f < S.length := by rw [HL.out]; omega
      have HF1 : Aside0 (pinnedV S k f ≠ 0) := ⟨by rw [pinnedV_at hfk, HK.out.held f hfk]; omega⟩
      have HF2 : Aside0 (pinnedV (S.set f 0) k f = 0) := ⟨by rw [pinnedV_at hfk, getD_set _ _ _ _ hfs, if_pos rfl]⟩
      have HF3 : Aside0 (∀ i : Nat, i < k → (S.set f 0).getD i 0 = 0 → i = f) := ⟨fun i hi h0 => by
        rw [getD_set _ _ _ _ hfs] at h0
        by_cases e : i = f
        · exact e
        · rw [if_neg e, HK.out.held i hi] at h0
          omega⟩
      have HF4 : Aside0 (pinnedV ((S.set f 0).set f ((k : Int) + 1)) k f = (k : Int) + 1) := ⟨by rw [pinnedV_at hfk, getD_set _ _ _ _ (by rw [List.length_set]; exact hfs), if_pos rfl]⟩
      refine (pin_s HX.out.st).mono ?_
      rintro e w2 h2
      obtain ⟨rfl, hX⟩ : e = .returned (.tuple #[.int .i64 0, .int .i64 6]) ∧ Nx wr w.heap.size ((k : Int) + 1) S k [] w2 := by
        rcases h2 with ⟨i, a, b, _⟩ | ⟨_, rfl, hX⟩
        · have := HK.out.held i a
          omega
        · exact ⟨rfl, hX⟩
      have HX2 := Aside0.mk (HX.out.trans hX)
      clear h2 hX
      go_wp2_with fail
      refine (min_s HX2.out.st).mono ?_
      rintro e w3 ⟨rfl, rfl⟩
      rw [HM.out]
      go_wp2_with fail
      refine (unpin_s HX2.out.st f).mono ?_
      rintro e w4 h4
      obtain ⟨rfl, hX⟩ : e = .returned (.int .i64 0) ∧ Nx w3 w.heap.size ((k : Int) + 1) (S.set f 0) k [] w4 := by
        rcases h4 with ⟨h, _⟩ | ⟨_, _, _, rfl, hX⟩
        · exact absurd h HF1.out
        · exact ⟨rfl, hX⟩
      have HX4 := Aside0.mk (HX2.out.trans hX)
      clear h4 hX
      go_wp2_with fail
      refine (unpin_s HX4.out.st f).mono ?_
      rintro e w5 h5
      obtain ⟨rfl, hX⟩ : e = .returned (.int .i64 3) ∧ Nx w4 w.heap.size ((k : Int) + 1) (S.set f 0) k [] w5 := by
        rcases h5 with ⟨_, rfl, hX⟩ | ⟨h, _⟩
        · exact ⟨rfl, hX⟩
        · exact absurd HF2.out h
      have HX5 := Aside0.mk (HX4.out.trans hX)
      clear h5 hX
      go_wp2_with fail
      refine (pin_s HX5.out.st).mono ?_
      rintro e w6 h6
      obtain ⟨rfl, hX⟩ : e = .returned (.tuple #[.int .i64 f, .int .i64 0]) ∧ Nx w5 w.heap.size ((k : Int) + 1) ((S.set f 0).set f ((k : Int) + 1)) k [] w6 := by
        rcases h6 with ⟨i, a, b, _, rfl, hX⟩ | ⟨h, _⟩
        · obtain rfl := HF3.out i a b
          exact ⟨rfl, hX⟩
        · have := h f hfk
          rw [getD_set _ _ _ _ hfs, if_pos rfl] at this
          exact absurd rfl this
      have HX6 := Aside0.mk (HX5.out.trans hX)
      clear h6 hX
      go_wp2_with fail
      refine (pinned_s HX6.out.st f).mono ?_
      rintro e w7 ⟨rfl, rfl⟩
      rw [HF4.out]
      go_wp2_with fail
      refine (lives_c _).mono ?_
      rintro e w8 ⟨rfl, hB8⟩
      have HX8 := Aside0.mk (HX6.out.below hB8)
      clear hB8
      go_wp2_with fail
      go_ret
      exact ⟨rfl, HB.out.trans (HX8.out.fr.to_below HB.out.size (fun k hk => by rw [HOW.out k hk]; exact Nat.le_refl _))⟩
end Go.Proofs.Ytpfeelcdbnldfaa
