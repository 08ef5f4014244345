/-
  The epochs' calls over all that they hold; gouacheref01.Ints; the document's examples are as it says.
-/
import Derived.Test.YtpfeelcdbnldfaaRecl
namespace Go.Proofs.Ytpfeelcdbnldfaa
open Go.RowKit Go.Proofs.YtpfeelcdbnldfaaW.PrintWords
set_option linter.unusedVariables false
set_option linter.unusedSimpArgs false

section
variable {W : World} {p n : Nat} {now : Int} {S : List Int} {L : List It}
theorem new_s (n : Nat) (h0 : 1 ≤ n) (h1 : n ≤ 8) (w : World) :
    Calls Try.prog 8 #[.int .i64 n] w fun e w' => e = .returned (.pointer (some ⟨w.heap.size, 0, none⟩)) ∧ St w' w.heap.size 1 [0, 0, 0, 0, 0, 0, 0, 0] n [] ∧ Below w.heap.size w w' ∧ ∀ k, Ow w' w.heap.size k → k = w.heap.size := by
  refine (new_c n h0 h1 w).mono ?_
  rintro e w' ⟨rfl, hE, hB, _⟩
  refine ⟨rfl, ⟨_, [], hE, World.ownsRow_nil _ _ _ _, fun k hk => by simp [Value.ownBlock] at hk, fun k h0 h1 => by simp at h1, .refl _⟩, hB, fun k hk => ?_⟩
  rw [hE.ow] at hk
  rcases hk with e | e
  · exact e
  · simp [Value.ownBlock] at e
theorem now_s (h : St W p now S n L) : Calls Try.prog 10 #[.pointer (some ⟨p, 0, none⟩)] W fun e w' => e = .returned (.int .i64 now) ∧ w' = W := by
  obtain ⟨v, hE⟩ := h.ep
  exact now_c hE
theorem publish_s (h : St W p now S n L) (h0 : 0 ≤ now) (h1 : now ≤ 1000000) :
    Calls Try.prog 11 #[.pointer (some ⟨p, 0, none⟩)] W fun e w' => e = .returned (.int .i64 (now + 1)) ∧ Nx W p (now + 1) S n L w' := by
  obtain ⟨v, hE⟩ := h.ep
  refine (publish_c hE h0 h1).mono ?_
  rintro e w' ⟨rfl, rfl⟩
  exact ⟨rfl, Nx.at_now h _⟩
theorem pinned_s (h : St W p now S n L) (s : Int) : Calls Try.prog 13 #[.pointer (some ⟨p, 0, none⟩), .int .i64 s] W fun e w' => e = .returned (.int .i64 (pinnedV S n s)) ∧ w' = W := by
  obtain ⟨v, hE⟩ := h.ep
  exact pinned_c hE s
theorem min_s (h : St W p now S n L) : Calls Try.prog 18 #[.pointer (some ⟨p, 0, none⟩)] W fun e w' => e = .returned (.int .i64 (minV S n now)) ∧ w' = W := by
  obtain ⟨v, hE⟩ := h.ep
  exact min_c hE
theorem St.len (h : St W p now S n L) : S.length = 8 ∧ 1 ≤ n ∧ n ≤ 8 := by
  obtain ⟨v, hE⟩ := h.ep
  exact ⟨hE.1, hE.2.1, hE.2.2.1⟩
/-- What Unpin leaves. -/
def Unp (W : World) (p : Nat) (now : Int) (S : List Int) (n : Nat) (L : List It) (s : Int) (e : Ending) (w' : World) : Prop :=
  (pinnedV S n s = 0 ∧ e = .returned (.int .i64 3) ∧ Nx W p now S n L w') ∨ (pinnedV S n s ≠ 0 ∧ 0 ≤ s ∧ s < n ∧ e = .returned (.int .i64 0) ∧ Nx W p now (S.set s.toNat 0) n L w')
theorem unpin_s (h : St W p now S n L) (s : Int) : Calls Try.prog 14 #[.pointer (some ⟨p, 0, none⟩), .int .i64 s] W (Unp W p now S n L s) := by
  have hl := h.len
  obtain ⟨v, hE⟩ := h.ep
  refine (unpin_c hE s).mono ?_
  rintro e w' (⟨h0, rfl, rfl⟩ | ⟨h0, h1, h2, rfl, rfl⟩)
  · exact Or.inl ⟨h0, rfl, Nx.refl h⟩
  · exact Or.inr ⟨h0, h1, h2, rfl, Nx.slot h _ (by omega) 0⟩
/-- What Pin leaves. -/
def Pnd (W : World) (p : Nat) (now : Int) (S : List Int) (n : Nat) (L : List It) (e : Ending) (w' : World) : Prop :=
  (∃ i : Nat, i < n ∧ S.getD i 0 = 0 ∧ (∀ j, j < i → S.getD j 0 ≠ 0) ∧ e = .returned (.tuple #[.int .i64 i, .int .i64 0]) ∧ Nx W p now (S.set i now) n L w') ∨
    ((∀ j, j < n → S.getD j 0 ≠ 0) ∧ e = .returned (.tuple #[.int .i64 0, .int .i64 6]) ∧ Nx W p now S n L w')
theorem Nx.mk_ep {W' : World} {v : Value} {M : List It} {now' : Int} {S' : List Int} (hE : Ep W p now S n v) (hO : W.ownsRow 0 63 2 v M.length (flat M)) (hp : ∀ k, v.ownBlock = some k → k ≠ p) (hH : Hp.Heap lessV M M.length) (hP : M.Perm L)
    (hE' : Ep W' p now' S' n v) (hf : Fr (fun k => k = p) W W') : Nx W p now' S' n L W' := by
  refine ⟨⟨v, M, hE', own_fr hO hf hp, hp, hH, hP⟩, hf.mono (fun i e => Or.inl e), fun k hk => ?_⟩
  rw [hE'.ow] at hk
  rw [hE.ow]
  exact Or.inl hk
theorem pin_s (h : St W p now S n L) : Calls Try.prog 12 #[.pointer (some ⟨p, 0, none⟩)] W (Pnd W p now S n L) := by
  obtain ⟨v, M, hE, hO, hp, hH, hP⟩ := h
  refine (pin_c hE).mono ?_
  rintro e w' ⟨⟨i, h1, h2, h3, rfl, hE'⟩ | ⟨h1, rfl, hE'⟩, hF⟩
  · exact Or.inl ⟨i, h1, h2, h3, rfl, Nx.mk_ep hE hO hp hH hP hE' hF⟩
  · exact Or.inr ⟨h1, rfl, Nx.mk_ep hE hO hp hH hP hE' hF⟩
end

set_option maxHeartbeats 1000000 in
theorem ints_c (xs ys : List Int) (A B : Option Addr) (c d : Nat) (W : World) (hx : ReadsInt W .i64 A xs.length xs) (hy : ReadsInt W .i64 B ys.length ys) :
    Calls Try.prog 24 #[.slice A xs.length c, .slice B ys.length d] W fun e w' => e = .returned (.bool (decide (xs = ys))) ∧ Below W.heap.size W w' := by
  have HX := Aside0.mk hx
  have HY := Aside0.mk hy
  have hb : xs.length ≤ 9223372036854775807 := hx.2.1
  clear hx hy
  by_cases hl : xs.length = ys.length
  · have HL := Aside0.mk hl
    rw [← hl] at HY ⊢
    clear hl
    have HD : Aside0 (ys.length = xs.length) := ⟨HL.out.symm⟩
    clear HL
    go_enter Try.func24, Try.ntmps24
    go_wp2_with fail
    go_loopw [13] (fun i wr => ∃ k : Nat, i = .int .i64 k ∧ k ≤ xs.length ∧ Aside0 (xs.take k = ys.take k) ∧ Aside0 (Below W.heap.size W wr)) (fun i _ => xs.length - (intOf i).toNat)
    case atStart => exact ⟨0, rfl, Nat.zero_le _, ⟨rfl⟩, ⟨Below.refl _ _⟩⟩
    case round =>
      obtain ⟨k, rfl, hk, HT, HB⟩ := hrel
      by_cases hlt : k < xs.length
      · obtain ⟨ax, rfl, ex0⟩ := (HX.out.below HB.out).2.2 (by omega)
        obtain ⟨ay, rfl, ey0⟩ := (HY.out.below HB.out).2.2 (by omega)
        have ex := ex0 k hlt
        have ey := ey0 k hlt
        clear ex0 ey0
        have hky : k < ys.length := by rw [HD.out]; exact hlt
        have HGX : Aside0 (xs.getD k 0 = xs[k]) := ⟨by rw [List.getD_eq_getElem?_getD, List.getElem?_eq_getElem hlt]; rfl⟩
        have HGY : Aside0 (ys.getD k 0 = ys[k]) := ⟨by rw [List.getD_eq_getElem?_getD, List.getElem?_eq_getElem hky]; rfl⟩
        have g1 : (k : Int) < (xs.length : Int) := by omega
        by_cases he : xs.getD k 0 = ys.getD k 0
        · have HT2 : Aside0 (xs.take (k + 1) = ys.take (k + 1)) := ⟨by rw [List.take_succ_eq_append_getElem hlt, List.take_succ_eq_append_getElem hky, HT.out, ← HGX.out, ← HGY.out, he]⟩
          have hc : (xs.getD k 0 != ys.getD k 0) = false := by simpa using he
          rw [he] at ex hc
          clear hc he HGX HGY
          generalize ys.getD k 0 = y at ex ey
          have hc : (y != y) = false := by simp
          go_wp2_with fail
          go_quiet (fail)
          go_wp2_with fail
          go_roundw
          case rel => exact ⟨k + 1, by go_num, hlt, HT2, ⟨pw_below_drewN HB.out _⟩⟩
          case measure => simp [intOf]; omega
        · have HN : Aside0 (decide (xs = ys) = false) := ⟨decide_eq_false (fun e => he (by rw [e]))⟩
          have hc : (xs.getD k 0 != ys.getD k 0) = true := by simpa using he
          generalize ys.getD k 0 = y at ey hc HGY
          generalize xs.getD k 0 = x at ex hc HGX
          clear he
          go_wp2_with fail
          go_quiet (fail)
          go_wp2_with fail
          go_ret
          exact ⟨by rw [HN.out]; rfl, pw_below_drewN HB.out _⟩
      · have hkl : k = xs.length := by omega
        subst hkl
        have HN : Aside0 (decide (xs = ys) = true) := ⟨decide_eq_true (by have := HT.out; rw [List.take_of_length_le (Nat.le_refl _), List.take_of_length_le (by rw [HD.out]; exact Nat.le_refl _)] at this; exact this)⟩
        clear HT
        go_wp2_with fail
        go_ret
        exact ⟨by rw [HN.out]; rfl, HB.out⟩
  · have HN : Aside0 (decide (xs = ys) = false) := ⟨decide_eq_false (fun e => hl (by rw [e]))⟩
    rw [HN.out]
    have hc : ((xs.length : Int) != (ys.length : Int)) = true := by rw [bne_iff_ne]; omega
    go_enter Try.func24, Try.ntmps24
    go_wp2_with fail
    go_ret
    exact ⟨rfl, Below.refl _ _⟩
theorem recl_none {W w' : World} {p n : Nat} {now : Int} {S : List Int} {L : List It} {e : Ending} (h : Recl W p now S n L e w') (hs : (leastV S n 8).2 = true) (hL : ∀ x, x ∈ L → (leastV S n 8).1 ≤ x.2) :
    ∃ A c, e = .returned (.slice A 0 c) ∧ Nx W p now S n L w' := by
  obtain ⟨I, M, v, rfl, hR, _, hX, hO, _⟩ := h
  have hI : I = [] := by
    cases I with
    | nil => rfl
    | cons a I =>
      have h1 := hL a (hR.perm.subset (by simp))
      rcases hR.below a (by simp) with h2 | h2
      · rw [hs] at h2
        cases h2
      · omega
  subst hI
  obtain ⟨A, c, rfl⟩ := own_slice hO
  exact ⟨A, c, rfl, hX.perm (by simpa using hR.perm)⟩
theorem recl_all {W w' : World} {p n : Nat} {now : Int} {S : List Int} {L : List It} {e : Ending} (h : Recl W p now S n L e w') (hs : (leastV S n 8).2 = false) :
    ∃ (I : List It) (A : Option Addr) (c : Nat), e = .returned (.slice A I.length c) ∧ I.Perm L ∧ ReadsInt w' .i64 A I.length (I.map Prod.fst) ∧ Nx W p now S n [] w' := by
  obtain ⟨I, M, v, rfl, hR, hM, hX, hO, _⟩ := h
  obtain rfl : M = [] := hM.elim id (fun e => by rw [hs] at e; exact absurd e.1 (by decide))
  obtain ⟨A, c, rfl⟩ := own_slice hO
  exact ⟨I, A, c, rfl, by simpa using hR.perm, own_reads' hO, hX⟩
set_option maxHeartbeats 1000000 in
set_option maxRecDepth 100000 in
theorem lives_c (w : World) : Calls Try.prog 9 #[] w fun e w' => e = .returned (.bool true) ∧ Below w.heap.size w w' := by
  go_enter Try.func9, Try.ntmps9
  go_wp2_with fail
  refine (new_s 2 (by decide) (by decide) w).mono ?_
  rintro e w1 ⟨rfl, hS, hB, hO⟩
  have HS := Aside0.mk hS
  have HB := Aside0.mk hB
  have HOW := Aside0.mk hO
  clear hS hB hO
  go_wp2_with fail
  refine (pin_s HS.out).mono ?_
  rintro e w2 h2
  obtain ⟨rfl, hX⟩ : e = .returned (.tuple #[.int .i64 0, .int .i64 0]) ∧ Nx w1 w.heap.size 1 [1, 0, 0, 0, 0, 0, 0, 0] 2 [] w2 := by
    rcases h2 with ⟨i, a, b, c, rfl, hX⟩ | ⟨h1, _⟩
    · obtain rfl : i = 0 := by
        rcases Nat.eq_zero_or_pos i with e | e
        · exact e
        · exact absurd rfl (c 0 e)
      exact ⟨rfl, hX⟩
    · exact absurd rfl (h1 0 (by decide))
  have HX2 := Aside0.mk hX
  clear h2 hX
  go_wp2_with fail
  refine (retire_c HX2.out.st (by decide) 7).mono ?_
  rintro e w3 ⟨rfl, hX⟩
  have HX3 := Aside0.mk (HX2.out.trans hX)
  clear hX
  go_wp2_with fail
  refine (publish_s HX3.out.st (by decide) (by decide)).mono ?_
  rintro e w4 ⟨rfl, hX⟩
  have HX4 := Aside0.mk (HX3.out.trans hX)
  clear hX
  go_wp2_with fail
  refine (reclaim_c HX4.out.st (by decide)).mono ?_
  rintro e w5 h5
  obtain ⟨A, c, rfl, hX⟩ 
    := recl_none h5 (by decide) (by intro x hx; rw [List.mem_singleton] at hx; subst hx; decide)
  have HX5 := Aside0.mk (HX4.out.trans hX)
  clear hX h5
  go_wp2_with fail
  refine (unpin_s HX5.out.st 0).mono ?_
  rintro e w6 h6
  obtain ⟨rfl, hX⟩ : e = .returned (.int .i64 0) ∧ Nx w5 w.heap.size (1 + 1) [0, 0, 0, 0, 0, 0, 0, 0] 2 [(7, 1)] w6 := by
    rcases h6 with ⟨h, _⟩ | ⟨_, _, _, rfl, hX⟩
    · exact absurd h (by decide)
    · exact ⟨rfl, hX⟩
  have HX6 := Aside0.mk (HX5.out.trans hX)
  clear hX h6
  go_wp2_with fail
  refine (reclaim_c HX6.out.st (by decide)).mono ?_
  rintro e w7 h7
  obtain ⟨I, A1, c1, rfl, hP, hI, hX⟩ := recl_all h7 (by decide)
  rw [List.perm_singleton] at hP
  subst hP
  have HX7 := Aside0.mk (HX6.out.trans hX)
  have HI := Aside0.mk hI
  clear hX h7 hI
  go_wp2_with fail
  refine (ints_c [7] [7] _ _ _ _ _ (HI.out.below ((Below.refl _ _).alloc (Nat.le_refl _) _)) (own_reads' (own_lit w7 0 3 .i64 [7] (Nat.zero_le _) (by decide)))).mono ?_
  rintro e w8 ⟨rfl, hB8⟩
  have HX8 := Aside0.mk ((HX7.out.below ((Below.refl _ _).alloc (Nat.le_refl _) _)).below hB8)
  clear hB8
  have hd : decide (([7] : List Int) = [7]) = true := by decide
  rw [hd]
  go_wp2_with fail
  refine (now_s HX8.out.st).mono ?_
  rintro e w9 ⟨rfl, rfl⟩
  go_wp2_with fail
  go_ret
  exact ⟨rfl, HB.out.trans (HX8.out.fr.to_below HB.out.size (fun k hk => by rw [HOW.out k hk]; exact Nat.le_refl _))⟩
end Go.Proofs.Ytpfeelcdbnldfaa
