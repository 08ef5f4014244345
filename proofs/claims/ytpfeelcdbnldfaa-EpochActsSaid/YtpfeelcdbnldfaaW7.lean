/-
  EpochActs, walked: both epochs answer alike.
-/
import Derived.Test.YtpfeelcdbnldfaaJc
namespace Go.Proofs.Ytpfeelcdbnldfaa
open Go.RowKit Go.Proofs.YtpfeelcdbnldfaaW Go.Proofs.YtpfeelcdbnldfaaW.PrintWords
set_option linter.unusedVariables false
set_option linter.unusedSimpArgs false
theorem at_own {w : World} {b c : Nat} {A : Option Addr} {L : List It} (h : w.ownsRow b 63 2 (.slice A L.length c) L.length (flat L)) (t : Nat) (ht : t < L.length) :
    ∃ g, A = some ⟨g, 0, none⟩ ∧ w.cell? ⟨g, t * 2, none⟩ = some (.int .i64 L[t].1) ∧ w.cell? ⟨g, t * 2 + 1, none⟩ = some (.int .i64 L[t].2) := by
  obtain ⟨g, c2, ev, _, _⟩ := h.form (by omega)
  injection ev with e1 e2 e3
  subst e1 e3
  exact ⟨g, rfl, (Row.of_own (own_less h (Nat.zero_le _))).cell t ht⟩
/-- What an act leaves. -/
def Md (W : World) (p r n k : Nat) (bx : Nat) (ob : Obj) (wc : World) : Prop :=
  ∃ (S : List Int) (now : Int) (L : List It), 1 ≤ now ∧ now ≤ (k : Int) + 2 ∧ L.length ≤ k + 1 ∧ Jh W p r now S L now S n L wc ∧ Bx p r bx ob wc
theorem unpinX_none {W : World} {p n : Nat} {now : Int} {S : List Int} {L : List It} (h : St W p now S n L) (s : Int) (h0 : pinnedV S n s = 0) : Calls Try.prog 14 #[.pointer (some ⟨p, 0, none⟩), .int .i64 s] W fun e w' => e = .returned (.int .i64 3) ∧ Nx W p now S n L w' := by
  refine (unpin_s h s).mono ?_
  rintro e w' (⟨_, rfl, hx⟩ | ⟨h1, _⟩)
  · exact ⟨rfl, hx⟩
  · exact absurd h0 h1
theorem unpinX_some {W : World} {p n : Nat} {now : Int} {S : List Int} {L : List It} (h : St W p now S n L) (s : Int) (h0 : pinnedV S n s ≠ 0) : Calls Try.prog 14 #[.pointer (some ⟨p, 0, none⟩), .int .i64 s] W fun e w' => e = .returned (.int .i64 0) ∧ Nx W p now (S.set s.toNat 0) n L w' := by
  refine (unpin_s h s).mono ?_
  rintro e w' (⟨h1, _⟩ | ⟨_, _, _, rfl, hx⟩)
  · exact absurd h1 h0
  · exact ⟨rfl, hx⟩
theorem Bx.fld {p r b : Nat} {x y : Int} {w : World} (h : Bx p r b (.cells #[.int .i64 x, .int .i64 y] 30 (0, 0)) w) : w.cell? ⟨b, 1, none⟩ = some (.int .i64 y) := (blk_cell h.at_ 1).trans rfl
set_option maxHeartbeats 4000000 in
set_option maxRecDepth 100000 in
theorem walk7 (pins : Int) (A : Option Addr) (c : Nat) (l : List Ac) (w : World) (hC : Kd.C kAc w A l.length l) (hcl : l.length ≤ c) (hb : l.length * 16 ≤ 140737488351232) :
    Calls Try.prog 7 #[.int .i64 pins, .slice A l.length c] w fun e w' => e = .returned (.bool true) ∧ Below w.heap.size w w' := by
  have HC := Aside0.mk hC
  have HCL := Aside0.mk hcl
  clear hC hcl
  by_cases hp : 1 ≤ pins ∧ pins ≤ 8
  · obtain ⟨n, rfl⟩ : ∃ n : Nat, pins = n := ⟨pins.toNat, by omega⟩
    obtain ⟨hn1, hn8⟩ : 1 ≤ n ∧ n ≤ 8 := by omega
    clear hp
    by_cases hbig : 200 < l.length
    · have gbig : (200 : Int) < (l.length : Int) := by omega
      go_enter Try.func7, Try.ntmps7
      go_wp2_with fail
      refine (new_s n hn1 hn8 w).mono ?_
      rintro e w1 ⟨rfl, hS, hB, hO⟩
      have HB := Aside0.mk hB
      clear hS hB hO
      go_wp2_with fail
      refine (new_r n hn1 hn8).mono ?_
      rintro e w2 ⟨rfl, hR, hB2⟩
      have HB2 := Aside0.mk (below_step HB.out hB2)
      clear hR hB2
      go_wp2_with fail
      refine (lives_c _).mono ?_
      rintro e w3 ⟨rfl, hB3⟩
      have HB3 := Aside0.mk (below_step HB2.out hB3)
      clear hB3
      go_wp2_with fail
      go_ret
      exact ⟨rfl, HB3.out⟩
    · have gbig : ¬ ((200 : Int) < (l.length : Int)) := by omega
      go_enter Try.func7, Try.ntmps7
      go_wp2_with fail
      refine (new_s n hn1 hn8 w).mono ?_
      rintro e w1 ⟨rfl, hS, hB, hO⟩
      have HS := Aside0.mk hS
      have HB := Aside0.mk hB
      have HOW := Aside0.mk hO
      clear hS hB hO
      go_wp2_with fail
      refine (new_r n hn1 hn8).mono ?_
      rintro e w2 ⟨rfl, hR, hB2⟩
      have HJ := Aside0.mk (Js.start hn8 HS.out HB.out HOW.out hR hB2)
      clear hR hB2 HS HB HOW
      generalize w1.heap.size + 1 = r at HJ ⊢
      go_wp2_with fail
      go_loopw [35] (fun i wr => ∃ (k : Nat) (S : List Int) (now : Int) (L : List It), i = .int .i64 k ∧ k ≤ l.length ∧ 1 ≤ now ∧ now ≤ (k : Int) + 1 ∧ Aside0 (L.length ≤ k) ∧ Aside0 (Jh w w.heap.size r now S L now S n L wr)) (fun i _ => l.length - (intOf i).toNat)
      case atStart => exact ⟨0, _, 1, [], rfl, Nat.zero_le _, by decide, by decide, ⟨Nat.le_refl _⟩, HJ⟩
      case round =>
        clear HJ
        obtain ⟨k, S, now, L, rfl, hk, h1, hnow, HLL, HJ⟩ := hrel
        have HL8 := Aside0.mk (HJ.out.st.len)
        by_cases hlt : k < l.length
        · have g1 : (k : Int) < (l.length : Int) := by omega
          obtain ⟨ad, rfl, c1, c2, c3⟩ := at_act (Kd.C_below HC.out HJ.out.bel) k hlt hlt
          generalize l[k].kind = kd at c1
          generalize l[k].n = x at c2 c3
          have HJa := Aside0.mk (HJ.out.below ((Below.refl _ _).alloc (Nat.le_refl _) (.cells #[.int .i64 kd, .int .i64 x] 30)))
          have d1 := cell1 wr #[.int .i64 kd, .int .i64 x] 30 1
          have HBa := Aside0.mk (Bx.start (o := .cells #[.int .i64 kd, .int .i64 x] 30) HJ.out)
          simp only [List.getElem?_toArray, List.getElem?_cons_zero, List.getElem?_cons_succ] at d1
          go_upto_block 2 with (fail)
          generalize wr.alloc (.cells #[.int .i64 kd, .int .i64 x] 30) = wa at HJa d1 HBa ⊢
          generalize wr.heap.size = bx at HBa d1 ⊢
          go_cut [9, 10, 11, 12, 13] from 41 to 96 (fun v9 v10 v11 v12 v13 wc => v9 = .bool true ∧ Aside0 (Md w w.heap.size r n k bx (.cells #[.int .i64 kd, .int .i64 x] 30 (0, 0)) wc))
          case first =>
            by_cases k0 : kd = 0
            · subst k0
              go_wp2_with fail
              refine (publish_s HJa.out.st (by omega) (by omega)).mono ?_
              rintro e w3 ⟨rfl, hX⟩
              have HJ1 := Aside0.mk (HJa.out.epo hX)
              have HB1 := Aside0.mk (HBa.out.epo hX)
              clear hX
              go_wp2_with fail
              refine (publishD HJ1.out (by omega) (by omega)).mono ?_
              rintro e w4 ⟨rfl, hJ2, hF⟩
              have HJ2 := Aside0.mk hJ2
              have HB2 := Aside0.mk (HB1.out.doc HJ1.out hF)
              clear hJ2 hF
              go_wp2_with fail
              go_meet
              exact ⟨rfl, ⟨S, now + 1, L, by omega, by omega, (Nat.le_succ_of_le HLL.out), HJ2.out, HB2.out⟩⟩
            · by_cases k1 : kd = 1
              · subst k1
                go_wp2_with fail
                refine (pin_s HJa.out.st).mono ?_
                rintro e w3 (⟨i, hi, b, b2, rfl, hX⟩ | ⟨b, rfl, hX⟩)
                · have HJ1 := Aside0.mk (HJa.out.epo hX)
                  have HB1 := Aside0.mk (HBa.out.epo hX)
                  have HPD := Aside0.mk (fun (w2 : World) (h2 : Jh w w.heap.size r now (S.set i now) L now S n L w2) => pinD_some h2 HL8.out hi b b2)
                  clear hX b b2
                  go_wp2_with fail
                  refine (HPD.out _ HJ1.out).mono ?_
                  rintro e w4 ⟨rfl, hJ2, hF⟩
                  have HJ2 := Aside0.mk hJ2
                  have HB2 := Aside0.mk (HB1.out.doc HJ1.out hF)
                  clear hJ2 hF
                  go_wp2_with fail
                  go_meet
                  exact ⟨rfl, ⟨S.set i now, now, L, by omega, by omega, (Nat.le_succ_of_le HLL.out), HJ2.out, HB2.out⟩⟩
                · have HJ1 := Aside0.mk (HJa.out.epo hX)
                  have HB1 := Aside0.mk (HBa.out.epo hX)
                  have HPD := Aside0.mk (fun (w2 : World) (h2 : Jh w w.heap.size r now S L now S n L w2) => pinD_none h2 HL8.out b)
                  clear hX b
                  go_wp2_with fail
                  refine (HPD.out _ HJ1.out).mono ?_
                  rintro e w4 ⟨rfl, hJ2, hF⟩
                  have HJ2 := Aside0.mk hJ2
                  have HB2 := Aside0.mk (HB1.out.doc HJ1.out hF)
                  clear hJ2 hF
                  go_wp2_with fail
                  go_meet
                  exact ⟨rfl, ⟨S, now, L, by omega, by omega, (Nat.le_succ_of_le HLL.out), HJ2.out, HB2.out⟩⟩
              · by_cases k2 : kd = 2
                · subst k2
                  by_cases h0 : pinnedV S n x = 0
                  · go_upto_region 18 with fail
                    refine PrintLast.start_ (n := 10) (S := fun w' => Bx w.heap.size r bx (.cells #[.int .i64 2, .int .i64 x] 30 (0, 0)) w') (ds := []) #[false, false, false, false, false, false, false, false, false, false] (by kernel_rfl) rfl rfl (HBa.out.below HJa.out (below_drew (Below.refl _ _))) (fun hHeld => ?_)
                    have HJd := Aside0.mk (HJa.out.below (below_drew (Below.refl _ _)))
                    generalize wa.drew = w4 at HJd hHeld ⊢
                    refine PrintLast.pure_ (i := 0) (N := some 70) (v := ?_) (a' := ?_) #[true, false, false, false, false, false, false, false, false, false] rfl rfl (by kernel_rfl) (fun _ _ _ h => h) (Or.inl ⟨by rfl, ?_⟩) ?_ ?_
                    rotate_left
                    · intro w'
                      go_simp
                      with_reducible rfl
                    rotate_left
                    · simp only [Act.put, List.setIfInBounds_toArray, List.set_cons_zero, List.set_cons_succ]
                      rfl
                    refine PrintLast.pure_ (i := 1) (N := some 71) (v := ?_) (a' := ?_) #[true, true, false, false, false, false, false, false, false, false] rfl rfl (by kernel_rfl) (fun _ _ _ h => h) (Or.inl ⟨by rfl, ?_⟩) ?_ ?_
                    rotate_left
                    · intro w'
                      go_simp
                      with_reducible rfl
                    rotate_left
                    · simp only [Act.put, List.setIfInBounds_toArray, List.set_cons_zero, List.set_cons_succ]
                      rfl
                    refine PrintLast.take_ (i := 2) (N := some 72) (v := .int .i64 x) (a' := ?_) #[true, true, true, false, false, false, false, false, false, false] rfl rfl (by kernel_rfl) (fun _ _ _ h => h) (Or.inl ⟨by rfl, ?_⟩) hHeld ?_ ?_
                    · intro w' hS
                      have hc := hS.fld
                      go_simp
                    rotate_left
                    · simp only [Act.put, List.setIfInBounds_toArray, List.set_cons_zero, List.set_cons_succ]
                      rfl
                    refine PrintLast.pure_ (i := 4) (N := some 74) (v := ?_) (a' := ?_) #[true, true, true, false, true, false, false, false, false, false] rfl rfl (by kernel_rfl) (fun _ _ _ h => h) (Or.inl ⟨by rfl, ?_⟩) ?_ ?_
                    rotate_left
                    · intro w'
                      go_simp
                      with_reducible rfl
                    rotate_left
                    · simp only [Act.put, List.setIfInBounds_toArray, List.set_cons_zero, List.set_cons_succ]
                      rfl
                    refine PrintLast.pure_ (i := 5) (N := some 75) (v := ?_) (a' := ?_) #[true, true, true, false, true, true, false, false, false, false] rfl rfl (by kernel_rfl) (fun _ _ _ h => h) (Or.inl ⟨by rfl, ?_⟩) ?_ ?_
                    rotate_left
                    · intro w'
                      go_simp
                      with_reducible rfl
                    rotate_left
                    · simp only [Act.put, List.setIfInBounds_toArray, List.set_cons_zero, List.set_cons_succ]
                      rfl
                    refine PrintLast.take_ (i := 6) (N := some 76) (v := .int .i64 x) (a' := ?_) #[true, true, true, false, true, true, true, false, false, false] rfl rfl (by kernel_rfl) (fun _ _ _ h => h) (Or.inl ⟨by rfl, ?_⟩) hHeld ?_ ?_
                    · intro w' hS
                      have hc := hS.fld
                      go_simp
                    rotate_left
                    · simp only [Act.put, List.setIfInBounds_toArray, List.set_cons_zero, List.set_cons_succ]
                      rfl
                    refine PrintLast.one_ (i := 3) (N := some 73) #[true, true, true, true, true, true, true, false, false, false] rfl rfl (by kernel_rfl) (by decide) (fun K hK => ?_)
                    refine PrintLast.goes_ Try.func14 (by kernel_rfl) rfl #[.pointer (some ⟨w.heap.size, 0, none⟩), .int .i64 x] (by rfl) rfl rfl (by first | rfl | (simp only [List.map_toArray, List.map_cons, List.map_nil]; rfl)) ?_
                    refine (unpinX_none HJd.out.st x h0).mono ?_
                    rintro e w5 ⟨rfl, hX⟩
                    refine ⟨_, rfl, ?_⟩
                    have HJ1 := Aside0.mk (HJd.out.epo hX)
                    refine hK.out _ _ (hHeld.epo hX) (fun hHeld => ?_)
                    clear hK K
                    refine PrintLast.norm_ (a' := ?_) ?_ ?_
                    rotate_left
                    · show Act.put _ (some 73) _ = _
                      simp only [Act.put, List.setIfInBounds_toArray, List.set_cons_zero, List.set_cons_succ]
                      rfl
                    clear hX
                    refine PrintLast.one_ (i := 7) (N := some 77) #[true, true, true, true, true, true, true, true, false, false] rfl rfl (by kernel_rfl) (by decide) (fun K hK => ?_)
                    refine PrintLast.goes_ Try.func22 (by kernel_rfl) rfl #[.pointer (some ⟨r, 0, none⟩), .int .i64 x] (by rfl) rfl rfl (by first | rfl | (simp only [List.map_toArray, List.map_cons, List.map_nil]; rfl)) ?_
                    refine (unpinD_none HJ1.out HL8.out x h0).mono ?_
                    rintro e w5 ⟨rfl, hJ2, hF⟩
                    refine ⟨_, rfl, ?_⟩
                    have HJ2 := Aside0.mk hJ2
                    refine hK.out _ _ (hHeld.doc HJ1.out hF) (fun hHeld => ?_)
                    clear hK K
                    refine PrintLast.norm_ (a' := ?_) ?_ ?_
                    rotate_left
                    · show Act.put _ (some 77) _ = _
                      simp only [Act.put, List.setIfInBounds_toArray, List.set_cons_zero, List.set_cons_succ]
                      rfl
                    clear hJ2 hF
                    have HB2 := Aside0.mk hHeld
                    refine PrintLast.pure_ (i := 8) (N := some 78) (v := ?_) (a' := ?_) #[true, true, true, true, true, true, true, true, true, false] rfl rfl (by kernel_rfl) (fun _ _ _ h => h) (Or.inl ⟨by rfl, ?_⟩) ?_ ?_
                    rotate_left
                    · intro w'
                      go_simp
                      with_reducible rfl
                    rotate_left
                    · simp only [Act.put, List.setIfInBounds_toArray, List.set_cons_zero, List.set_cons_succ]
                      rfl
                    refine PrintLast.pure_ (i := 9) (N := some 9) (v := ?_) (a' := ?_) #[true, true, true, true, true, true, true, true, true, true] rfl rfl (by kernel_rfl) (fun _ _ _ h => h) (Or.inl ⟨by rfl, ?_⟩) ?_ ?_
                    rotate_left
                    · intro w'
                      go_simp
                      with_reducible rfl
                    rotate_left
                    · simp only [Act.put, List.setIfInBounds_toArray, List.set_cons_zero, List.set_cons_succ]
                      rfl
                    refine PrintLast.done_ (by kernel_rfl) ?_
                    go_wp2_with fail
                    go_meet
                    exact ⟨rfl, ⟨S, now, L, by omega, by omega, (Nat.le_succ_of_le HLL.out), HJ2.out, HB2.out⟩⟩
                  · go_upto_region 18 with fail
                    refine PrintLast.start_ (n := 10) (S := fun w' => Bx w.heap.size r bx (.cells #[.int .i64 2, .int .i64 x] 30 (0, 0)) w') (ds := []) #[false, false, false, false, false, false, false, false, false, false] (by kernel_rfl) rfl rfl (HBa.out.below HJa.out (below_drew (Below.refl _ _))) (fun hHeld => ?_)
                    have HJd := Aside0.mk (HJa.out.below (below_drew (Below.refl _ _)))
                    generalize wa.drew = w4 at HJd hHeld ⊢
                    refine PrintLast.pure_ (i := 0) (N := some 70) (v := ?_) (a' := ?_) #[true, false, false, false, false, false, false, false, false, false] rfl rfl (by kernel_rfl) (fun _ _ _ h => h) (Or.inl ⟨by rfl, ?_⟩) ?_ ?_
                    rotate_left
                    · intro w'
                      go_simp
                      with_reducible rfl
                    rotate_left
                    · simp only [Act.put, List.setIfInBounds_toArray, List.set_cons_zero, List.set_cons_succ]
                      rfl
                    refine PrintLast.pure_ (i := 1) (N := some 71) (v := ?_) (a' := ?_) #[true, true, false, false, false, false, false, false, false, false] rfl rfl (by kernel_rfl) (fun _ _ _ h => h) (Or.inl ⟨by rfl, ?_⟩) ?_ ?_
                    rotate_left
                    · intro w'
                      go_simp
                      with_reducible rfl
                    rotate_left
                    · simp only [Act.put, List.setIfInBounds_toArray, List.set_cons_zero, List.set_cons_succ]
                      rfl
                    refine PrintLast.take_ (i := 2) (N := some 72) (v := .int .i64 x) (a' := ?_) #[true, true, true, false, false, false, false, false, false, false] rfl rfl (by kernel_rfl) (fun _ _ _ h => h) (Or.inl ⟨by rfl, ?_⟩) hHeld ?_ ?_
                    · intro w' hS
                      have hc := hS.fld
                      go_simp
                    rotate_left
                    · simp only [Act.put, List.setIfInBounds_toArray, List.set_cons_zero, List.set_cons_succ]
                      rfl
                    refine PrintLast.pure_ (i := 4) (N := some 74) (v := ?_) (a' := ?_) #[true, true, true, false, true, false, false, false, false, false] rfl rfl (by kernel_rfl) (fun _ _ _ h => h) (Or.inl ⟨by rfl, ?_⟩) ?_ ?_
                    rotate_left
                    · intro w'
                      go_simp
                      with_reducible rfl
                    rotate_left
                    · simp only [Act.put, List.setIfInBounds_toArray, List.set_cons_zero, List.set_cons_succ]
                      rfl
                    refine PrintLast.pure_ (i := 5) (N := some 75) (v := ?_) (a' := ?_) #[true, true, true, false, true, true, false, false, false, false] rfl rfl (by kernel_rfl) (fun _ _ _ h => h) (Or.inl ⟨by rfl, ?_⟩) ?_ ?_
                    rotate_left
                    · intro w'
                      go_simp
                      with_reducible rfl
                    rotate_left
                    · simp only [Act.put, List.setIfInBounds_toArray, List.set_cons_zero, List.set_cons_succ]
                      rfl
                    refine PrintLast.take_ (i := 6) (N := some 76) (v := .int .i64 x) (a' := ?_) #[true, true, true, false, true, true, true, false, false, false] rfl rfl (by kernel_rfl) (fun _ _ _ h => h) (Or.inl ⟨by rfl, ?_⟩) hHeld ?_ ?_
                    · intro w' hS
                      have hc := hS.fld
                      go_simp
                    rotate_left
                    · simp only [Act.put, List.setIfInBounds_toArray, List.set_cons_zero, List.set_cons_succ]
                      rfl
                    refine PrintLast.one_ (i := 3) (N := some 73) #[true, true, true, true, true, true, true, false, false, false] rfl rfl (by kernel_rfl) (by decide) (fun K hK => ?_)
                    refine PrintLast.goes_ Try.func14 (by kernel_rfl) rfl #[.pointer (some ⟨w.heap.size, 0, none⟩), .int .i64 x] (by rfl) rfl rfl (by first | rfl | (simp only [List.map_toArray, List.map_cons, List.map_nil]; rfl)) ?_
                    refine (unpinX_some HJd.out.st x h0).mono ?_
                    rintro e w5 ⟨rfl, hX⟩
                    refine ⟨_, rfl, ?_⟩
                    have HJ1 := Aside0.mk (HJd.out.epo hX)
                    refine hK.out _ _ (hHeld.epo hX) (fun hHeld => ?_)
                    clear hK K
                    refine PrintLast.norm_ (a' := ?_) ?_ ?_
                    rotate_left
                    · show Act.put _ (some 73) _ = _
                      simp only [Act.put, List.setIfInBounds_toArray, List.set_cons_zero, List.set_cons_succ]
                      rfl
                    clear hX
                    refine PrintLast.one_ (i := 7) (N := some 77) #[true, true, true, true, true, true, true, true, false, false] rfl rfl (by kernel_rfl) (by decide) (fun K hK => ?_)
                    refine PrintLast.goes_ Try.func22 (by kernel_rfl) rfl #[.pointer (some ⟨r, 0, none⟩), .int .i64 x] (by rfl) rfl rfl (by first | rfl | (simp only [List.map_toArray, List.map_cons, List.map_nil]; rfl)) ?_
                    refine (unpinD_some HJ1.out HL8.out x h0).mono ?_
                    rintro e w5 ⟨rfl, hJ2, hF⟩
                    refine ⟨_, rfl, ?_⟩
                    have HJ2 := Aside0.mk hJ2
                    refine hK.out _ _ (hHeld.doc HJ1.out hF) (fun hHeld => ?_)
                    clear hK K
                    refine PrintLast.norm_ (a' := ?_) ?_ ?_
                    rotate_left
                    · show Act.put _ (some 77) _ = _
                      simp only [Act.put, List.setIfInBounds_toArray, List.set_cons_zero, List.set_cons_succ]
                      rfl
                    clear hJ2 hF
                    have HB2 := Aside0.mk hHeld
                    refine PrintLast.pure_ (i := 8) (N := some 78) (v := ?_) (a' := ?_) #[true, true, true, true, true, true, true, true, true, false] rfl rfl (by kernel_rfl) (fun _ _ _ h => h) (Or.inl ⟨by rfl, ?_⟩) ?_ ?_
                    rotate_left
                    · intro w'
                      go_simp
                      with_reducible rfl
                    rotate_left
                    · simp only [Act.put, List.setIfInBounds_toArray, List.set_cons_zero, List.set_cons_succ]
                      rfl
                    refine PrintLast.pure_ (i := 9) (N := some 9) (v := ?_) (a' := ?_) #[true, true, true, true, true, true, true, true, true, true] rfl rfl (by kernel_rfl) (fun _ _ _ h => h) (Or.inl ⟨by rfl, ?_⟩) ?_ ?_
                    rotate_left
                    · intro w'
                      go_simp
                      with_reducible rfl
                    rotate_left
                    · simp only [Act.put, List.setIfInBounds_toArray, List.set_cons_zero, List.set_cons_succ]
                      rfl
                    refine PrintLast.done_ (by kernel_rfl) ?_
                    go_wp2_with fail
                    go_meet
                    exact ⟨rfl, ⟨S.set x.toNat 0, now, L, by omega, by omega, (Nat.le_succ_of_le HLL.out), HJ2.out, HB2.out⟩⟩
                · by_cases k3 : kd = 3
                  · subst k3
                    go_wp2_with fail
                    refine (retireD HJa.out (by have := HLL.out; omega) x).mono ?_
                    rintro e w3 ⟨rfl, hJ, hF⟩
                    have HJ1 := Aside0.mk hJ
                    have HB1 := Aside0.mk (HBa.out.doc HJa.out hF)
                    have e1 := HB1.out.fld
                    clear hJ hF
                    go_wp2_with fail
                    refine (retire_c HJ1.out.st (by have := HLL.out; omega) x).mono ?_
                    rintro e w4 ⟨rfl, hX⟩
                    have HJ2 := Aside0.mk (HJ1.out.epo hX)
                    have HB2 := Aside0.mk (HB1.out.epo hX)
                    clear hX
                    go_wp2_with fail
                    go_meet
                    exact ⟨rfl, ⟨S, now, (x, now) :: L, by omega, by omega, (Nat.succ_le_succ HLL.out), HJ2.out, HB2.out⟩⟩
                  · by_cases k4 : kd = 4
                    · subst k4
                      go_wp2_with fail
                      refine (reclaim_c HJa.out.st (by have := HLL.out; omega)).mono ?_
                      rintro e w3 ⟨I, M, v, rfl, hR, hM, hX, hO, hOw⟩
                      have HSP := Aside0.mk (recl_split (now := now) hR hM rfl)
                      have HJ1 := Aside0.mk (HJa.out.epo hX)
                      have HB1 := Aside0.mk (HBa.out.epo hX)
                      have HLM : Aside0 (M.length ≤ k + 1) := ⟨by have h1 := hR.perm.length_eq; have h2 := HLL.out; rw [List.length_append] at h1; omega⟩
                      have HO : Aside0 (w3.ownsRow wa.heap.size 3 1 v (I.map Prod.fst).length (nums .i64 (I.map Prod.fst))) := ⟨by rw [List.length_map]; exact hO⟩
                      have HRD : Aside0 (∀ w2, Jh w w.heap.size r now S M now S n L w2 → Calls Try.prog 25 #[.pointer (some ⟨r, 0, none⟩)] w2 fun e w' => ∃ A c, e = .returned (.slice A (I.map Prod.fst).length c) ∧ ReadsInt w' .i64 A (I.map Prod.fst).length (I.map Prod.fst) ∧ Jh w w.heap.size r now S M now S n M w' ∧ Fr (fun k => k = r) w2 w') := ⟨fun w2 h2 => reclaimD h2 HL8.out (by have := HLL.out; omega) (by rw [goes_take HL8.out]; exact HSP.out.1) (by rw [goes_take HL8.out]; exact HSP.out.2)⟩
                      have HRL : Aside0 (r < wa.heap.size) := ⟨by obtain ⟨K, hR, _⟩ := HJa.out.rf; exact hR.lt⟩
                      clear hR hM hX hO hOw HSP
                      generalize I.map Prod.fst = Z at HO HRD
                      go_wp2_with fail
                      refine (HRD.out _ HJ1.out).mono ?_
                      rintro e w4 ⟨A2, cc, rfl, hI2, hJ2, hF⟩
                      have HJ2 := Aside0.mk hJ2
                      have HB2 := Aside0.mk (HB1.out.doc HJ1.out hF)
                      have HO2 := Aside0.mk (own_fr HO.out hF (fun k hk e => by have h1 := (HO.out.lt k hk).1; have h2 := HRL.out; omega))
                      obtain ⟨A1, c1', rfl, hI1⟩ := own_reads HO2.out
                      have HIC : Aside0 (Calls Try.prog 24 #[.slice A1 Z.length c1', .slice A2 Z.length cc] w4 fun e w' => e = .returned (.bool true) ∧ Below w4.heap.size w4 w') := ⟨(ints_c Z Z A1 A2 c1' cc w4 hI1 hI2).mono (fun e w' h => ⟨by rw [h.1]; simp, h.2⟩)⟩
                      clear hJ2 hF hI1 hI2 HO
                      go_wp2_with fail
                      refine HIC.out.mono ?_
                      rintro e w5 ⟨rfl, hB5⟩
                      have HJ5 := Aside0.mk (HJ2.out.below hB5)
                      have HB5 := Aside0.mk (HB2.out.below HJ2.out hB5)
                      clear hB5
                      go_wp2_with fail
                      go_meet
                      exact ⟨rfl, ⟨S, now, M, by omega, by omega, HLM.out, HJ5.out, HB5.out⟩⟩
                    · go_wp2_with fail
                      go_meet
                      exact ⟨rfl, ⟨S, now, L, by omega, by omega, (Nat.le_succ_of_le HLL.out), HJa.out, HBa.out⟩⟩
          case rest =>
            obtain ⟨rfl, HMD⟩ := hcut
            clear HJa HBa d1
            obtain ⟨S2, now2, L2, a1, a2, a3, hj, hb⟩ := HMD.out
            have HJm := Aside0.mk hj
            have HBm := Aside0.mk hb
            have HL2 := Aside0.mk a3
            clear hj hb HMD
            go_wp2_with fail
            refine (waiting_c HJm.out.st (by have := HL2.out; omega)).mono ?_
            rintro e w6 ⟨v, N, rfl, hP, hS, hO, hB6⟩
            obtain rfl := sortV_eq hP hS
            obtain ⟨A5, c5, rfl⟩ := own_slice hO
            have HSL : Aside0 ((sortV L2).length = L2.length) := ⟨(sortV_perm L2).length_eq⟩
            have HO6 := Aside0.mk hO
            have HJ6 := Aside0.mk (HJm.out.below hB6)
            have HB6 := Aside0.mk (HBm.out.below HJm.out hB6)
            have HL6 := Aside0.mk (HJ6.out.st.len)
            clear hP hS hO hB6
            have hf := HB6.out.fld
            have hn := nowD HJ6.out
            obtain ⟨B, d, hlst, hCB⟩ := listD HJ6.out
            have HCB := Aside0.mk hCB
            have HJD := Aside0.mk (fun a : Nat => HJ6.out.below (pw_below_drewN (Below.refl _ _) a))
            have HP1 := Aside0.mk (fun a : Nat => pinned_s (HJD.out a).st x)
            have HP2 := Aside0.mk (fun a : Nat => pinnedD (HJD.out a) HL6.out x)
            have HM1 := Aside0.mk (fun a : Nat => min_s (HJD.out a).st)
            have HM2 := Aside0.mk (fun a : Nat => minD (HJD.out a) HL6.out)
            have HN1 := Aside0.mk (fun a : Nat => now_s (HJD.out a).st)
            rw [HSL.out]
            generalize pinnedV S2 n x = pv at HP1 HP2
            generalize minV S2 n now2 = mv at HM1 HM2
            have gl2 : (L2.length : Int) ≤ 1000 := by omega
            clear hCB
            go_wp2_with fail
            go_quiet ((first | (go_at_call 10; exact Calls.quiet_of_same (HN1.out _)) | (go_at_call 18; exact Calls.quiet_of_same (HM1.out _)) | (go_at_call 26; exact Calls.quiet_of_same (HM2.out _)) | (go_at_call 13; exact Calls.quiet_of_same (HP1.out _)) | (go_at_call 27; exact Calls.quiet_of_same (HP2.out _))))
            have HJ7 := Aside0.mk (HJ6.out.below (pw_below_drewN (Below.refl _ _) nq))
            have HO7 : Aside0 ((w6.drewN nq).ownsRow wc.heap.size 63 2 (.slice A5 (sortV L2).length c5) (sortV L2).length (flat (sortV L2))) := HO6
            have HC7 : Aside0 (kI.C (w6.drewN nq) B L2.length (sortV L2)) := HCB
            have hl7 : (w6.drewN nq).cell? ⟨r, 2, none⟩ = some (.slice B L2.length d) := hlst
            clear hf hn hlst HJD HP1 HP2 HM1 HM2 HN1 HO6 HCB HJ6 HB6
            generalize w6.drewN nq = w7 at HJ7 HO7 HC7 hl7 ⊢
            go_wp2_with fail
            go_loopw [140] (fun j wi => ∃ t : Nat, j = .int .i64 t ∧ t ≤ L2.length ∧ Aside0 (Below w7.heap.size w7 wi)) (fun j _ => L2.length - (intOf j).toNat)
            case atStart => exact ⟨0, rfl, Nat.zero_le _, ⟨Below.refl _ _⟩⟩
            case round =>
              obtain ⟨t, rfl, ht, HBW⟩ := hrel
              by_cases htl : t < L2.length
              · have g3 : (t : Int) < (L2.length : Int) := by omega
                have hts : t < (sortV L2).length := by rw [HSL.out]; exact htl
                obtain ⟨gx, rfl, r0, r1⟩ := at_own (own_fr HO7.out (Fr.of_below HBW.out (fun _ => False)) (fun _ _ h => h)) t hts
                obtain ⟨adb, rfl, q1, q2, q3⟩ := at_it (Kd.C_below HC7.out HBW.out) t htl hts
                have hl8 := pw_cell_below HBW.out hl7
                generalize (sortV L2)[t] = y at r0 r1 q1 q2 q3
                obtain ⟨y1, y2⟩ := y
                simp only at r0 r1 q1 q2 q3
                clear hts hl7
                go_wp2_with fail
                go_quiet (fail)
                have HBW2 := Aside0.mk (below_step HBW.out (pw_below_drewN (Below.refl _ _) nq))
                go_wp2_with fail
                go_roundw
                case rel => exact ⟨t + 1, by first | rfl | go_num, htl, HBW2⟩
                case measure => first | (simp [intOf]; done) | (simp [intOf]; omega)
              · have he : t = L2.length := by omega
                subst he
                have HJ8 := Aside0.mk (HJ7.out.below HBW.out)
                clear hl7
                go_wp2_with fail
                go_roundw
                case rel => exact ⟨k + 1, S2, now2, L2, by first | rfl | go_num, hlt, a1, by omega, ⟨HL2.out⟩, HJ8⟩
                case measure => first | (simp [intOf]; done) | (simp [intOf]; omega)
        · have he : k = l.length := by omega
          subst he
          go_wp2_with fail
          refine (lives_c _).mono ?_
          rintro e w3 ⟨rfl, hB3⟩
          have HB3 := Aside0.mk (below_step HJ.out.bel hB3)
          clear hB3
          go_wp2_with fail
          go_ret
          exact ⟨rfl, HB3.out⟩
  · have HN := Aside0.mk (new_nil pins (by omega) w)
    have HR := Aside0.mk (fun (w2 : World) => new_r_out (w := w2) pins hp)
    clear hp
    go_enter Try.func7, Try.ntmps7
    go_wp2_with fail
    refine HN.out.mono ?_
    rintro e w1 ⟨rfl, rfl⟩
    go_wp2_with fail
    refine (HR.out _).mono ?_
    rintro e w2 ⟨rfl, rfl⟩
    go_wp2_with fail
    refine (lives_c _).mono ?_
    rintro e w3 ⟨rfl, hB3⟩
    have HB3 := Aside0.mk hB3
    clear hB3
    go_wp2_with fail
    go_ret
    exact ⟨rfl, HB3.out⟩
end Go.Proofs.Ytpfeelcdbnldfaa
