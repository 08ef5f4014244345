/-
  container/heap's down over the pile.
-/
import Derived.Test.YtahihhklijcghaaMeth
import Derived.Test.YtahihhklijcghaaOrd
namespace Go.Proofs.Ytahihhklijcghaa
open Go.RowKit Go.Proofs.YtahihhklijcghaaW.PrintWords PCascadeSorts
set_option linter.unusedVariables false
set_option linter.unusedSimpArgs false
/-- A pile's head lies in block p. -/
def Pt (W : World) (p : Nat) (v : Value) : Prop := W.heap[p]? = some (.cells #[v] 52 (0, 0))
section
variable {W W' : World} {p : Nat} {v : Value}
theorem Pt.cell (h : Pt W p v) : W.cell? ⟨p, 0, none⟩ = some v := by
  rw [cell_of_row W p 0 _ 52 (0, 0) h]
  rfl
theorem Pt.frozen (h : Pt W p v) : W.frozen? ⟨p, 0, none⟩ = false := by
  unfold World.frozen?
  rw [h]
  simp
theorem Pt.lt (h : Pt W p v) : p < W.heap.size := blk_lt h
theorem Pt.fr {T : Nat → Prop} (h : Pt W p v) (hf : Fr T W W') (hp : ¬ T p) : Pt W' p v := (hf.block p h.lt hp).trans h
theorem Pt.set_ (h : Pt W p v) (u : Value) : Pt (W.setCell ⟨p, 0, none⟩ u) p u := by
  unfold Pt
  rw [set_block h]
  simp
end
theorem Pt.ne {W : World} {p g c : Nat} {v : Value} {L : List It} (h : Pt W p v) (hr : Row W g c L) : p ≠ g := by
  rintro rfl
  obtain ⟨cur, hc, _⟩ := hr
  rw [show W.heap[p]? = _ from h] at hc
  cases hc
theorem pless_c' {W : World} {g c m : Nat} {L : List It} (h : Row W g c L) (hm : L.length = m) (i j : Nat) (hi : i < L.length) (hj : j < L.length) :
    Calls Try.prog 78 #[.slice (some ⟨g, 0, none⟩) m c, .int .i64 i, .int .i64 j] W fun e w' => e = .returned (.bool (lessV (Hp.at_ L i) (Hp.at_ L j))) ∧ Below W.heap.size W w' := by
  subst hm
  rw [Hp.at_get hi, Hp.at_get hj]
  exact pless_c h i j hi hj
theorem pswap_c' {W : World} {g c m : Nat} {L : List It} (h : Row W g c L) (hm : L.length = m) (i j : Nat) (hi : i < L.length) (hj : j < L.length) :
    Calls Try.prog 80 #[.slice (some ⟨g, 0, none⟩) m c, .int .i64 i, .int .i64 j] W fun e w' => e = .returned (.tuple #[]) ∧ Row w' g c (Hp.swp L i j) ∧ Fr (fun k => k = g) W w' := by
  subst hm
  unfold Hp.swp
  rw [Hp.at_get hi, Hp.at_get hj]
  exact pswap_c h i j hi hj
theorem less_z {W : World} {g c m : Nat} {L : List It} (h : Row W g c L) (hm : L.length = m) (i j : Nat) (x y : Int) (hx : x = (i : Int)) (hy : y = (j : Int)) (hi : i < L.length) (hj : j < L.length) :
    Calls Try.prog 78 #[.slice (some ⟨g, 0, none⟩) m c, .int .i64 x, .int .i64 y] W fun e w' => e = .returned (.bool (lessV (Hp.at_ L i) (Hp.at_ L j))) ∧ Below W.heap.size W w' := by
  subst hx hy
  exact pless_c' h hm i j hi hj
theorem swap_z {W : World} {g c m : Nat} {L : List It} (h : Row W g c L) (hm : L.length = m) (i j : Nat) (x y : Int) (hx : x = (i : Int)) (hy : y = (j : Int)) (hi : i < L.length) (hj : j < L.length) :
    Calls Try.prog 80 #[.slice (some ⟨g, 0, none⟩) m c, .int .i64 x, .int .i64 y] W fun e w' => e = .returned (.tuple #[]) ∧ Row w' g c (Hp.swp L i j) ∧ Fr (fun k => k = g) W w' := by
  subst hx hy
  exact pswap_c' h hm i j hi hj

set_option maxHeartbeats 2000000 in
set_option maxRecDepth 100000 in
theorem down_c {W : World} {p g c m s : Nat} {L : List It} (h : Pt W p (.slice (some ⟨g, 0, none⟩) L.length c)) (hr : Row W g c L) (hn : L.length ≤ 1000000) (hm : m ≤ L.length) (hs0 : s ≤ m) (hu : Hp.Down lessV L m s s) :
    Calls Try.prog 36 #[.iface 50 (.pointer (some ⟨p, 0, none⟩)), .int .i64 s, .int .i64 m] W fun e w' => ∃ (b : Bool) (M : List It), e = .returned (.bool b) ∧ M.Perm L ∧ Hp.HeapS lessV M m s ∧ (∀ k, m ≤ k → Hp.at_ M k = Hp.at_ L k) ∧ Row w' g c M ∧ Fr (fun k => k = g) W w' := by
  have HE := Aside0.mk h
  have HNE := Aside0.mk (h.ne hr)
  have HR0 := Aside0.mk hr
  have HU0 := Aside0.mk hu
  clear hr hu h
  go_enter Try.func36, Try.ntmps36
  go_wp2_with fail
  go_loopw [7] (fun v wr => ∃ (i : Nat) (M : List It), v = .int .i64 i ∧ i ≤ m ∧ M.length = L.length ∧ Aside0 (Hp.Down lessV M m s i) ∧ Aside0 (M.Perm L) ∧ Aside0 (∀ k, m ≤ k → Hp.at_ M k = Hp.at_ L k) ∧ Aside0 (Row wr g c M) ∧ Aside0 (Fr (fun k => k = g) W wr)) (fun v _ => m - (intOf v).toNat)
  case atStart => exact ⟨s, L, rfl, hs0, rfl, HU0, ⟨.refl _⟩, ⟨fun _ _ => rfl⟩, HR0, ⟨Fr.refl _ _⟩⟩
  case round =>
    clear HR0 HU0
    obtain ⟨i, M, rfl, hi, hM, HU, HP, HK, HR, HF⟩ := hrel
    by_cases h0 : m ≤ 2 * i + 1
    · have HH := Aside0.mk (HU.out.none h0)
      have g1 : (m : Int) ≤ 2 * (i : Int) + 1 := by omega
      clear h0
      go_wp2_with fail
      go_ret
      exact ⟨_, M, rfl, HP.out, HH.out, HK.out, HR.out, HF.out⟩
    · have g1 : ¬ ((m : Int) ≤ 2 * (i : Int) + 1) := by omega
      have gb : (i : Int) ≤ 1000000 := by omega
      by_cases h2 : 2 * i + 2 < m
      · have g2 : 2 * (i : Int) + 1 + 1 < (m : Int) := by omega
        have hE := HE.out.fr HF.out HNE.out
        have hm1 : (method 219 50 (.pointer (some ⟨p, 0, none⟩)) "Less").run Try.prog wr = .ok (78, _) wr := m_less hE.cell 218
        go_wp2_with fail
        refine (less_z HR.out hM (2 * i + 2) (2 * i + 1) _ _ (by omega) (by omega) (by omega) (by omega)).mono ?_
        rintro e w1 ⟨rfl, hB⟩
        have HF1 := Aside0.mk (HF.out.below hB)
        have HR1 := Aside0.mk (HR.out.fr (Fr.of_below hB (fun _ => False)) (fun h => h))
        clear hm1 hB HF HR hE
        cases hlv : lessV (Hp.at_ M (2 * i + 2)) (Hp.at_ M (2 * i + 1)) with
        | true =>
          have hs : ∀ k, 0 < k → k < m → (k - 1) / 2 = i → lessV (Hp.at_ M k) (Hp.at_ M (2 * i + 2)) = false := by
            intro k k0 k1 k2
            by_cases e : k = 2 * i + 2
            · subst e
              exact lessV_self _
            · have : k = 2 * i + 1 := by omega
              subst this
              exact lessV_ord.weak _ _ hlv
          clear hlv
          have HS := Aside0.mk hs
          clear hs
          have hE := HE.out.fr HF1.out HNE.out
          have hm1 : (method 219 50 (.pointer (some ⟨p, 0, none⟩)) "Less").run Try.prog w1 = .ok (78, _) w1 := m_less hE.cell 218
          go_wp2_with fail
          refine (less_z HR1.out hM (2 * i + 2) i _ _ (by omega) rfl (by omega) (by omega)).mono ?_
          rintro e w2 ⟨rfl, hB⟩
          have HF2 := Aside0.mk (HF1.out.below hB)
          have HR2 := Aside0.mk (HR1.out.fr (Fr.of_below hB (fun _ => False)) (fun h => h))
          clear hm1 hB HF1 HR1 hE
          cases hlv : lessV (Hp.at_ M (2 * i + 2)) (Hp.at_ M i) with
          | false =>
            have HH := Aside0.mk (HU.out.done (fun k k0 k1 k2 => lessV_ord.trans _ _ _ hlv (HS.out k k0 k1 k2)))
            clear hlv
            go_wp2_with fail
            go_ret
            exact ⟨_, M, rfl, HP.out, HH.out, HK.out, HR2.out, HF2.out⟩
          | true =>
            have HU2 := Aside0.mk (HU.out.step lessV_ord (j := 2 * i + 2) (by omega) (by omega) (by omega) (by omega) hlv HS.out)
            clear hlv
            have hE := HE.out.fr HF2.out HNE.out
            have hm1 : (method 219 50 (.pointer (some ⟨p, 0, none⟩)) "Swap").run Try.prog w2 = .ok (80, _) w2 := m_swap hE.cell 218
            go_wp2_with fail
            refine (swap_z HR2.out hM i (2 * i + 2) _ _ rfl (by omega) (by omega) (by omega)).mono ?_
            rintro e w3 ⟨rfl, hR3, hF3⟩
            have HR3 := Aside0.mk hR3
            have HF3 := Aside0.mk (HF2.out.trans hF3 (fun i hi => Or.inl hi))
            have HP3 := Aside0.mk ((Hp.swp_perm (L := M) (i := i) (j := 2 * i + 2) (by omega) (by omega)).trans HP.out)
            have HK3 : Aside0 (∀ k, m ≤ k → Hp.at_ (Hp.swp M i (2 * i + 2)) k = Hp.at_ L k) := ⟨fun k hk => by rw [Hp.at_swp (by omega) (by omega), if_neg (by omega), if_neg (by omega)]; exact HK.out k hk⟩
            clear hR3 hF3 hm1 hE
            go_wp2_with fail
            go_roundw
            case rel => exact ⟨2 * i + 2, Hp.swp M i (2 * i + 2), by congr 1, by omega, by rw [Hp.swp_length]; exact hM, HU2, HP3, HK3, HR3, HF3⟩
            case measure => simp [intOf]; omega
        | false =>
          have hs : ∀ k, 0 < k → k < m → (k - 1) / 2 = i → lessV (Hp.at_ M k) (Hp.at_ M (2 * i + 1)) = false := by
            intro k k0 k1 k2
            by_cases e : k = 2 * i + 2
            · subst e
              exact hlv
            · have : k = 2 * i + 1 := by omega
              subst this
              exact lessV_self _
          clear hlv
          have HS := Aside0.mk hs
          clear hs
          have hE := HE.out.fr HF1.out HNE.out
          have hm1 : (method 219 50 (.pointer (some ⟨p, 0, none⟩)) "Less").run Try.prog w1 = .ok (78, _) w1 := m_less hE.cell 218
          go_wp2_with fail
          refine (less_z HR1.out hM (2 * i + 1) i _ _ (by omega) rfl (by omega) (by omega)).mono ?_
          rintro e w2 ⟨rfl, hB⟩
          have HF2 := Aside0.mk (HF1.out.below hB)
          have HR2 := Aside0.mk (HR1.out.fr (Fr.of_below hB (fun _ => False)) (fun h => h))
          clear hm1 hB HF1 HR1 hE
          cases hlv : lessV (Hp.at_ M (2 * i + 1)) (Hp.at_ M i) with
          | false =>
            have HH := Aside0.mk (HU.out.done (fun k k0 k1 k2 => lessV_ord.trans _ _ _ hlv (HS.out k k0 k1 k2)))
            clear hlv
            go_wp2_with fail
            go_ret
            exact ⟨_, M, rfl, HP.out, HH.out, HK.out, HR2.out, HF2.out⟩
          | true =>
            have HU2 := Aside0.mk (HU.out.step lessV_ord (j := 2 * i + 1) (by omega) (by omega) (by omega) (by omega) hlv HS.out)
            clear hlv
            have hE := HE.out.fr HF2.out HNE.out
            have hm1 : (method 219 50 (.pointer (some ⟨p, 0, none⟩)) "Swap").run Try.prog w2 = .ok (80, _) w2 := m_swap hE.cell 218
            go_wp2_with fail
            refine (swap_z HR2.out hM i (2 * i + 1) _ _ rfl (by omega) (by omega) (by omega)).mono ?_
            rintro e w3 ⟨rfl, hR3, hF3⟩
            have HR3 := Aside0.mk hR3
            have HF3 := Aside0.mk (HF2.out.trans hF3 (fun i hi => Or.inl hi))
            have HP3 := Aside0.mk ((Hp.swp_perm (L := M) (i := i) (j := 2 * i + 1) (by omega) (by omega)).trans HP.out)
            have HK3 : Aside0 (∀ k, m ≤ k → Hp.at_ (Hp.swp M i (2 * i + 1)) k = Hp.at_ L k) := ⟨fun k hk => by rw [Hp.at_swp (by omega) (by omega), if_neg (by omega), if_neg (by omega)]; exact HK.out k hk⟩
            clear hR3 hF3 hm1 hE
            go_wp2_with fail
            go_roundw
            case rel => exact ⟨2 * i + 1, Hp.swp M i (2 * i + 1), by congr 1, by omega, by rw [Hp.swp_length]; exact hM, HU2, HP3, HK3, HR3, HF3⟩
            case measure => simp [intOf]; omega
      · have g2 : ¬ (2 * (i : Int) + 1 + 1 < (m : Int)) := by omega
        have hs : ∀ k, 0 < k → k < m → (k - 1) / 2 = i → lessV (Hp.at_ M k) (Hp.at_ M (2 * i + 1)) = false := by
          intro k k0 k1 k2
          have : k = 2 * i + 1 := by omega
          subst this
          exact lessV_self _
        have HS := Aside0.mk hs
        clear hs
        have hE := HE.out.fr HF.out HNE.out
        have hm1 : (method 219 50 (.pointer (some ⟨p, 0, none⟩)) "Less").run Try.prog wr = .ok (78, _) wr := m_less hE.cell 218
        go_wp2_with fail
        refine (less_z HR.out hM (2 * i + 1) i _ _ (by omega) rfl (by omega) (by omega)).mono ?_
        rintro e w2 ⟨rfl, hB⟩
        have HF2 := Aside0.mk (HF.out.below hB)
        have HR2 := Aside0.mk (HR.out.fr (Fr.of_below hB (fun _ => False)) (fun h => h))
        clear hm1 hB HF HR hE
        cases hlv : lessV (Hp.at_ M (2 * i + 1)) (Hp.at_ M i) with
        | false =>
          have HH := Aside0.mk (HU.out.done (fun k k0 k1 k2 => lessV_ord.trans _ _ _ hlv (HS.out k k0 k1 k2)))
          clear hlv
          go_wp2_with fail
          go_ret
          exact ⟨_, M, rfl, HP.out, HH.out, HK.out, HR2.out, HF2.out⟩
        | true =>
          have HU2 := Aside0.mk (HU.out.step lessV_ord (j := 2 * i + 1) (by omega) (by omega) (by omega) (by omega) hlv HS.out)
          clear hlv
          have hE := HE.out.fr HF2.out HNE.out
          have hm1 : (method 219 50 (.pointer (some ⟨p, 0, none⟩)) "Swap").run Try.prog w2 = .ok (80, _) w2 := m_swap hE.cell 218
          go_wp2_with fail
          refine (swap_z HR2.out hM i (2 * i + 1) _ _ rfl (by omega) (by omega) (by omega)).mono ?_
          rintro e w3 ⟨rfl, hR3, hF3⟩
          have HR3 := Aside0.mk hR3
          have HF3 := Aside0.mk (HF2.out.trans hF3 (fun i hi => Or.inl hi))
          have HP3 := Aside0.mk ((Hp.swp_perm (L := M) (i := i) (j := 2 * i + 1) (by omega) (by omega)).trans HP.out)
          have HK3 : Aside0 (∀ k, m ≤ k → Hp.at_ (Hp.swp M i (2 * i + 1)) k = Hp.at_ L k) := ⟨fun k hk => by rw [Hp.at_swp (by omega) (by omega), if_neg (by omega), if_neg (by omega)]; exact HK.out k hk⟩
          clear hR3 hF3 hm1 hE
          go_wp2_with fail
          go_roundw
          case rel => exact ⟨2 * i + 1, Hp.swp M i (2 * i + 1), by congr 1, by omega, by rw [Hp.swp_length]; exact hM, HU2, HP3, HK3, HR3, HF3⟩
          case measure => simp [intOf]; omega
end Go.Proofs.Ytahihhklijcghaa
