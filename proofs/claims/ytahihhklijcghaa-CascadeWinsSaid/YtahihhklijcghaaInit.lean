/-
  container/heap.Init over the pile.
-/
import Derived.Test.YtahihhklijcghaaPush
namespace Go.Proofs.Ytahihhklijcghaa
open Go.RowKit Go.Proofs.YtahihhklijcghaaW.PrintWords PCascadeSorts
set_option linter.unusedVariables false
set_option linter.unusedSimpArgs false
theorem halve (n : Nat) : (n : Int).tdiv 2 = ((n / 2 : Nat) : Int) := by
  rw [Int.tdiv_eq_ediv_of_nonneg (by omega)]
  omega
theorem down_z {W : World} {p g c m s : Nat} {L : List It} {x : Int} (hx : x = (s : Int)) {y : Int} (hy : y = (m : Int)) (h : Pt W p (.slice (some ⟨g, 0, none⟩) L.length c)) (hr : Row W g c L) (hn : L.length ≤ 1000000) (hm : m ≤ L.length) (hs0 : s ≤ m) (hu : Hp.Down lessV L m s s) :
    Calls Try.prog 36 #[.iface 50 (.pointer (some ⟨p, 0, none⟩)), .int .i64 x, .int .i64 y] W fun e w' => ∃ (b : Bool) (M : List It), e = .returned (.bool b) ∧ M.Perm L ∧ Hp.HeapS lessV M m s ∧ (∀ k, m ≤ k → Hp.at_ M k = Hp.at_ L k) ∧ Row w' g c M ∧ Fr (fun k => k = g) W w' := by
  subst hx hy
  exact down_c h hr hn hm hs0 hu
set_option maxHeartbeats 1000000 in
set_option maxRecDepth 100000 in
theorem init_c {W : World} {p g c n : Nat} {L : List It} (h : Pt W p (.slice (some ⟨g, 0, none⟩) n c)) (hr : Row W g c L) (hl : L.length = n) (hn : n ≤ 1000000) :
    Calls Try.prog 27 #[.iface 50 (.pointer (some ⟨p, 0, none⟩))] W fun e w' => ∃ M : List It, e = .returned (.tuple #[]) ∧ M.Perm L ∧ Hp.Heap lessV M n ∧ Row w' g c M ∧ Fr (fun k => k = g) W w' := by
  have HE := Aside0.mk h
  have HNE := Aside0.mk (h.ne hr)
  have HR0 := Aside0.mk hr
  have hh := halve n
  have gn : (n : Int) ≤ 1000000 := by omega
  have gn2 : ((n / 2 : Nat) : Int) ≤ 1000000 := by omega
  generalize hq : n / 2 = q at *
  have HQ := Aside0.mk hq
  clear hr h hq
  go_enter Try.func27, Try.ntmps27
  have hm1 : (method 219 50 (.pointer (some ⟨p, 0, none⟩)) "Len").run Try.prog W = .ok (28, _) W := m_len HE.out.cell 218
  go_wp2_with fail
  refine (len_c _ _ _ _).mono ?_
  rintro e w1 ⟨rfl, rfl⟩
  clear hm1
  go_wp2_with fail
  go_loopw [3] (fun v wr => ∃ (t : Nat) (M : List It), v = .int .i64 ((t : Int) - 1) ∧ t ≤ n ∧ M.length = n ∧ Aside0 (Hp.HeapS lessV M n t) ∧ Aside0 (M.Perm L) ∧ Aside0 (Row wr g c M) ∧ Aside0 (Fr (fun k => k = g) w1 wr)) (fun v _ => (intOf v + 1).toNat)
  case atStart => exact ⟨q, L, rfl, by have := HQ.out; omega, hl, ⟨fun k k0 k1 ks => by have := HQ.out; omega⟩, ⟨.refl _⟩, HR0, ⟨Fr.refl _ _⟩⟩
  case round =>
    clear HR0 hh gn2 HQ
    obtain ⟨t, M, rfl, ht, hM, HU, HP, HR, HF⟩ := hrel
    by_cases h0 : t = 0
    · subst h0
      have HH := Aside0.mk HU.out.heap
      clear ht
      go_wp2_with fail
      refine bodyPost_end (results_none rfl _ _ _) rfl ?_
      exact ⟨M, rfl, HP.out, HH.out, HR.out, HF.out⟩
    · obtain ⟨s, rfl⟩ : ∃ s, t = s + 1 := ⟨t - 1, by omega⟩
      have es : ((s + 1 : Nat) : Int) - 1 = (s : Int) := by omega
      rw [es]
      have gs : (s : Int) ≤ 1000000 := by omega
      have HD := Aside0.mk (Hp.Down.more HU.out)
      have HE2 := Aside0.mk (HE.out.fr HF.out HNE.out)
      rw [← hM] at HE2
      go_wp2_with fail
      refine (down_z (m := n) (s := s) (by first | rfl | omega) (by first | rfl | omega) HE2.out HR.out (by omega) (by omega) (by omega) HD.out).mono ?_
      rintro e w2 ⟨b, M2, rfl, hP, hH, hK, hR, hF⟩
      have HP2 := Aside0.mk (hP.trans HP.out)
      have HH2 := Aside0.mk hH
      have HR2 := Aside0.mk hR
      have HF2 := Aside0.mk (HF.out.trans hF (fun i hi => Or.inl hi))
      have hM2 : M2.length = n := hP.length_eq.trans hM
      clear hP hH hK hR hF HR HF HD HE2
      go_wp2_with fail
      go_roundw
      case rel => exact ⟨s, M2, by first | rfl | (congr 1), by omega, hM2, HH2, HP2, HR2, HF2⟩
      case measure => simp [intOf]
end Go.Proofs.Ytahihhklijcghaa
