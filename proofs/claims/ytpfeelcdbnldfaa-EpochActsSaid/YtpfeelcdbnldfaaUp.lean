/-
  container/heap's up and down over the queue of the epochs.
-/
import Derived.Test.YtpfeelcdbnldfaaMeth
import Derived.Test.YtpfeelcdbnldfaaHp
namespace Go.Proofs.Ytpfeelcdbnldfaa
open Go.RowKit Go.Proofs.YtpfeelcdbnldfaaW.PrintWords
set_option linter.unusedVariables false
set_option linter.unusedSimpArgs false

theorem lessV_iff (a b : It) : lessV a b = true ↔ a.2 < b.2 ∨ (a.2 = b.2 ∧ a.1 < b.1) := by
  unfold lessV orV cmpV
  rw [decide_eq_true_iff]
  split <;> split <;> (try split) <;> (try split) <;> (try split) <;> omega
theorem lessV_not (a b : It) : lessV a b = false ↔ b.2 < a.2 ∨ (a.2 = b.2 ∧ b.1 ≤ a.1) := by
  rw [← Bool.not_eq_true, lessV_iff]
  omega
theorem lessV_ord : Hp.Ord lessV := ⟨fun a b c h1 h2 => by rw [lessV_not] at *; omega, fun a b h => by rw [lessV_iff] at h; rw [lessV_not]; omega⟩
theorem lessV_self (a : It) : lessV a a = false := by rw [lessV_not]; omega
theorem Ep.ne {W : World} {p n g c : Nat} {now : Int} {S : List Int} {v : Value} {L : List It} (h : Ep W p now S n v) (hr : Row W g c L) : p ≠ g := by
  rintro rfl
  obtain ⟨cur, hc, _⟩ := hr
  rw [h.2.2.2] at hc
  cases hc
theorem less_c' {W : World} {g c m : Nat} {L : List It} (h : Row W g c L) (hm : L.length = m) (i j : Nat) (hi : i < L.length) (hj : j < L.length) :
    Calls Try.prog 86 #[.slice (some ⟨g, 0, none⟩) m c, .int .i64 i, .int .i64 j] W fun e w' => e = .returned (.bool (lessV (Hp.at_ L i) (Hp.at_ L j))) ∧ Below W.heap.size W w' := by
  subst hm
  rw [Hp.at_get hi, Hp.at_get hj]
  exact less_c h i j hi hj
theorem swap_c' {W : World} {g c m : Nat} {L : List It} (h : Row W g c L) (hm : L.length = m) (i j : Nat) (hi : i < L.length) (hj : j < L.length) :
    Calls Try.prog 87 #[.slice (some ⟨g, 0, none⟩) m c, .int .i64 i, .int .i64 j] W fun e w' => e = .returned (.tuple #[]) ∧ Row w' g c (Hp.swp L i j) ∧ Fr (fun k => k = g) W w' := by
  subst hm
  unfold Hp.swp
  rw [Hp.at_get hi, Hp.at_get hj]
  exact swap_c h i j hi hj
theorem half {j : Nat} (h : ¬ j = 0) : ((j : Int) - 1).tdiv 2 = (((j - 1) / 2 : Nat) : Int) := by
  rw [Int.tdiv_eq_ediv_of_nonneg (by omega)]
  omega

set_option maxHeartbeats 1000000 in
set_option maxRecDepth 100000 in
theorem up_c {W : World} {p n g c : Nat} {now : Int} {S : List Int} {L : List It} (h : Ep W p now S n (.slice (some ⟨g, 0, none⟩) L.length c)) (hr : Row W g c L) (hn : L.length ≤ 1000000) (j : Nat) (hj : j < L.length) (hu : Hp.Up lessV L L.length j) :
    Calls Try.prog 45 #[.iface 72 (.pointer (some ⟨p, 10, none⟩)), .int .i64 j] W fun e w' => ∃ M : List It, e = .returned (.tuple #[]) ∧ M.Perm L ∧ Hp.Heap lessV M M.length ∧ Row w' g c M ∧ Fr (fun k => k = g) W w' := by
  have HE := Aside0.mk h
  have HNE := Aside0.mk (h.ne hr)
  have HR0 := Aside0.mk hr
  have HU0 := Aside0.mk hu
  clear hr hu h
  go_enter Try.func45, Try.ntmps45
  go_wp2_with fail
  go_loopw [1] (fun v wr => ∃ (j : Nat) (M : List It), v = .int .i64 j ∧ j < L.length ∧ M.length = L.length ∧ Aside0 (Hp.Up lessV M M.length j) ∧ Aside0 (M.Perm L) ∧ Aside0 (Row wr g c M) ∧ Aside0 (Fr (fun k => k = g) W wr)) (fun v _ => (intOf v).toNat)
  case atStart => exact ⟨j, L, rfl, hj, rfl, HU0, ⟨.refl _⟩, HR0, ⟨Fr.refl _ _⟩⟩
  case round =>
    clear HR0 HU0 hj
    obtain ⟨j, M, rfl, hj, hM, HU, HP, HR, HF⟩ := hrel
    by_cases h0 : j = 0
    · subst h0
      have HH := Aside0.mk HU.out.done0
      go_wp2_with fail
      refine bodyPost_end (results_none rfl _ _ _) rfl ?_
      exact ⟨M, rfl, HP.out, HH.out, HR.out, HF.out⟩
    · have g1 := half h0
      have gne : ¬ ((((j - 1) / 2 : Nat) : Int) = (j : Int)) := by omega
      have g2 : ((((j - 1) / 2 : Nat) : Int) == (j : Int)) = false := by simpa using gne
      have gb : (j : Int) ≤ 1000000 := by omega
      have gb0 : (1 : Int) ≤ j := by omega
      have hE := HE.out.fr HF.out HNE.out
      have hm : (method 234 72 (.pointer (some ⟨p, 10, none⟩)) "Less").run Try.prog wr = .ok (86, _) wr := m_less hE.cwaits 233
      go_wp2_with fail
      refine (less_c' HR.out hM j ((j - 1) / 2) (by omega) (by omega)).mono ?_
      rintro e w1 ⟨rfl, hB⟩
      have HF1 := Aside0.mk (HF.out.below hB)
      have HR1 := Aside0.mk (HR.out.fr (Fr.of_below hB (fun _ => False)) (fun h => h))
      clear hm hB HF HR hE
      cases hlv : lessV (Hp.at_ M j) (Hp.at_ M ((j - 1) / 2)) with
      | false =>
        have HH := Aside0.mk (HU.out.done hlv)
        clear hlv
        go_wp2_with fail
        refine bodyPost_end (results_none rfl _ _ _) rfl ?_
        exact ⟨M, rfl, HP.out, HH.out, HR1.out, HF1.out⟩
      | true =>
        have HU2 := Aside0.mk (HU.out.step lessV_ord (Nat.le_refl _) (by omega) (by omega) hlv)
        clear hlv
        have hE := HE.out.fr HF1.out HNE.out
        have hm : (method 234 72 (.pointer (some ⟨p, 10, none⟩)) "Swap").run Try.prog w1 = .ok (87, _) w1 := m_swap hE.cwaits 233
        go_wp2_with fail
        refine (swap_c' HR1.out hM ((j - 1) / 2) j (by omega) (by omega)).mono ?_
        rintro e w2 ⟨rfl, hR2, hF2⟩
        have HR2 := Aside0.mk hR2
        have HF2 := Aside0.mk (HF1.out.trans hF2 (fun i hi => Or.inl hi))
        have HP2 := Aside0.mk ((Hp.swp_perm (L := M) (i := (j - 1) / 2) (j := j) (by omega) (by omega)).trans HP.out)
        clear hR2 hF2 hm hE
        go_wp2_with fail
        go_roundw
        case rel => exact ⟨(j - 1) / 2, Hp.swp M ((j - 1) / 2) j, rfl, by omega, by rw [Hp.swp_length]; exact hM, ⟨by rw [Hp.swp_length]; exact HU2.out⟩, HP2, HR2, HF2⟩
        case measure => simp [intOf]; omega
end Go.Proofs.Ytpfeelcdbnldfaa
