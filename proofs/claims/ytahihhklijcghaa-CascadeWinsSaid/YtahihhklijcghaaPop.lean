/-
  (*pile).Pop and container/heap.Pop over the pile.
-/
import Derived.Test.YtahihhklijcghaaDown
namespace Go.Proofs.Ytahihhklijcghaa
open Go.RowKit Go.Proofs.YtahihhklijcghaaW.PrintWords PCascadeSorts
set_option linter.unusedVariables false
set_option linter.unusedSimpArgs false
theorem Row.init {W : World} {g c : Nat} {L M : List It} (h : Row W g c (L ++ M)) : Row W g c L := by
  obtain ⟨cur, hc, ht, hs, h1, h2⟩ := h
  refine ⟨cur, hc, ?_, hs, by rw [List.length_append] at h1; omega, h2⟩
  have := congrArg (List.take (9 * L.length)) ht
  rw [List.take_take, List.length_append, Nat.min_eq_left (by omega), flat_append, List.take_left' (flat_length L)] at this
  exact this
/-- An item behind an interface value. -/
def itv (x : It) : Value := .iface 55 (.agg (pc x).toArray)
set_option maxHeartbeats 1000000 in
set_option maxRecDepth 100000 in
theorem pop_m {W : World} {p g c : Nat} {L : List It} {x : It} (h : Pt W p (.slice (some ⟨g, 0, none⟩) (L.length + 1) c)) (hr : Row W g c (L ++ [x])) (hn : L.length ≤ 1000000) (hc : L.length + 1 ≤ c) :
    Calls Try.prog 79 #[.pointer (some ⟨p, 0, none⟩)] W fun e w' => e = .returned (itv x) ∧ Pt w' p (.slice (some ⟨g, 0, none⟩) L.length c) ∧ Row w' g c L ∧ Fr (fun k => k = p) W w' := by
  have hw := h.cell
  have hf := h.frozen
  have c9 := hr.nine L.length (by simp)
  rw [List.getElem_append_right (Nat.le_refl _)] at c9
  simp only [Nat.sub_self, List.getElem_cons_zero] at c9
  obtain ⟨c0, c1, c2, c3, c4, c5, c6, c7, c8⟩ := c9
  have hw2 : ∀ o, (W.alloc o).cell? ⟨p, 0, none⟩ = some (.slice (some ⟨g, 0, none⟩) (L.length + 1) c) := fun o => (World.cell?_alloc_old W o _ (Nat.ne_of_lt h.lt)).trans hw
  have hf2 : ∀ o, (W.alloc o).frozen? ⟨p, 0, none⟩ = false := fun o => (World.frozen?_alloc_old W o _ (Nat.ne_of_lt h.lt)).trans hf
  have HE := Aside0.mk h
  have HR := Aside0.mk hr
  have HNE := Aside0.mk (h.ne hr)
  have hpn : p ≠ W.heap.size := Nat.ne_of_lt h.lt
  have hpn2 : ¬ (W.heap.size = p) := fun e => hpn e.symm
  go_enter Try.func79, Try.ntmps79
  go_wp2_with fail
  go_ret
  have HF := (Fr.refl (fun _ => False) W).alloc (Obj.cells (pc x).toArray 55)
  have HEa := HE.out.fr HF (fun h => h)
  have HRa := HR.out.init.fr HF (fun h => h)
  refine ⟨rfl, HEa.set_ _, ?_, (HF.mono (S2 := fun k => k = p) (fun _ h => h.elim)).setCell (p := ⟨p, 0, none⟩) (Or.inl rfl) _⟩
  exact HRa.fr ((Fr.refl (fun k => k = p) _).setCell (p := ⟨p, 0, none⟩) (Or.inl rfl) _) (fun e => HNE.out e.symm)

theorem len_c (a : Option Addr) (n c : Nat) (W : World) : Calls Try.prog 28 #[.slice a n c] W fun e w' => e = .returned (.int .i64 n) ∧ w' = W := by
  go_enter Try.func28, Try.ntmps28
  go_wp2_with fail
  go_ret
  exact ⟨rfl, rfl⟩
theorem at_take {L : List It} {m k : Nat} (h : k < m) : Hp.at_ (L.take m) k = Hp.at_ L k := by
  unfold Hp.at_
  rw [List.getD_eq_getElem?_getD, List.getD_eq_getElem?_getD, List.getElem?_take_of_lt h]
theorem take_last {L : List It} {m : Nat} (h : L.length = m + 1) : L = L.take m ++ [Hp.at_ L m] := by
  rw [Hp.at_get (by omega), ← List.take_succ_eq_append_getElem (by omega), List.take_of_length_le (by omega)]
set_option maxHeartbeats 1000000 in
set_option maxRecDepth 100000 in
theorem hpop_c {W : World} {p g c : Nat} {L : List It} (h : Pt W p (.slice (some ⟨g, 0, none⟩) L.length c)) (hr : Row W g c L) (hn : L.length ≤ 1000000) (h0 : 0 < L.length) (hc : L.length ≤ c) (hh : Hp.Heap lessV L L.length) :
    Calls Try.prog 29 #[.iface 50 (.pointer (some ⟨p, 0, none⟩))] W fun e w' => ∃ M : List It, e = .returned (itv (Hp.at_ L 0)) ∧ (Hp.at_ L 0 :: M).Perm L ∧ Hp.Heap lessV M M.length ∧ Pt w' p (.slice (some ⟨g, 0, none⟩) M.length c) ∧ Row w' g c M ∧ Fr (fun k => k = p ∨ k = g) W w' := by
  obtain ⟨m, hm⟩ : ∃ m, L.length = m + 1 := ⟨L.length - 1, by omega⟩
  have HE := Aside0.mk h
  have HR := Aside0.mk hr
  have HH := Aside0.mk hh
  have HNE := Aside0.mk (h.ne hr)
  rw [hm] at HE
  clear h hr hh
  go_enter Try.func29, Try.ntmps29
  have hm1 : (method 219 50 (.pointer (some ⟨p, 0, none⟩)) "Len").run Try.prog W = .ok (28, _) W := m_len HE.out.cell 218
  have gm : (m : Int) ≤ 1000000 := by omega
  go_wp2_with fail
  refine (len_c _ _ _ _).mono ?_
  rintro e w1 ⟨rfl, rfl⟩
  clear hm1
  have hm1 : (method 219 50 (.pointer (some ⟨p, 0, none⟩)) "Swap").run Try.prog w1 = .ok (80, _) w1 := m_swap HE.out.cell 218
  go_wp2_with fail
  refine (swap_z HR.out hm 0 m _ _ (by first | rfl | omega) (by first | rfl | omega) (by omega) (by omega)).mono ?_
  rintro e w2 ⟨rfl, hR, hF⟩
  have HE2 := Aside0.mk (HE.out.fr hF HNE.out)
  have HR2 := Aside0.mk hR
  have HF2 := Aside0.mk hF
  have HD := Aside0.mk (Hp.Down.start (n := m) (by have := HH.out; rw [hm] at this; exact this) (by omega))
  have hl : (Hp.swp L 0 m).length = m + 1 := by rw [Hp.swp_length]; exact hm
  have HP2 := Aside0.mk (Hp.swp_perm (L := L) (i := 0) (j := m) (by omega) (by omega))
  have HT : Aside0 (Hp.at_ (Hp.swp L 0 m) m = Hp.at_ L 0) := ⟨by rw [Hp.at_swp (by omega) (by omega), if_pos rfl]⟩
  clear hR hF hm1 HR HE HH
  generalize Hp.swp L 0 m = L1 at HR2 HD hl HP2 HT
  rw [← hl] at HE2
  go_wp2_with fail
  refine (down_c (s := 0) HE2.out HR2.out (by omega) (by omega) (Nat.zero_le _) HD.out).mono ?_
  rintro e w3 ⟨b, M1, rfl, hP, hH, hK, hR, hF⟩
  have hl1 : M1.length = m + 1 := by rw [hP.length_eq]; exact hl
  have HE3 := Aside0.mk (HE2.out.fr hF HNE.out)
  rw [hl] at HE3
  have HR3 := Aside0.mk hR
  have HF3 := Aside0.mk (HF2.out.trans hF (fun i hi => Or.inl hi))
  have HP3 := Aside0.mk (hP.trans HP2.out)
  have HT3 : Aside0 (Hp.at_ M1 m = Hp.at_ L 0) := ⟨by rw [hK m (Nat.le_refl _)]; exact HT.out⟩
  have HM := Aside0.mk (take_last hl1)
  rw [HT3.out] at HM
  have hlt : (M1.take m).length = m := by rw [List.length_take]; omega
  have HH : Aside0 (Hp.Heap lessV (M1.take m) (M1.take m).length) := ⟨by
    rw [hlt]
    intro k k0 k1
    rw [at_take k1, at_take (by omega)]
    exact hH.heap k k0 k1⟩
  rw [HM.out] at HP3 HR3
  clear hP hH hK hR hF HR2 HF2 HE2 HD HP2 HT HT3 HM hl1
  generalize M1.take m = M at *
  generalize hx0 : Hp.at_ L 0 = x at HP3 HR3
  have HX := Aside0.mk hx0
  clear hx0
  subst hlt
  have hm1 : (method 219 50 (.pointer (some ⟨p, 0, none⟩)) "Pop").run Try.prog w3 = .ok (79, _) w3 := m_pop w3 _ 218
  go_wp2_with fail
  refine (pop_m HE3.out HR3.out (by omega) (by omega)).mono ?_
  rintro e w4 ⟨rfl, hE, hR, hF⟩
  have HE4 := Aside0.mk hE
  have HR4 := Aside0.mk hR
  have HF4 := Aside0.mk ((HF3.out.mono (S2 := fun k => k = p ∨ k = g) (fun _ h => Or.inr h)).trans hF (fun i hi => Or.inl (Or.inl hi)))
  have HP4 := Aside0.mk ((List.perm_append_comm (l₁ := [x]) (l₂ := M)).trans HP3.out)
  clear hE hR hF hm1
  go_wp2_with fail
  go_ret
  exact ⟨M, by rw [HX.out]; rfl, by rw [HX.out]; exact HP4.out, HH.out, HE4.out, HR4.out, HF4.out⟩
end Go.Proofs.Ytahihhklijcghaa
