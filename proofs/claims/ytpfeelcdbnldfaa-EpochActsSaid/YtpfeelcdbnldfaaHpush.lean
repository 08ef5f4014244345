/-
  container/heap.Push over the queue of the epochs.
-/
import Derived.Test.YtpfeelcdbnldfaaPush
namespace Go.Proofs.Ytpfeelcdbnldfaa
open Go.RowKit Go.Proofs.YtpfeelcdbnldfaaW.PrintWords
set_option linter.unusedVariables false
set_option linter.unusedSimpArgs false
theorem at_append {L M : List It} {k : Nat} (h : k < L.length) : Hp.at_ (L ++ M) k = Hp.at_ L k := by
  unfold Hp.at_
  rw [List.getD_eq_getElem?_getD, List.getD_eq_getElem?_getD, List.getElem?_append_left h]
theorem heap_append {L : List It} {x : It} (h : Hp.Heap lessV L L.length) : Hp.Up lessV (L ++ [x]) (L ++ [x]).length L.length := by
  rw [List.length_append]
  refine Hp.Up.start (L := L ++ [x]) (n := L.length) fun k k0 k1 => ?_
  rw [at_append k1, at_append (by omega)]
  exact h k k0 k1
set_option maxHeartbeats 1000000 in
set_option maxRecDepth 100000 in
theorem hpush_c {W : World} {p n : Nat} {now : Int} {S : List Int} {v : Value} {L : List It} (h : Ep W p now S n v) (ho : W.ownsRow 0 63 2 v L.length (flat L)) (hp : ∀ k, v.ownBlock = some k → k ≠ p) (hn : L.length ≤ 100000) (hh : Hp.Heap lessV L L.length) (x : It) :
    Calls Try.prog 33 #[.iface 72 (.pointer (some ⟨p, 10, none⟩)), itv x] W fun e w' => ∃ (g c : Nat) (M : List It), e = .returned (.tuple #[]) ∧ M.Perm (x :: L) ∧ Hp.Heap lessV M M.length ∧ Ep w' p now S n (.slice (some ⟨g, 0, none⟩) M.length c) ∧ Row w' g c M ∧ (v.ownBlock = some g ∨ W.heap.size ≤ g) ∧ Fr (fun k => k = p ∨ v.ownBlock = some k) W w' := by
  have HPU := Aside0.mk (push_m h ho hp (by omega) x)
  have HU := Aside0.mk (heap_append (x := x) hh)
  have hM : (L ++ [x]).length = L.length + 1 := by simp
  have HPM : Aside0 ((L ++ [x]).Perm (x :: L)) := ⟨List.perm_append_comm⟩
  clear ho hh
  unfold itv
  have hm1 : (method 234 72 (.pointer (some ⟨p, 10, none⟩)) "Push").run Try.prog W = .ok (89, _) W := m_push W _ 233
  go_enter Try.func33, Try.ntmps33
  go_wp2_with fail
  refine HPU.out.mono ?_
  rintro e w1 ⟨g, c, rfl, hE, hR, hB, hF⟩
  have HE := Aside0.mk hE
  have HNE := Aside0.mk (hE.ne hR)
  have HR := Aside0.mk hR
  have HF := Aside0.mk hF
  have HB := Aside0.mk hB
  clear hm1 hE hR hF hB HPU
  rw [hM] at HE HU
  have hm1 : (method 234 72 (.pointer (some ⟨p, 10, none⟩)) "Len").run Try.prog w1 = .ok (85, _) w1 := m_len HE.out.cwaits 233
  have gb : (L.length : Int) ≤ 100000 := by omega
  go_wp2_with fail
  refine (len_c _ _ _ _).mono ?_
  rintro e w2 ⟨rfl, rfl⟩
  go_wp2_with fail
  rw [← hM] at HE HU
  refine (up_c HE.out HR.out (by omega) L.length (by omega) HU.out).mono ?_
  rintro e w3 ⟨M, rfl, hP, hH, hR3, hF3⟩
  have HE3 := Aside0.mk (HE.out.fr hF3 HNE.out)
  rw [← hP.length_eq] at HE3
  have HR3 := Aside0.mk hR3
  have HP3 := Aside0.mk (hP.trans HPM.out)
  have HH3 := Aside0.mk hH
  have HF3 := Aside0.mk (HF.out.trans hF3 (fun i hi => by
    subst hi
    rcases HB.out with e | e
    · exact Or.inl (Or.inr e)
    · exact Or.inr e))
  clear hm1 hP hH hR3 hF3
  go_wp2_with fail
  refine bodyPost_end (results_none rfl _ _ _) rfl ?_
  exact ⟨g, c, M, rfl, HP3.out, HH3.out, HE3.out, HR3.out, HB.out, HF3.out⟩
end Go.Proofs.Ytpfeelcdbnldfaa
