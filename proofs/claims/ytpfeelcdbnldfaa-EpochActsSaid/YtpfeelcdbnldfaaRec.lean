/-
  The document's epochs in memory: Reclaim.
-/
import Derived.Test.YtpfeelcdbnldfaaRet
namespace Go.Proofs.Ytpfeelcdbnldfaa
open Go.RowKit Go.Proofs.YtpfeelcdbnldfaaW Go.Proofs.YtpfeelcdbnldfaaW.PrintWords
set_option linter.unusedVariables false
set_option linter.unusedSimpArgs false
/-- What the document gives up. -/
def goesV (S : List Int) (now : Int) (x : It) : Bool := !(leastV S S.length 8).2 || decide (x.2 < minV S S.length now)
theorem take_filter {α : Type} (L : List α) (p : α → Bool) (k : Nat) (h : k < L.length) : (L.take (k + 1)).filter p = (L.take k).filter p ++ (if p L[k] = true then [L[k]] else []) := by
  rw [List.take_succ_eq_append_getElem h, List.filter_append]
  congr 1
  by_cases h1 : p L[k] = true
  · rw [if_pos h1, List.filter_cons_of_pos h1, List.filter_nil]
  · rw [if_neg h1, List.filter_cons_of_neg h1, List.filter_nil]
theorem kI_open {w : World} {x : It} {cs : List Value} (h : kI.K w x cs) : cs = [.int .i64 x.1, .int .i64 x.2] := by
  obtain ⟨_, _, rfl, rfl, rfl⟩ := h
  rfl
theorem at_it {w : World} {A : Option Addr} {n : Nat} {xs : List It} (h : kI.C w A n xs) (i : Nat) (h1 : i < n) (hx : i < xs.length) : ∃ ad, A = some ad ∧ w.cell? (ad.add (i * 2)) = some (.int .i64 xs[i].1) ∧ w.cell? ((ad.add (i * 2)).add 1) = some (.int .i64 xs[i].2) ∧
    w.cell? ⟨(ad.add (i * 2)).block, (ad.add (i * 2)).off + 1, none⟩ = some (.int .i64 xs[i].2) := by
  obtain ⟨ad, c, e, _, hK, hc0⟩ := Kd.C_get h ((0, 0) : It) i (by omega) (by omega)
  have hx2 : xs.getD (Int.toNat (i : Int)) ((0, 0) : It) = xs[i] := by
    rw [Int.toNat_natCast, List.getD_eq_getElem?_getD, List.getElem?_eq_getElem hx]
    rfl
  rw [hx2] at hK
  have hc : ∀ j u, c[j]? = some u → w.cell? (ad.add (i * 2 + j)) = some u := fun j u hj => by
    have := hc0 j u hj
    rw [Int.toNat_natCast] at this
    exact this
  obtain rfl := kI_open hK
  refine ⟨ad, e, hc 0 _ rfl, ?_, ?_⟩
  · rw [Go.Deep.add_add]
    exact hc 1 _ rfl
  · rw [← add_field _ _ 1 (by omega)]
    exact hc 1 _ rfl
/-- While the document's Reclaim goes over its list. -/
structure RL (w0 : World) (K : Nat → Prop) (r : Nat) (now : Int) (S : List Int) (L : List It) (vI : Value) (I : List Int) (vM : Value) (M : List It) (w : World) : Prop where
  rf : Rf w K r now S L
  bel : Below w0.heap.size w0 w
  ri : kS.R 3 w w0.heap.size (fun k => w0.heap.size ≤ k ∧ some k ≠ vM.ownBlock) vI I
  rm : kI.R 64 w w0.heap.size (fun k => w0.heap.size ≤ k ∧ some k ≠ vI.ownBlock) vM M
section
variable {w0 w w' : World} {K : Nat → Prop} {r : Nat} {now : Int} {S : List Int} {L : List It} {vI vM : Value} {I : List Int} {M : List It}
theorem RL.below (h : RL w0 K r now S L vI I vM M w) (hb : Below w.heap.size w w') : RL w0 K r now S L vI I vM M w' := ⟨h.rf.below hb, below_step h.bel hb, Kd.R_below h.ri hb, Kd.R_below h.rm hb⟩
theorem RL.freshI (h : RL w0 K r now S L vI I vM M w) : ∀ k, w.heap.size ≤ k → w0.heap.size ≤ k ∧ some k ≠ vM.ownBlock := fun k hk => ⟨Nat.le_trans h.bel.size hk, fun e => by
  have := ((Kd.R_bound h.rm).1 k e.symm).2.2.1
  omega⟩
theorem RL.freshM (h : RL w0 K r now S L vI I vM M w) : ∀ k, w.heap.size ≤ k → w0.heap.size ≤ k ∧ some k ≠ vI.ownBlock := fun k hk => ⟨Nat.le_trans h.bel.size hk, fun e => by
  have := ((Kd.R_bound h.ri).1 k e.symm).2.2.1
  omega⟩
theorem RL.ids (h : RL w0 K r now S L vI I vM M w) (hK : ∀ k, K k → k < w0.heap.size) {v1 : Value} {J : List Int} (hr : kS.R 3 w' w0.heap.size (fun k => w0.heap.size ≤ k ∧ some k ≠ vM.ownBlock) v1 J) (hb : Below w0.heap.size w0 w')
    (hg : w.grownBy w' vI.ownBlock) (hat : v1.ownBlock = vI.ownBlock ∨ ∃ b, v1.ownBlock = some b ∧ w.heap.size ≤ b) : RL w0 K r now S L v1 J vM M w' := by
  refine ⟨h.rf.step (fun k hk hlt => hg.block k hlt (fun e => by have h1 := (h.ri.1 k e.symm).1; have h2 := hK k hk; omega)), hb, hr, ?_⟩
  refine Kd.R_mono (Kd.R_grown (Kd.R_bound h.rm) hg (fun k hk => hk.1.2)) (fun k hk => ⟨hk.1.1, fun e => ?_⟩)
  rcases hat with hat | ⟨b, hb, hle⟩
  · exact hk.1.2 (e.trans hat)
  · have e2 := e.trans hb
    injection e2 with e2
    have := hk.2.2.1
    omega
theorem RL.left (h : RL w0 K r now S L vI I vM M w) (hK : ∀ k, K k → k < w0.heap.size) {v1 : Value} {J : List It} (hr : kI.R 64 w' w0.heap.size (fun k => w0.heap.size ≤ k ∧ some k ≠ vI.ownBlock) v1 J) (hb : Below w0.heap.size w0 w')
    (hg : w.grownBy w' vM.ownBlock) (hat : v1.ownBlock = vM.ownBlock ∨ ∃ b, v1.ownBlock = some b ∧ w.heap.size ≤ b) : RL w0 K r now S L vI I v1 J w' := by
  refine ⟨h.rf.step (fun k hk hlt => hg.block k hlt (fun e => by have h1 := (h.rm.1 k e.symm).1; have h2 := hK k hk; omega)), hb, ?_, hr⟩
  refine Kd.R_mono (Kd.R_grown (Kd.R_bound h.ri) hg (fun k hk => hk.1.2)) (fun k hk => ⟨hk.1.1, fun e => ?_⟩)
  rcases hat with hat | ⟨b, hb, hle⟩
  · exact hk.1.2 (e.trans hat)
  · have e2 := e.trans hb
    injection e2 with e2
    have := hk.2.2.1
    omega
end
theorem info3' : (Try.prog.info? 3).map (fun i => (i.zero, i.size, i.bytes)) = some (some (.int .i64 0), (Kd.int .i64).sz, 8) := by kernel_rfl
/-- What the document's Reclaim leaves. -/
def ReclR (w : World) (K : Nat → Prop) (r : Nat) (now : Int) (S : List Int) (L : List It) (e : Ending) (w' : World) : Prop :=
  ∃ v, e = .returned v ∧ kS.R 3 w' w.heap.size (fun k => w.heap.size ≤ k) v ((L.filter (goesV S now)).map Prod.fst) ∧ RX w K r now S (L.filter (fun x => !goesV S now x)) w'
set_option maxHeartbeats 4000000 in
set_option maxRecDepth 100000 in
theorem reclaim_r {w : World} {K : Nat → Prop} {r : Nat} {now : Int} {S : List Int} {L : List It} (h : Rf w K r now S L) (hK : ∀ k, K k → k < w.heap.size) (hS : S.length ≤ 8) (hl : L.length ≤ 100000) :
    Calls Try.prog 25 #[.pointer (some ⟨r, 0, none⟩)] w (ReclR w K r now S L) := by
  have H := Aside0.mk h
  have HK := Aside0.mk hK
  have HL := Aside0.mk hl
  have HH := Aside0.mk (fun (w2 : World) (h2 : Rf w2 K r now S L) => held_r h2 hS)
  have HM := Aside0.mk (fun (w2 : World) (h2 : Rf w2 K r now S L) => min_r h2 hS)
  have HP : Aside0 (∀ x, goesV S now x = (!(leastV S S.length 8).2 || decide (x.2 < minV S S.length now))) := ⟨fun _ => rfl⟩
  unfold ReclR
  generalize goesV S now = p at HP ⊢
  generalize (leastV S S.length 8).2 = held at HH HP
  generalize minV S S.length now = mn at HM HP
  obtain ⟨c0, _, A, c, hc2, hcl, hC⟩ := h.read
  have HC := Aside0.mk hC
  have gl : (L.length : Int) ≤ 100000 := by omega
  have H0 : Aside0 (RL w K r now S L (.slice none 0 0) (((L.take 0).filter p).map Prod.fst) (.slice none 0 0) ((L.take 0).filter (fun x => !p x)) w) := ⟨⟨h, Below.refl _ _, by simpa using Kd.R_nil _ _ _ _ _, by simpa using Kd.R_nil _ _ _ _ _⟩⟩
  clear h hK hS hl hC hcl c0
  go_enter Try.func25, Try.ntmps25
  go_wp2_with fail
  go_loopw [3, 4, 12] (fun vI vM i wr => ∃ k : Nat, i = .int .i64 (k : Int) ∧ k ≤ L.length ∧ Aside0 (RL w K r now S L vI (((L.take k).filter p).map Prod.fst) vM ((L.take k).filter (fun x => !p x)) wr)) (fun _ _ i _ => L.length - (intOf i).toNat)
  case atStart => exact ⟨0, rfl, Nat.zero_le _, H0⟩
  case round =>
    clear H0 hc2
    obtain ⟨k, rfl, hk, HRL⟩ := hrel
    by_cases hlt : k < L.length
    · have g1 : (k : Int) < (L.length : Int) := by omega
      obtain ⟨ad, rfl, c1, c2, c3⟩ := at_it (Kd.C_below HC.out HRL.out.bel) k hlt hlt
      have HT1 := Aside0.mk (take_filter L p k hlt)
      have HT2 := Aside0.mk (take_filter L (fun x => !p x) k hlt)
      generalize L[k] = x at c1 c2 c3 HT1 HT2
      obtain ⟨x1, x2⟩ := x
      simp only at c1 c2 c3
      have HRa := Aside0.mk (HRL.out.below ((Below.refl _ _).alloc (Nat.le_refl _) (.cells #[.int .i64 x1, .int .i64 x2] 64)))
      have d0 := cell1 wr #[.int .i64 x1, .int .i64 x2] 64 0
      have d1 := cell1 wr #[.int .i64 x1, .int .i64 x2] 64 1
      simp only [List.getElem?_toArray, List.getElem?_cons_zero, List.getElem?_cons_succ] at d0 d1
      go_upto_region 6 with (fail)
      generalize wr.alloc (.cells #[.int .i64 x1, .int .i64 x2] 64) = wa at HRa d0 d1 ⊢
      cases held with
      | false =>
        have HPX : Aside0 (p (x1, x2) = true) := ⟨by rw [HP.out]; simp⟩
        rw [HPX.out] at HT1 HT2
        simp only [Bool.not_true, Bool.false_eq_true, if_false, if_true, List.append_nil] at HT1 HT2
        go_quiet ((first | (go_at_call 40; exact Calls.quiet_of_same (HH.out _ HRa.out.rf)) | (go_at_call 26; exact Calls.quiet_of_same (HM.out _ HRa.out.rf))))
        have HRb := Aside0.mk (HRa.out.below (pw_below_drewN (Below.refl _ _) nq))
        have e0 : (wa.drewN nq).cell? ⟨wr.heap.size, 0, none⟩ = some (.int .i64 x1) := d0
        have e1 : (wa.drewN nq).cell? ⟨wr.heap.size, 1, none⟩ = some (.int .i64 x2) := d1
        generalize wa.drewN nq = wb at HRb e0 e1 ⊢
        clear HRa d0 d1
        have HLN : Aside0 ((((L.take k).filter p).map Prod.fst).length + 1 ≤ 200000) := ⟨by have h1 := List.length_filter_le p (L.take k); rw [List.length_take] at h1; have := HL.out; rw [List.length_map]; omega⟩
        go_wp2_with (at_builtin; refine Kd.R_append kS (w0 := w) w.heap.size rfl (.tmp 26) (.tmp 29) 27 3 (.int .i64 0) 8 rfl Try.underlying27 info3' rfl (by decide) (by decide) u3 (((L.take k).filter p).map Prod.fst) x1 [.int .i64 x1] (fun k => w.heap.size ≤ k ∧ some k ≠ u4.ownBlock) (fun _ => False) rfl rfl rfl (fun _ hk => hk.elim) (by exact HRb.out.freshI) HRb.out.ri HRb.out.bel HRb.out.bel.size (by have := HLN.out; omega) ?_; intro v1 w3 hr hb hg hat; have HR3 := Aside0.mk (HRb.out.ids HK.out hr hb hg hat); clear hr hb hg hat)
        go_roundw
        case rel => exact ⟨k + 1, by first | rfl | go_num, by omega, ⟨by rw [HT1.out, HT2.out, List.map_append]; exact HR3.out⟩⟩
        case measure => first | (simp [intOf]; done) | (simp [intOf]; omega)
      | true =>
        by_cases hm : x2 < mn
        · have HPX : Aside0 (p (x1, x2) = true) := ⟨by rw [HP.out]; simp; exact hm⟩
          rw [HPX.out] at HT1 HT2
          simp only [Bool.not_true, Bool.false_eq_true, if_false, if_true, List.append_nil] at HT1 HT2
          go_quiet ((first | (go_at_call 40; exact Calls.quiet_of_same (HH.out _ HRa.out.rf)) | (go_at_call 26; exact Calls.quiet_of_same (HM.out _ HRa.out.rf))))
          have HRb := Aside0.mk (HRa.out.below (pw_below_drewN (Below.refl _ _) nq))
          have e0 : (wa.drewN nq).cell? ⟨wr.heap.size, 0, none⟩ = some (.int .i64 x1) := d0
          have e1 : (wa.drewN nq).cell? ⟨wr.heap.size, 1, none⟩ = some (.int .i64 x2) := d1
          generalize wa.drewN nq = wb at HRb e0 e1 ⊢
          clear HRa d0 d1
          have HLN : Aside0 ((((L.take k).filter p).map Prod.fst).length + 1 ≤ 200000) := ⟨by have h1 := List.length_filter_le p (L.take k); rw [List.length_take] at h1; have := HL.out; rw [List.length_map]; omega⟩
          go_wp2_with (at_builtin; refine Kd.R_append kS (w0 := w) w.heap.size rfl (.tmp 26) (.tmp 29) 27 3 (.int .i64 0) 8 rfl Try.underlying27 info3' rfl (by decide) (by decide) u3 (((L.take k).filter p).map Prod.fst) x1 [.int .i64 x1] (fun k => w.heap.size ≤ k ∧ some k ≠ u4.ownBlock) (fun _ => False) rfl rfl rfl (fun _ hk => hk.elim) (by exact HRb.out.freshI) HRb.out.ri HRb.out.bel HRb.out.bel.size (by have := HLN.out; omega) ?_; intro v1 w3 hr hb hg hat; have HR3 := Aside0.mk (HRb.out.ids HK.out hr hb hg hat); clear hr hb hg hat)
          go_roundw
          case rel => exact ⟨k + 1, by first | rfl | go_num, by omega, ⟨by rw [HT1.out, HT2.out, List.map_append]; exact HR3.out⟩⟩
          case measure => first | (simp [intOf]; done) | (simp [intOf]; omega)
        · have HPX : Aside0 (p (x1, x2) = false) := ⟨by rw [HP.out]; simp; omega⟩
          rw [HPX.out] at HT1 HT2
          simp only [Bool.not_false, Bool.false_eq_true, if_false, if_true, List.append_nil] at HT1 HT2
          go_quiet ((first | (go_at_call 40; exact Calls.quiet_of_same (HH.out _ HRa.out.rf)) | (go_at_call 26; exact Calls.quiet_of_same (HM.out _ HRa.out.rf))))
          have HRb := Aside0.mk (HRa.out.below (pw_below_drewN (Below.refl _ _) nq))
          have e0 : (wa.drewN nq).cell? ⟨wr.heap.size, 0, none⟩ = some (.int .i64 x1) := d0
          have e1 : (wa.drewN nq).cell? ⟨wr.heap.size, 1, none⟩ = some (.int .i64 x2) := d1
          generalize wa.drewN nq = wb at HRb e0 e1 ⊢
          clear HRa d0 d1
          have HLN : Aside0 (((L.take k).filter (fun x => !p x)).length + 1 ≤ 200000) := ⟨by have h1 := List.length_filter_le (fun x => !p x) (L.take k); rw [List.length_take] at h1; have := HL.out; omega⟩
          go_wp2_with (at_builtin; refine Kd.R_append kI (w0 := w) w.heap.size rfl (.tmp 31) (.tmp 33) 59 64 (.agg #[.int .i64 0, .int .i64 0]) 16 rfl Try.underlying59 info64 rfl (by decide) (by decide) u4 ((L.take k).filter (fun x => !p x)) (x1, x2) [.int .i64 x1, .int .i64 x2] (fun k => w.heap.size ≤ k ∧ some k ≠ u3.ownBlock) (fun _ => False) rfl rfl (kI_mk _ _ _ (x1, x2)) (fun _ hk => hk.elim) (by exact HRb.out.freshM) HRb.out.rm HRb.out.bel HRb.out.bel.size (Nat.le_trans (Nat.mul_le_mul_right 16 HLN.out) (by decide)) ?_; intro v1 w3 hr hb hg hat; have HR3 := Aside0.mk (HRb.out.left HK.out hr hb hg hat); clear hr hb hg hat)
          go_roundw
          case rel => exact ⟨k + 1, by first | rfl | go_num, by omega, ⟨by rw [HT1.out, HT2.out]; exact HR3.out⟩⟩
          case measure => first | (simp [intOf]; done) | (simp [intOf]; omega)
    · have he : k = L.length := by omega
      subst he
      have HRL2 : Aside0 (RL w K r now S L u3 ((L.filter p).map Prod.fst) u4 (L.filter (fun x => !p x)) wr) := ⟨by
        have := HRL.out
        rw [List.take_length] at this
        exact this⟩
      obtain ⟨Am, cm, hvm, _⟩ := Kd.R_reads HRL2.out.rm
      subst hvm
      have hfz := HRL2.out.rf.frozen 2
      obtain ⟨_, _, B, d, hc2, _⟩ := HRL2.out.rf.read
      have HX := Aside0.mk (RX.list H.out HRL2.out.bel (Kd.R_mono HRL2.out.rm (fun k hk => hk.1)))
      have HI := Aside0.mk (Kd.R_far (Kd.R_mono (Kd.R_bound HRL2.out.ri) (fun k hk => hk.1.1)) (p := ⟨r, 2, none⟩) (fun k hk e => by have h1 := H.out.lt; simp only at e; omega) (.slice Am (L.filter (fun x => !p x)).length cm))
      clear hlt hk
      go_wp2_with fail
      go_ret
      exact ⟨_, rfl, HI.out, HX.out⟩
end Go.Proofs.Ytpfeelcdbnldfaa
