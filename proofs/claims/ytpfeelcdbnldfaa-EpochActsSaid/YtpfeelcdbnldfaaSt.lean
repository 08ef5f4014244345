/-
  The epochs with all that waits: what a call leaves, and (*Epochs).Retire.
-/
import Derived.Test.YtpfeelcdbnldfaaHpush
namespace Go.Proofs.Ytpfeelcdbnldfaa
open Go.RowKit Go.Proofs.YtpfeelcdbnldfaaW.PrintWords
set_option linter.unusedVariables false
set_option linter.unusedSimpArgs false

/-- The blocks that the epochs hold. -/
def Ow (W : World) (p k : Nat) : Prop := k = p ∨ ∃ v, W.cell? ⟨p, 10, none⟩ = some v ∧ v.ownBlock = some k
/-- The epochs lie at p, and these wait. -/
def St (W : World) (p : Nat) (now : Int) (S : List Int) (n : Nat) (L : List It) : Prop :=
  ∃ v M, Ep W p now S n v ∧ W.ownsRow 0 63 2 v M.length (flat M) ∧ (∀ k, v.ownBlock = some k → k ≠ p) ∧ Hp.Heap lessV M M.length ∧ M.Perm L
theorem Ep.ow {W : World} {p n : Nat} {now : Int} {S : List Int} {v : Value} (h : Ep W p now S n v) (k : Nat) : Ow W p k ↔ (k = p ∨ v.ownBlock = some k) := by
  have e := h.cwaits
  constructor
  · rintro (r | ⟨u, hu, hk⟩)
    · exact Or.inl r
    · rw [e] at hu
      injection hu with hu
      exact Or.inr (hu ▸ hk)
  · rintro (r | r)
    · exact Or.inl r
    · exact Or.inr ⟨v, e, r⟩
theorem own_fr {T : Nat → Prop} {W W' : World} {b : Nat} {t : TypeId} {z : Nat} {v : Value} {m : Nat} {xs : List Value} (h : W.ownsRow b t z v m xs) (hf : Fr T W W') (hT : ∀ k, v.ownBlock = some k → ¬ T k) : W'.ownsRow b t z v m xs := by
  refine ⟨h.1, ?_⟩
  rcases h.2 with hn | ⟨g, cap, cur, rfl, hb, hgg, rest⟩
  · exact .inl hn
  · exact .inr ⟨g, cap, cur, rfl, hb, (hf.block g (blk_lt hgg) (hT g rfl)).trans hgg, rest⟩
section
variable {W W' : World} {p n : Nat} {now : Int} {S : List Int} {L : List It}
theorem St.fr {T : Nat → Prop} (h : St W p now S n L) (hf : Fr T W W') (hT : ∀ k, Ow W p k → ¬ T k) : St W' p now S n L ∧ ∀ k, Ow W' p k ↔ Ow W p k := by
  obtain ⟨v, M, hE, hO, hp, hH, hP⟩ := h
  have hE' := hE.fr hf (hT p (Or.inl rfl))
  refine ⟨⟨v, M, hE', own_fr hO hf (fun k hk => hT k ((hE.ow k).2 (Or.inr hk))), hp, hH, hP⟩, fun k => ?_⟩
  rw [hE'.ow, hE.ow]
theorem St.ow_lt (h : St W p now S n L) (k : Nat) (hk : Ow W p k) : k < W.heap.size := by
  obtain ⟨v, M, hE, hO, hp, hH, hP⟩ := h
  rcases (hE.ow k).1 hk with rfl | e
  · exact hE.lt
  · exact (hO.lt k e).2
theorem St.below {B : Nat} (h : St W p now S n L) (hb : Below B W W') (hB : W.heap.size ≤ B) : St W' p now S n L ∧ ∀ k, Ow W' p k ↔ Ow W p k :=
  h.fr (Fr.of_below (hb.mono hB) (fun _ => False)) (fun _ _ e => e)
/-- The epochs, and that only they and what is new were written. -/
structure Nx (W : World) (p : Nat) (now : Int) (S : List Int) (n : Nat) (L : List It) (w' : World) : Prop where
  st : St w' p now S n L
  fr : Fr (Ow W p) W w'
  ow : ∀ k, Ow w' p k → Ow W p k ∨ W.heap.size ≤ k
theorem Nx.refl (h : St W p now S n L) : Nx W p now S n L W := ⟨h, Fr.refl _ _, fun _ h => Or.inl h⟩
theorem Nx.trans {W2 : World} {now2 : Int} {S2 : List Int} {L2 : List It} (h : Nx W p now S n L W') (k : Nx W' p now2 S2 n L2 W2) : Nx W p now2 S2 n L2 W2 :=
  ⟨k.st, h.fr.trans k.fr (fun i hi => h.ow i hi), fun i hi => (k.ow i hi).elim (h.ow i) (fun e => Or.inr (Nat.le_trans h.fr.size e))⟩
theorem Nx.below {W2 : World} (h : Nx W p now S n L W') (hb : Below W'.heap.size W' W2) : Nx W p now S n L W2 :=
  have a := h.st.below hb (Nat.le_refl _)
  ⟨a.1, h.fr.below hb, fun k hk => h.ow k ((a.2 k).1 hk)⟩
theorem Nx.of_ep {v : Value} {now' : Int} {S' : List Int} (h : St W p now S n L) (hv : ∀ v, Ep W p now S n v → Ep W' p now' S' n v) (hf : Fr (fun k => k = p) W W') : Nx W p now' S' n L W' := by
  obtain ⟨v, M, hE, hO, hp, hH, hP⟩ := h
  have hE' := hv v hE
  refine ⟨⟨v, M, hE', own_fr hO hf hp, hp, hH, hP⟩, hf.mono (fun i e => Or.inl e), fun k hk => ?_⟩
  rw [hE'.ow] at hk
  rw [hE.ow]
  exact Or.inl hk
theorem Nx.at_now (h : St W p now S n L) (x : Int) : Nx W p x S n L (W.setCell ⟨p, 0, none⟩ (.int .i64 x)) :=
  Nx.of_ep (v := .bool true) h (fun v hE => hE.set_now x) ((Fr.refl (fun k => k = p) W).setCell (p := ⟨p, 0, none⟩) (Or.inl rfl) _)
theorem Nx.slot (h : St W p now S n L) (i : Nat) (hi : i < S.length) (x : Int) : Nx W p now (S.set i x) n L (W.setCell ⟨p, 1 + i, none⟩ (.int .i64 x)) :=
  Nx.of_ep (v := .bool true) h (fun v hE => hE.set_slot i hi x) ((Fr.refl (fun k => k = p) W).setCell (p := ⟨p, 1 + i, none⟩) (Or.inl rfl) _)
theorem Nx.perm {M : List It} (h : Nx W p now S n L W') (k : L.Perm M) : Nx W p now S n M W' := by
  obtain ⟨⟨v, N, hE, hO, hp, hH, hP⟩, hf, ho⟩ := h
  exact ⟨⟨v, N, hE, hO, hp, hH, hP.trans k⟩, hf, ho⟩
theorem hpush_s (h : St W p now S n L) (hn : L.length ≤ 100000) (x : It) :
    Calls Try.prog 33 #[.iface 72 (.pointer (some ⟨p, 10, none⟩)), itv x] W fun e w' => e = .returned (.tuple #[]) ∧ Nx W p now S n (x :: L) w' := by
  obtain ⟨v, M, hE, hO, hp, hH, hP⟩ := h
  refine (hpush_c hE hO hp (by rw [hP.length_eq]; exact hn) hH x).mono ?_
  rintro e w' ⟨g, c, N, rfl, hNP, hNH, hNE, hNR, hB, hF⟩
  have hl := hO.lt
  have hpl := hE.lt
  refine ⟨rfl, ⟨_, N, hNE, hNR.own, fun k hk => ?_, hNH, hNP.trans (hP.cons x)⟩, hF.mono (fun i hi => (hE.ow i).2 hi), fun k hk => ?_⟩
  · simp only [Value.ownBlock, Option.some.injEq] at hk
    subst hk
    exact (hNE.ne hNR).symm
  · rw [hNE.ow] at hk
    rw [hE.ow]
    rcases hk with rfl | hk
    · exact Or.inl (Or.inl rfl)
    · simp only [Value.ownBlock, Option.some.injEq] at hk
      subst hk
      exact hB.elim (fun e => Or.inl (Or.inr e)) Or.inr
/-- What goes first, and the rest. -/
theorem hpop_s (h : St W p now S n L) (hn : L.length ≤ 100000) (h0 : 0 < L.length) :
    Calls Try.prog 35 #[.iface 72 (.pointer (some ⟨p, 10, none⟩))] W fun e w' => ∃ (x : It) (M : List It), e = .returned (itv x) ∧ (x :: M).Perm L ∧ (∀ y, y ∈ M → lessV y x = false) ∧ Nx W p now S n M w' ∧ ∀ k, Ow w' p k → Ow W p k := by
  obtain ⟨v, M, hE, hO, hp, hH, hP⟩ := h
  have hl := hP.length_eq
  rcases hO.2 with ⟨rfl, h2⟩ | ⟨g, cap, cur, rfl, hb, hgg, h1, h2, h3, h4⟩
  · omega
  · have hR := Row.of_own hO
    refine (hpop_c hE hR (by omega) (by omega) h1 hH).mono ?_
    rintro e w' ⟨N, rfl, hNP, hNH, hNE, hNR, hF⟩
    have ho : ∀ k, Ow w' p k → Ow W p k := fun k hk => by
      rw [hNE.ow] at hk
      rw [hE.ow]
      exact hk
    refine ⟨_, N, rfl, hNP.trans hP, fun y hy => ?_, ⟨⟨_, N, hNE, hNR.own, fun k hk => ?_, hNH, .refl _⟩, hF.mono (fun i hi => (hE.ow i).2 ?_), fun k hk => Or.inl (ho k hk)⟩, ho⟩
    · have hm : y ∈ M := hNP.subset (List.mem_cons_of_mem _ hy)
      obtain ⟨k, hk, rfl⟩ := List.mem_iff_getElem.1 hm
      have := hH.top lessV_ord lessV_self k hk
      rw [Hp.at_get hk] at this
      exact this
    · simp only [Value.ownBlock, Option.some.injEq] at hk
      subst hk
      exact (hNE.ne hNR).symm
    · rcases hi with rfl | rfl
      · exact Or.inl rfl
      · exact Or.inr rfl
/-- The first one that waits is on top. -/
theorem St.top (h : St W p now S n L) (h0 : 0 < L.length) : ∃ (g c m : Nat) (x : It), W.cell? ⟨p, 10, none⟩ = some (.slice (some ⟨g, 0, none⟩) L.length c) ∧ W.cell? ⟨g, 0, none⟩ = some (.int .i64 x.1) ∧ W.cell? ⟨g, 1, none⟩ = some (.int .i64 x.2) ∧ x ∈ L ∧ (∀ y, y ∈ L → lessV y x = false) := by
  obtain ⟨v, M, hE, hO, hp, hH, hP⟩ := h
  have hl := hP.length_eq
  rcases hO.2 with ⟨rfl, h2⟩ | ⟨g, cap, cur, rfl, hb, hgg, h1, h2, h3, h4⟩
  · omega
  · have hR := Row.of_own hO
    have hc := hR.cell 0 (by omega)
    rw [← Hp.at_get (by omega)] at hc
    refine ⟨g, cap, 0, Hp.at_ M 0, by rw [← hl]; exact hE.cwaits, hc.1, hc.2, hP.subset ?_, fun y hy => ?_⟩
    · rw [Hp.at_get (by omega)]
      exact List.getElem_mem _
    · obtain ⟨k, hk, rfl⟩ := List.mem_iff_getElem.1 (hP.symm.subset hy)
      have := hH.top lessV_ord lessV_self k hk
      rw [Hp.at_get hk] at this
      exact this
theorem St.none (h : St W p now S n []) : ∃ a c, W.cell? ⟨p, 10, none⟩ = some (.slice a 0 c) := by
  obtain ⟨v, M, hE, hO, hp, hH, hP⟩ := h
  have hl := hP.length_eq
  rcases hO.2 with ⟨rfl, h2⟩ | ⟨g, cap, cur, rfl, hb, hgg, h1, h2, h3, h4⟩
  · exact ⟨_, _, hE.cwaits⟩
  · rw [hl] at hE
    exact ⟨_, _, hE.cwaits⟩
theorem St.ep (h : St W p now S n L) : ∃ v, Ep W p now S n v := by
  obtain ⟨v, M, hE, _⟩ := h
  exact ⟨v, hE⟩
end
set_option maxHeartbeats 1000000 in
set_option maxRecDepth 100000 in
theorem retire_c {W : World} {p n : Nat} {now : Int} {S : List Int} {L : List It} (h : St W p now S n L) (hn : L.length ≤ 100000) (id : Int) :
    Calls Try.prog 15 #[.pointer (some ⟨p, 0, none⟩), .int .i64 id] W fun e w' => e = .returned (.int .i64 0) ∧ Nx W p now S n ((id, now) :: L) w' := by
  obtain ⟨v, hE⟩ := h.ep
  have HE := Aside0.mk hE
  have HP := Aside0.mk (fun W2 (h2 : Nx W p now S n L W2) => hpush_s h2.st hn (id, now))
  have HN := Aside0.mk (Nx.refl h)
  clear hE h hn
  go_enter Try.func15, Try.ntmps15
  go_wp2_with fail
  refine (made_c HE.out).mono ?_
  rintro e w1 ⟨rfl, rfl⟩
  go_wp2_with fail
  refine still_tail 9 (by kernel_rfl) (by kernel_rfl) ?_
  simp only [List.take_succ_cons, List.take_zero, List.drop_succ_cons, List.drop_zero]
  have HE2 := Aside0.mk (show Ep w1.drew p now S n v from HE.out)
  have HN2 := Aside0.mk (HN.out.below (below_drew (Below.refl w1.heap.size w1)))
  generalize w1.drew = w3 at HE2 HN2 ⊢
  repeat still_step
  still_call (now_c HE2.out)
  repeat still_step
  refine wpStill_nil ?_
  go_wp2_with fail
  refine (HP.out _ HN2.out).mono ?_
  rintro e w4 ⟨rfl, hX⟩
  have HX := Aside0.mk (HN2.out.trans hX)
  clear hX
  go_wp2_with fail
  go_ret
  exact ⟨rfl, HX.out⟩
end Go.Proofs.Ytpfeelcdbnldfaa
