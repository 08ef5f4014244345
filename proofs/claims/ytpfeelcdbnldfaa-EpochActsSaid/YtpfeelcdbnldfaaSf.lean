/-
  EpochSafe, plainly and in memory: what waits, when what was retired, and what is gone.
-/
import Derived.Test.YtpfeelcdbnldfaaActs
namespace Go.Proofs.Ytpfeelcdbnldfaa
open Go.RowKit Go.Proofs.YtpfeelcdbnldfaaW.PrintWords
set_option linter.unusedVariables false
set_option linter.unusedSimpArgs false

/-- What waits (L), the epochs in which each was retired (wh), and what is gone (G). -/
structure Sf (L : List It) (wh : List Int) (G : List Bool) : Prop where
  mem : ∀ x, x ∈ L → ∃ i : Nat, x.1 = i ∧ i < wh.length ∧ wh.getD i 0 = x.2 ∧ G.getD i false = false
  nodup : (L.map Prod.fst).Nodup
  all : ∀ i : Nat, i < wh.length → G.getD i false = true ∨ ∃ x, x ∈ L ∧ x.1 = (i : Int)
  out : ∀ i : Nat, wh.length ≤ i → G.getD i false = false
theorem Sf.start (m : Nat) : Sf [] [] (List.replicate m false) := by
  refine ⟨fun x h => by simp at h, by simp, fun i h => by simp at h, fun i _ => ?_⟩
  rw [List.getD_eq_getElem?_getD]
  by_cases h : i < m
  · rw [List.getElem?_replicate_of_lt h]
    rfl
  · rw [List.getElem?_eq_none (by simp; omega)]
    rfl
theorem Sf.perm {L M : List It} {wh : List Int} {G : List Bool} (h : Sf L wh G) (p : M.Perm L) : Sf M wh G :=
  ⟨fun x hx => h.mem x (p.subset hx), (p.map Prod.fst).nodup_iff.2 h.nodup, fun i hi => (h.all i hi).imp id (fun ⟨x, a, b⟩ => ⟨x, p.symm.subset a, b⟩), h.out⟩
theorem getD_append_one (wh : List Int) (x : Int) (i : Nat) : (wh ++ [x]).getD i 0 = if i = wh.length then x else wh.getD i 0 := by
  rw [List.getD_eq_getElem?_getD, List.getD_eq_getElem?_getD]
  by_cases e : i = wh.length
  · subst e
    rw [if_pos rfl, List.getElem?_append_right (Nat.le_refl _), Nat.sub_self]
    rfl
  · rw [if_neg e]
    by_cases h : i < wh.length
    · rw [List.getElem?_append_left h]
    · rw [List.getElem?_eq_none (by simp; omega), List.getElem?_eq_none (by omega)]
theorem Sf.retire {L : List It} {wh : List Int} {G : List Bool} (h : Sf L wh G) (now : Int) : Sf (((wh.length : Int), now) :: L) (wh ++ [now]) G := by
  constructor
  · intro x hx
    rcases List.mem_cons.1 hx with rfl | hx
    · exact ⟨wh.length, rfl, by simp, by rw [getD_append_one, if_pos rfl], h.out _ (Nat.le_refl _)⟩
    · obtain ⟨i, a, b, c, d⟩ := h.mem x hx
      exact ⟨i, a, by rw [List.length_append, List.length_singleton]; omega, by rw [getD_append_one, if_neg (by omega)]; exact c, d⟩
  · rw [List.map_cons, List.nodup_cons]
    refine ⟨fun hm => ?_, h.nodup⟩
    obtain ⟨x, hx, e⟩ := List.mem_map.1 hm
    obtain ⟨i, a, b, _⟩ := h.mem x hx
    rw [a] at e
    simp only at e
    omega
  · intro i hi
    rw [List.length_append, List.length_singleton] at hi
    by_cases e : i = wh.length
    · subst e
      exact Or.inr ⟨_, List.mem_cons_self, rfl⟩
    · exact (h.all i (by omega)).imp id (fun ⟨x, a, b⟩ => ⟨x, List.mem_cons_of_mem _ a, b⟩)
  · intro i hi
    rw [List.length_append, List.length_singleton] at hi
    exact h.out i (by omega)
theorem getD_set_b (G : List Bool) (i j : Nat) (hi : i < G.length) : (G.set i true).getD j false = if j = i then true else G.getD j false := by
  rw [List.getD_eq_getElem?_getD, List.getD_eq_getElem?_getD, List.getElem?_set]
  by_cases e : i = j
  · subst e
    rw [if_pos rfl, if_pos hi, if_pos rfl]
    rfl
  · rw [if_neg e, if_neg (Ne.symm e)]
theorem Sf.mark {L : List It} {wh : List Int} {G : List Bool} {x : It} (h : Sf (x :: L) wh G) (i : Nat) (hi : x.1 = i) (hl : i < G.length) : Sf L wh (G.set i true) := by
  have hn := h.nodup
  rw [List.map_cons, List.nodup_cons] at hn
  constructor
  · intro y hy
    obtain ⟨j, a, b, c, d⟩ := h.mem y (List.mem_cons_of_mem _ hy)
    refine ⟨j, a, b, c, ?_⟩
    rw [getD_set_b _ _ _ hl, if_neg]
    · exact d
    · rintro rfl
      exact hn.1 (List.mem_map.2 ⟨y, hy, by rw [a, hi]⟩)
  · exact hn.2
  · intro j hj
    rw [getD_set_b _ _ _ hl]
    by_cases e : j = i
    · rw [if_pos e]
      exact Or.inl rfl
    · rw [if_neg e]
      rcases h.all j hj with a | ⟨y, a, b⟩
      · exact Or.inl a
      · rcases List.mem_cons.1 a with rfl | a
        · rw [hi] at b
          omega
        · exact Or.inr ⟨y, a, b⟩
  · intro j hj
    rw [getD_set_b _ _ _ hl]
    obtain ⟨k, a, b, _⟩ := h.mem x List.mem_cons_self
    rw [if_neg (by omega)]
    exact h.out j hj
theorem Sf.done {wh : List Int} {G : List Bool} (h : Sf [] wh G) (i : Nat) (hi : i < wh.length) : G.getD i false = true :=
  (h.all i hi).elim id (fun ⟨x, a, _⟩ => by simp at a)

/-- All that the law holds, in memory. -/
structure Wd (w wr : World) (p : Nat) (now : Int) (S : List Int) (n : Nat) (L : List It) (vw : Value) (wh : List Int) (gb m : Nat) (G : List Bool) : Prop where
  st : St wr p now S n L
  below : Below w.heap.size w wr
  owB : ∀ k, Ow wr p k → w.heap.size ≤ k
  wh : wr.ownsRow w.heap.size 3 1 vw wh.length (nums .i64 wh)
  gn : wr.ownsRow w.heap.size 4 1 (.slice (some ⟨gb, 0, none⟩) m m) m (encs Value.bool G)
  d1 : ∀ k, vw.ownBlock = some k → ¬ Ow wr p k
  d2 : ¬ Ow wr p gb
  d3 : vw.ownBlock ≠ some gb
section
variable {w wr wr' : World} {p n gb m : Nat} {now now' : Int} {S S' : List Int} {L L' : List It} {vw : Value} {wh : List Int} {G : List Bool}
theorem Wd.gb_lt (h : Wd w wr p now S n L vw wh gb m G) : w.heap.size ≤ gb ∧ gb < wr.heap.size := h.gn.lt gb rfl
theorem Wd.nx (h : Wd w wr p now S n L vw wh gb m G) (k : Nx wr p now' S' n L' wr') : Wd w wr' p now' S' n L' vw wh gb m G := by
  have hgb := h.gb_lt
  refine ⟨k.st, h.below.trans (k.fr.to_below h.below.size h.owB), fun i hi => ?_, own_fr h.wh k.fr h.d1, own_fr h.gn k.fr (fun i e => by injection e with e; subst e; exact h.d2), fun i hi ho => ?_, fun ho => ?_, h.d3⟩
  · exact (k.ow i hi).elim (h.owB i) (fun e => Nat.le_trans h.below.size e)
  · exact (k.ow i ho).elim (h.d1 i hi) (fun e => by have := (h.wh.lt i hi).2; omega)
  · exact (k.ow gb ho).elim h.d2 (fun e => by omega)
theorem Wd.by_below (h : Wd w wr p now S n L vw wh gb m G) (k : Below wr.heap.size wr wr') : Wd w wr' p now S n L vw wh gb m G :=
  h.nx ((Nx.refl h.st).below k)
theorem Wd.append {vw' : Value} {x : Int} (h : Wd w wr p now S n L vw wh gb m G) (ho : wr'.ownsRow w.heap.size 3 1 vw' (wh ++ [x]).length (nums .i64 (wh ++ [x]))) (hg : wr.grownBy wr' vw.ownBlock)
    (hb : vw'.ownBlock = vw.ownBlock ∨ ∃ b, vw'.ownBlock = some b ∧ wr.heap.size ≤ b) : Wd w wr' p now S n L vw' (wh ++ [x]) gb m G := by
  have hgb := h.gb_lt
  have hf : Fr (fun k => vw.ownBlock = some k) wr wr' := (Fr.refl _ _).grown hg (fun k hk => Or.inl hk)
  obtain ⟨hs, how⟩ := h.st.fr hf (fun k hk e => h.d1 k e hk)
  refine ⟨hs, h.below.trans (hf.to_below h.below.size (fun i hi => (h.wh.lt i hi).1)), fun k hk => h.owB k ((how k).1 hk), ho, own_fr h.gn hf (fun i e => by injection e with e; subst e; exact h.d3), fun k hk hk2 => ?_, fun hk => h.d2 ((how gb).1 hk), fun e => ?_⟩
  · rw [how] at hk2
    rcases hb with e | ⟨b, e, hb⟩
    · rw [e] at hk
      exact h.d1 k hk hk2
    · rw [e] at hk
      injection hk with hk
      subst hk
      have := h.st.ow_lt _ hk2
      omega
  · rcases hb with e2 | ⟨b, e2, hb⟩
    · rw [e2] at e
      exact h.d3 e
    · rw [e2] at e
      injection e with e
      omega
theorem Wd.mark (h : Wd w wr p now S n L vw wh gb m G) (i : Nat) : Wd w (wr.setCell ⟨gb, i, none⟩ (.bool true)) p now S n L vw wh gb m (G.set i true) := by
  have hgb := h.gb_lt
  obtain ⟨ho, hg⟩ := own_store_of (enc := Value.bool) h.gn i true
  have hf : Fr (fun k => k = gb) wr (wr.setCell ⟨gb, i, none⟩ (.bool true)) := (Fr.refl (fun k => k = gb) wr).setCell (p := ⟨gb, i, none⟩) (Or.inl rfl) _
  obtain ⟨hs, how⟩ := h.st.fr hf (fun k hk e => by subst e; exact h.d2 hk)
  refine ⟨hs, h.below.trans (hf.to_below h.below.size (fun i hi => by subst hi; exact hgb.1)), fun k hk => h.owB k ((how k).1 hk), own_fr h.wh hf (fun k hk e => by subst e; exact h.d3 hk), by simpa using ho, fun k hk hk2 => h.d1 k hk ((how k).1 hk2), fun hk => h.d2 ((how gb).1 hk), h.d3⟩
theorem Wd.at_gone (h : Wd w wr p now S n L vw wh gb m G) (i : Nat) (hi : i < m) : wr.cell? ⟨gb, i, none⟩ = some (.bool (G.getD i false)) ∧ wr.frozen? ⟨gb, i, none⟩ = false := by
  have := own_at_of (enc := Value.bool) (d := false) h.gn i (by omega) (by omega)
  simpa [rdOf] using this
theorem Wd.glen (h : Wd w wr p now S n L vw wh gb m G) : G.length = m := by
  have := h.gn.1
  simpa [encs] using this
theorem Wd.at_when (h : Wd w wr p now S n L vw wh gb m G) (i : Nat) (hi : i < wh.length) : ∃ g c, vw = .slice (some ⟨g, 0, none⟩) wh.length c ∧ wr.cell? ⟨g, i, none⟩ = some (.int .i64 (wh.getD i 0)) := by
  obtain ⟨g, c, rfl, _, _⟩ := h.wh.form (by omega)
  have := own_at h.wh i (by omega) (by omega)
  refine ⟨g, c, rfl, ?_⟩
  simpa [rd] using this.1
theorem Wd.when (h : Wd w wr p now S n L vw wh gb m G) : ∃ A c, vw = .slice A wh.length c := own_slice h.wh
end
end Go.Proofs.Ytpfeelcdbnldfaa
