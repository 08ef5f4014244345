/-
  Rows of entries (the cascade's or the document's): eight cells each.
-/
import Derived.Test.YtahihhklijcghaaInit
namespace Go.Proofs.Ytahihhklijcghaa
open Go.RowKit Go.Proofs.YtahihhklijcghaaW.PrintWords PCascadeSorts
set_option linter.unusedVariables false
set_option linter.unusedSimpArgs false
/-- The cells of an entry. -/
abbrev pe (x : S26) : List Value := [.string x.f0, .string x.f1, .int .i64 x.f2, .bool x.f3, .int .i64 x.f4.f0, .int .i64 x.f4.f1, .int .i64 x.f4.f2, .int .i64 x.f5]
theorem pe_one (x : S26) : ∀ v ∈ pe x, v.oneCell' = true := by
  intro v hv
  simp [pe] at hv
  rcases hv with rfl | rfl | rfl | rfl | rfl | rfl | rfl | rfl <;> rfl
/-- A row of entries of the call's own. -/
def Rw (t : TypeId) (W : World) (base : Nat) (v : Value) (L : List S26) : Prop := ∃ inner, W.ownsRow base t 8 v L.length inner ∧ Reps (fun x c => c = pe x) 8 L inner
section
variable {t : TypeId} {W W' : World} {base : Nat} {v : Value} {L : List S26}
theorem Rw.nil (t : TypeId) (W : World) (base : Nat) : Rw t W base (.slice none 0 0) [] := ⟨[], own_nil _ _ _ _, Reps.none _ _⟩
theorem Rw.below (h : Rw t W base v L) (hb : Below W.heap.size W W') : Rw t W' base v L := by
  obtain ⟨i, h1, h2⟩ := h
  exact ⟨i, pw_own_below h1 hb, h2⟩
theorem Rw.fr {T : Nat → Prop} (h : Rw t W base v L) (hf : Fr T W W') (hT : ∀ k, v.ownBlock = some k → ¬ T k) : Rw t W' base v L := by
  obtain ⟨i, ⟨h0, h1⟩, h2⟩ := h
  refine ⟨i, ⟨h0, ?_⟩, h2⟩
  rcases h1 with h1 | ⟨k, cap, cur, rfl, hb, hc, h3, h4, h5, h6⟩
  · exact Or.inl h1
  · exact Or.inr ⟨k, cap, cur, rfl, hb, (hf.block k (blk_lt hc) (hT k rfl)).trans hc, h3, h4, h5, h6⟩
theorem Rw.ne {t' : TypeId} {cs : Array Value} {g : Nat} (h : Rw t W base v L) (hg : W.heap[g]? = some (.cells cs t' (0, 0))) (hne : t ≠ t') : ∀ k, v.ownBlock = some k → k ≠ g := by
  obtain ⟨i, h1, h2⟩ := h
  intro k hk e
  subst e
  exact own_ne h1 hg hne hk.symm
theorem Rw.snoc {v1 : Value} {inner : List Value} {x : S26} (h2 : Reps (fun x c => c = pe x) 8 L inner) (h : W'.ownsRow base t 8 v1 (L.length + 1) (inner ++ pe x)) : Rw t W' base v1 (L ++ [x]) :=
  ⟨_, by rw [List.length_append, List.length_singleton]; exact h, h2.snoc rfl rfl⟩
theorem Rw.slice_ (h : Rw t W base v L) : ∃ A c, v = .slice A L.length c ∧ L.length ≤ c := by
  obtain ⟨i, h1, h2⟩ := h
  obtain ⟨A, c, rfl⟩ := own_slice h1
  exact ⟨A, c, rfl, own_le h1⟩
theorem Rw.C26 {A : Option Addr} {n c : Nat} (h : Rw 26 W base (.slice A n c) L) : n = L.length ∧ n ≤ c ∧ Kd.C k26 W A L.length L := by
  obtain ⟨A', c', e, hl⟩ := h.slice_
  injection e with e1 e2 e3
  subst e1 e2 e3
  refine ⟨rfl, hl, ?_⟩
  obtain ⟨i, h1, h2⟩ := h
  obtain ⟨A', c', e, h3⟩ := own_reads_row h1 (h2.imp_ (R' := k26.K W) (fun p c hc => by rw [hc]; exact k26_mk W p)) rfl
  injection e with e1 e2 e3
  subst e1
  exact h3
end
/-- The entry in the document's form. -/
def to33 (x : S26) : S33 := ⟨x.f0, x.f1, x.f2, x.f3, x.f4, x.f5⟩
theorem Rw.C33 {W : World} {base : Nat} {L : List S26} {A : Option Addr} {n c : Nat} (h : Rw 33 W base (.slice A n c) L) : n = L.length ∧ n ≤ c ∧ Kd.C k33 W A (L.map to33).length (L.map to33) := by
  obtain ⟨A', c', e, hl⟩ := h.slice_
  injection e with e1 e2 e3
  subst e1 e2 e3
  refine ⟨rfl, hl, ?_⟩
  obtain ⟨i, h1, h2⟩ := h
  obtain ⟨A', c', e, h3⟩ := own_reads_row h1 h2 rfl
  injection e with e1 e2 e3
  subst e1
  obtain ⟨h4, h5, h6⟩ := h3
  refine ⟨rfl, by rw [List.length_map]; exact h5, fun hn => ?_⟩
  rw [List.length_map] at hn
  obtain ⟨ad, e, hc⟩ := h6 hn
  refine ⟨ad, e, fun j p hj => ?_⟩
  rw [List.getElem?_map] at hj
  obtain ⟨y, hy, rfl⟩ := Option.map_eq_some_iff.1 hj
  obtain ⟨cc, h7, h8, h9⟩ := hc j y hy
  refine ⟨cc, h7, ?_, h9⟩
  rw [h8]
  exact k33_mk W (to33 y)
/-- The eight cells at an address. -/
def Eight (W : World) (ad : Addr) (x : S26) : Prop :=
  W.cell? ad = some (.string x.f0) ∧ W.cell? ⟨ad.block, ad.off + 1, none⟩ = some (.string x.f1) ∧ W.cell? ⟨ad.block, ad.off + 2, none⟩ = some (.int .i64 x.f2) ∧ W.cell? ⟨ad.block, ad.off + 3, none⟩ = some (.bool x.f3) ∧ W.cell? ⟨ad.block, ad.off + 4, none⟩ = some (.int .i64 x.f4.f0) ∧ W.cell? ⟨ad.block, ad.off + 5, none⟩ = some (.int .i64 x.f4.f1) ∧ W.cell? ⟨ad.block, ad.off + 6, none⟩ = some (.int .i64 x.f4.f2) ∧ W.cell? ⟨ad.block, ad.off + 7, none⟩ = some (.int .i64 x.f5)
theorem ent_at {W : World} {A : Option Addr} {l : List S26} (h : Kd.C k26 W A l.length l) (k : Nat) (hk : k < l.length) : ∃ ad, A = some ad ∧ Eight W (ad.add (k * 8)) l[k] := by
  obtain ⟨ad, e, h0, h1, h2, h3, h4, h5, h6, h7⟩ := at_T26 h (k : Int) (by omega) (by omega)
  rw [rd_at l k hk, Int.toNat_natCast] at *
  exact ⟨ad, e, h0, h1, h2, h3, h4, h5, h6, h7⟩
theorem Eight.below {W W' : World} {ad : Addr} {x : S26} (h : Eight W ad x) (hb : Below W.heap.size W W') : Eight W' ad x := by
  obtain ⟨h0, h1, h2, h3, h4, h5, h6, h7⟩ := h
  exact ⟨pw_cell_below hb h0, pw_cell_below hb h1, pw_cell_below hb h2, pw_cell_below hb h3, pw_cell_below hb h4, pw_cell_below hb h5, pw_cell_below hb h6, pw_cell_below hb h7⟩
/-- A pile that this call made. -/
def Pl (W0 W : World) (p : Nat) (M : List It) : Prop :=
  ∃ g c, Pt W p (.slice (some ⟨g, 0, none⟩) M.length c) ∧ Row W g c M ∧ W0.heap.size ≤ g ∧ W0.heap.size ≤ p ∧ Below W0.heap.size W0 W
section
variable {W0 W W' : World} {p : Nat} {M : List It}
theorem Pl.below (h : Pl W0 W p M) (hb : Below W.heap.size W W') : Pl W0 W' p M := by
  obtain ⟨g, c, h1, h2, h3, h4, h5⟩ := h
  have hf := Fr.of_below hb (fun _ => False)
  exact ⟨g, c, h1.fr hf (fun h => h), h2.fr hf (fun h => h), h3, h4, below_step h5 hb⟩
theorem Pl.push (h : Pl W0 W p M) (hn : M.length ≤ 1000000) (x : It) :
    Calls Try.prog 26 #[.pointer (some ⟨p, 0, none⟩), .iface 55 (.agg (pc x).toArray)] W fun e w' => e = .returned (.tuple #[]) ∧ Pl W0 w' p (M ++ [x]) := by
  obtain ⟨g, c, h1, h2, h3, h4, h5⟩ := h
  refine (push_m h1 h2.own (fun k hk => by cases hk; exact (h1.ne h2).symm) hn x).mono ?_
  rintro e w' ⟨g', c', rfl, a1, a2, a3, a4⟩
  refine ⟨rfl, g', c', a1, a2, ?_, h4, ?_⟩
  · rcases a3 with a3 | a3
    · cases a3
      exact h3
    · exact Nat.le_trans h5.size a3
  · have := a4.to_below (B := W0.heap.size) h5.size (fun i hi => by
      rcases hi with rfl | hi
      · exact h4
      · cases hi; exact h3)
    exact ⟨this.os.trans h5.os, this.tape.trans h5.tape, this.output.trans h5.output, Nat.le_trans h5.size this.size, fun i hi => (this.block i hi).trans (h5.block i hi)⟩
theorem Pl.init (h : Pl W0 W p M) (hn : M.length ≤ 1000000) :
    Calls Try.prog 27 #[.iface 50 (.pointer (some ⟨p, 0, none⟩))] W fun e w' => ∃ M', e = .returned (.tuple #[]) ∧ M'.Perm M ∧ Hp.Heap lessV M' M'.length ∧ Pl W0 w' p M' := by
  obtain ⟨g, c, h1, h2, h3, h4, h5⟩ := h
  refine (init_c h1 h2 rfl hn).mono ?_
  rintro e w' ⟨M', rfl, a1, a2, a3, a4⟩
  refine ⟨M', rfl, a1, by rw [a1.length_eq]; exact a2, g, c, ?_, a3, h3, h4, ?_⟩
  · rw [a1.length_eq]
    exact h1.fr a4 (h1.ne h2)
  · have := a4.to_below (B := W0.heap.size) h5.size (fun i hi => by subst hi; exact h3)
    exact ⟨this.os.trans h5.os, this.tape.trans h5.tape, this.output.trans h5.output, Nat.le_trans h5.size this.size, fun i hi => (this.block i hi).trans (h5.block i hi)⟩
theorem Pl.pop (h : Pl W0 W p M) (hn : M.length ≤ 1000000) (h0 : 0 < M.length) (hh : Hp.Heap lessV M M.length) :
    Calls Try.prog 29 #[.iface 50 (.pointer (some ⟨p, 0, none⟩))] W fun e w' => ∃ M', e = .returned (itv (Hp.at_ M 0)) ∧ (Hp.at_ M 0 :: M').Perm M ∧ Hp.Heap lessV M' M'.length ∧ Pl W0 w' p M' ∧ (∀ base v O, Rw 26 W base v O → Rw 26 w' base v O) := by
  obtain ⟨g, c, h1, h2, h3, h4, h5⟩ := h
  have hc : M.length ≤ c := by
    obtain ⟨_, _, _, _, hc, _⟩ := h2
    exact hc
  refine (hpop_c h1 h2 hn h0 hc hh).mono ?_
  rintro e w' ⟨M', rfl, a1, a2, a3, a4, a5⟩
  refine ⟨M', rfl, a1, a2, ⟨g, c, a3, a4, h3, h4, ?_⟩, ?_⟩
  · have := a5.to_below (B := W0.heap.size) h5.size (fun i hi => by
      rcases hi with rfl | rfl
      · exact h4
      · exact h3)
    exact ⟨this.os.trans h5.os, this.tape.trans h5.tape, this.output.trans h5.output, Nat.le_trans h5.size this.size, fun i hi => (this.block i hi).trans (h5.block i hi)⟩
  · intro base v O hO
    refine hO.fr a5 (fun k hk hT => ?_)
    rcases hT with rfl | rfl
    · exact hO.ne h1 (by decide) _ hk rfl
    · obtain ⟨cur, hc, _⟩ := h2
      exact hO.ne hc (by decide) _ hk rfl
theorem Pl.grown {base : Nat} {v : Value} {O : List S26} (h : Pl W0 W p M) (hO : Rw 26 W base v O) (hg : W.grownBy W' v.ownBlock) (hB : Below W0.heap.size W0 W') : Pl W0 W' p M := by
  obtain ⟨g, c, h1, h2, h3, h4, h5⟩ := h
  have hf : Fr (fun k => v.ownBlock = some k) W W' := (Fr.refl _ _).grown hg (fun k hk => Or.inl hk)
  refine ⟨g, c, h1.fr hf (fun e => hO.ne h1 (by decide) _ e rfl), h2.fr hf ?_, h3, h4, hB⟩
  obtain ⟨cur, hc, _⟩ := h2
  exact fun e => hO.ne hc (by decide) _ e rfl
theorem Pl.len (h : Pl W0 W p M) : ∃ g c, W.cell? ⟨p, 0, none⟩ = some (.slice (some ⟨g, 0, none⟩) M.length c) := by
  obtain ⟨g, c, h1, _⟩ := h
  exact ⟨g, c, h1.cell⟩
end
end Go.Proofs.Ytahihhklijcghaa
