/-
  (*pile).Push.
-/
import Derived.Test.YtahihhklijcghaaPop
import Derived.Deep.AppendLies
import Derived.Deep.RegionLaw
import Derived.Maps.AppendAt
namespace Go.Proofs.Ytahihhklijcghaa
open Go.RowKit Go.Proofs.YtahihhklijcghaaW.PrintWords PCascadeSorts
set_option linter.unusedVariables false
set_option linter.unusedSimpArgs false
theorem info55p : (Try.prog.info? 55).map (fun i => (i.zero.map (fun z => z.cells.size), i.size, i.bytes)) = some (some 9, 9, 88) := by kernel_rfl
theorem is_it (W : World) (x : It) : (Instr.typeAssert (itv x) 20 55 true).run Try.prog W = .ok (.tuple #[.agg (pc x).toArray, .bool true]) W := by kernel_rfl
/-- What a push leaves. -/
def Pushed (W : World) (p : Nat) (v : Value) (M : List It) (e : Ending) (w' : World) : Prop :=
  ∃ g c, e = .returned (.tuple #[]) ∧ Pt w' p (.slice (some ⟨g, 0, none⟩) M.length c) ∧ Row w' g c M ∧ (v.ownBlock = some g ∨ W.heap.size ≤ g) ∧ Fr (fun k => k = p ∨ v.ownBlock = some k) W w'
theorem Pushed.mk {W w4 : World} {p g cap : Nat} {v : Value} {L : List It} {x : It} (hlt : p < W.heap.size) (hp : ∀ k, v.ownBlock = some k → k ≠ p) (hE : Pt w4 p v) (hR : Row w4 g cap (L ++ [x]))
    (hF : Fr (fun k => v.ownBlock = some k) W w4) (hB : v.ownBlock = some g ∨ W.heap.size ≤ g) : Pushed W p v (L ++ [x]) (.returned (.tuple #[])) (w4.setCell ⟨p, 0, none⟩ (.slice (some ⟨g, 0, none⟩) (L.length + 1) cap)) := by
  have hne : g ≠ p := by
    rcases hB with e | e
    · exact hp g e
    · rintro rfl
      omega
  refine ⟨g, cap, rfl, ?_, ?_, hB, ?_⟩
  · rw [List.length_append, List.length_singleton]
    exact hE.set_ _
  · exact hR.fr ((Fr.refl (fun k => k = p) _).setCell (p := ⟨p, 0, none⟩) (Or.inl rfl) _) hne
  · exact (hF.mono (S2 := fun k => k = p ∨ v.ownBlock = some k) (fun _ h => Or.inr h)).setCell (p := ⟨p, 0, none⟩) (Or.inl (Or.inl rfl)) _
theorem nine_new (W : World) (x : It) : Nine ((W.alloc (Obj.cells (pc x).toArray 55)).drew) W.heap.size 0 x :=
  ⟨cell1 W _ 55 0, cell1 W _ 55 1, cell1 W _ 55 2, cell1 W _ 55 3, cell1 W _ 55 4, cell1 W _ 55 5, cell1 W _ 55 6, cell1 W _ 55 7, cell1 W _ 55 8⟩
theorem news2 (W : World) (o : Obj) (xs : Array Value) (t : TypeId) : ∀ j u, xs.toList[j]? = some u → ((W.alloc o).alloc (.cells xs t)).drew.cell? ((⟨W.heap.size + 1, 0, none⟩ : Addr).add j) = some u := by
  intro j u hj
  rw [add_plain, cell2b]
  simpa using hj
theorem step_item {ops : Array Oper} {o : Oper} {a : Act} {w : World} {K : Act → World → Prop} {Q : Exit → Act → World → Prop} {E : Prop} (hgd : o.guard = none) (s y : Operand)
    (ho : o.op = .call { callee := .builtin .append, args := #[s, y], argTypes := #[52, 52] }) {v : Value} {L : List It} {x : It} {ad : Addr} (hs : a.eval s = v) (hy : a.eval y = .slice (some ad) 1 1)
    (hown : w.ownsRow 0 55 9 v L.length (flat L)) (hnews : ∀ j u, (pc x)[j]? = some u → w.cell? (ad.add j) = some u) (hn : L.length ≤ 1000000)
    (h : ∀ g cap w', Row w' g cap (L ++ [x]) → w.grownBy w' v.ownBlock → (v.ownBlock = some g ∨ g = w.heap.size) → K (a.put o.dst (.slice (some ⟨g, 0, none⟩) (L.length + 1) cap)) w') :
    if Region.wanted o (yielded ops a.tmps) = true then Oper.wp Try.prog o a w K Q else E := by
  obtain ⟨i0, hi, hz⟩ := Option.map_eq_some_iff.1 info55p
  simp only [Prod.mk.injEq] at hz
  obtain ⟨hz0, hz1, hz2⟩ := hz
  obtain ⟨z, hzz, hz3⟩ := Option.map_eq_some_iff.1 hz0
  refine step_append_lies _ hgd s y 52 ho 0 55 i0 z 9 88 Try.underlying52 hi hzz hz1 hz2 hz3 (by decide) v L.length (flat L) hs hown ad 1 1 (pc x) hy rfl hnews ?_ (by decide) ?_ ?_ (Nat.zero_le _) _ rfl ?_
  · intro u hu
    exact pc_one x u hu
  · unfold maxLen
    omega
  · omega
  · intro g cap w' ho' hg hb hl
    refine h g cap w' (Row.of_own ?_) hg hb
    rw [List.length_append, flat_append]
    exact ho'
set_option maxHeartbeats 1000000 in
set_option maxRecDepth 100000 in
theorem push_m {W : World} {p : Nat} {v : Value} {L : List It} (h : Pt W p v) (ho : W.ownsRow 0 55 9 v L.length (flat L)) (hp : ∀ k, v.ownBlock = some k → k ≠ p) (hn : L.length ≤ 1000000) (x : It) :
    Calls Try.prog 26 #[.pointer (some ⟨p, 0, none⟩), .iface 55 (.agg (pc x).toArray)] W (Pushed W p v (L ++ [x])) := by
  have hw := h.cell
  have hf := h.frozen
  have hta := is_it W x
  unfold itv at hta
  have HA := Aside0.mk ((Fr.refl (fun _ => False) W).alloc (Obj.cells (pc x).toArray 55))
  have HE := Aside0.mk (h.fr HA.out (fun h => h))
  have HNN := Aside0.mk (nine_new W x)
  have hwa := HE.out.cell
  go_enter Try.func26, Try.ntmps26
  go_wp2_with fail
  obtain ⟨i0, hi, hz⟩ := Option.map_eq_some_iff.1 info55p
  simp only [Prod.mk.injEq] at hz
  obtain ⟨hz0, hz1, hz2⟩ := hz
  obtain ⟨z, hzz, hz3⟩ := Option.map_eq_some_iff.1 hz0
  have HO := Aside0.mk (show ((W.alloc (Obj.cells (pc x).toArray 55)).drew).ownsRow 0 55 9 v L.length (flat L) from ho.alloc _)
  have HF := Aside0.mk (show Fr (fun _ => False) W ((W.alloc (Obj.cells (pc x).toArray 55)).drew) from HA.out.drewN 1)
  have HE2 := Aside0.mk (show Pt ((W.alloc (Obj.cells (pc x).toArray 55)).drew) p v from HE.out)
  obtain ⟨n0, n1, n2, n3, n4, n5, n6, n7, n8⟩ := HNN.out
  have hw' : ((W.alloc (Obj.cells (pc x).toArray 55)).drew).cell? ⟨p, 0, none⟩ = some v := hwa
  have HN := Aside0.mk (news2 W (Obj.cells (pc x).toArray 55) (pc x).toArray 55)
  have HO3 := Aside0.mk (show (((W.alloc (Obj.cells (pc x).toArray 55)).alloc (Obj.cells (pc x).toArray 55)).drew).ownsRow 0 55 9 v L.length (flat L) from (ho.alloc _).alloc _)
  have HF3 := Aside0.mk (show Fr (fun _ => False) W (((W.alloc (Obj.cells (pc x).toArray 55)).alloc (Obj.cells (pc x).toArray 55)).drew) from (HA.out.alloc _).drewN 1)
  have HE3 := Aside0.mk (show Pt (((W.alloc (Obj.cells (pc x).toArray 55)).alloc (Obj.cells (pc x).toArray 55)).drew) p v from h.fr HF3.out (fun h => h))
  have hw3 := HE3.out.cell
  have hw4 : ((W.alloc (Obj.cells (pc x).toArray 55)).alloc (Obj.cells (pc x).toArray 55)).cell? ⟨p, 0, none⟩ = some v := hw3
  go_region_law (refine step_item rfl (.tmp 15) (.tmp 17) rfl rfl rfl HO3.out HN.out hn ?_; intro g cap w4 hR4 hg4 hb4; have HE4 := Aside0.mk (HE3.out.fr ((Fr.refl (fun k => v.ownBlock = some k) _).grown hg4 (fun k hk => Or.inl hk)) (fun e => hp p e rfl)); have hc4 := HE4.out.cell; have hf4 := HE4.out.frozen; have HR4 := Aside0.mk hR4; have HF4 := Aside0.mk ((HF3.out.mono (S2 := fun k => v.ownBlock = some k) (fun _ h => h.elim)).grown hg4 (fun k hk => Or.inl hk)); have HB4 : Aside0 (v.ownBlock = some g ∨ W.heap.size ≤ g) := ⟨hb4.elim Or.inl (fun e => Or.inr (by rw [e]; exact HF3.out.size))⟩; clear hR4 hg4 hb4)
  all_goals (go_wp2_with fail; refine bodyPost_end (results_none rfl _ _ _) rfl ?_; exact Pushed.mk h.lt hp HE4.out HR4.out HF4.out HB4.out)
end Go.Proofs.Ytahihhklijcghaa
