/-
  (*queue).Push and container/heap.Push over the queue of the epochs.
-/
import Derived.Test.YtpfeelcdbnldfaaPop
import Derived.Deep.AppendLies
import Derived.Deep.RegionLaw
import Derived.Maps.AppendAt
namespace Go.Proofs.Ytpfeelcdbnldfaa
open Go.RowKit Go.Proofs.YtpfeelcdbnldfaaW.PrintWords
set_option linter.unusedVariables false
set_option linter.unusedSimpArgs false
theorem info63 : (Try.prog.info? 63).map (fun i => (i.zero.map (fun z => z.cells.size), i.size, i.bytes)) = some (some 2, 2, 16) := by kernel_rfl
theorem is_it (W : World) (x : It) : (Instr.typeAssert (itv x) 20 63 true).run Try.prog W = .ok (.tuple #[.agg #[.int .i64 x.1, .int .i64 x.2], .bool true]) W := by kernel_rfl
/-- What a push leaves. -/
def Pushed (W : World) (p : Nat) (now : Int) (S : List Int) (n : Nat) (v : Value) (M : List It) (e : Ending) (w' : World) : Prop :=
  ∃ g c, e = .returned (.tuple #[]) ∧ Ep w' p now S n (.slice (some ⟨g, 0, none⟩) M.length c) ∧ Row w' g c M ∧ (v.ownBlock = some g ∨ W.heap.size ≤ g) ∧ Fr (fun k => k = p ∨ v.ownBlock = some k) W w'
theorem Pushed.mk {W w4 : World} {p n g cap : Nat} {now : Int} {S : List Int} {v : Value} {L : List It} {x : It} (hlt : p < W.heap.size) (hp : ∀ k, v.ownBlock = some k → k ≠ p) (hE : Ep w4 p now S n v) (hR : Row w4 g cap (L ++ [x]))
    (hF : Fr (fun k => v.ownBlock = some k) W w4) (hB : v.ownBlock = some g ∨ W.heap.size ≤ g) : Pushed W p now S n v (L ++ [x]) (.returned (.tuple #[])) (w4.setCell ⟨p, 10, none⟩ (.slice (some ⟨g, 0, none⟩) (L.length + 1) cap)) := by
  have hne : g ≠ p := by
    rcases hB with e | e
    · exact hp g e
    · rintro rfl
      omega
  refine ⟨g, cap, rfl, ?_, ?_, hB, ?_⟩
  · rw [List.length_append, List.length_singleton]
    exact hE.set_waits _
  · exact hR.fr ((Fr.refl (fun k => k = p) _).setCell (p := ⟨p, 10, none⟩) (Or.inl rfl) _) hne
  · exact (hF.mono (S2 := fun k => k = p ∨ v.ownBlock = some k) (fun _ h => Or.inr h)).setCell (p := ⟨p, 10, none⟩) (Or.inl (Or.inl rfl)) _
theorem news2 (W : World) (o : Obj) (xs : Array Value) (t : TypeId) : ∀ j u, xs.toList[j]? = some u → ((W.alloc o).alloc (.cells xs t)).drew.cell? ((⟨W.heap.size + 1, 0, none⟩ : Addr).add j) = some u := by
  intro j u hj
  rw [add_plain, cell2b]
  simpa using hj
theorem step_item {ops : Array Oper} {o : Oper} {a : Act} {w : World} {K : Act → World → Prop} {Q : Exit → Act → World → Prop} {E : Prop} (hgd : o.guard = none) (s y : Operand)
    (ho : o.op = .call { callee := .builtin .append, args := #[s, y], argTypes := #[47, 47] }) {v : Value} {L : List It} {x : It} {ad : Addr} (hs : a.eval s = v) (hy : a.eval y = .slice (some ad) 1 1)
    (hown : w.ownsRow 0 63 2 v L.length (flat L)) (hnews : ∀ j u, ([.int .i64 x.1, .int .i64 x.2] : List Value)[j]? = some u → w.cell? (ad.add j) = some u) (hn : L.length ≤ 1000000)
    (h : ∀ g cap w', Row w' g cap (L ++ [x]) → w.grownBy w' v.ownBlock → (v.ownBlock = some g ∨ g = w.heap.size) → K (a.put o.dst (.slice (some ⟨g, 0, none⟩) (L.length + 1) cap)) w') :
    if Region.wanted o (yielded ops a.tmps) = true then Oper.wp Try.prog o a w K Q else E := by
  obtain ⟨i0, hi, hz⟩ := Option.map_eq_some_iff.1 info63
  simp only [Prod.mk.injEq] at hz
  obtain ⟨hz0, hz1, hz2⟩ := hz
  obtain ⟨z, hzz, hz3⟩ := Option.map_eq_some_iff.1 hz0
  refine step_append_lies _ hgd s y 47 ho 0 63 i0 z 2 16 Try.underlying47 hi hzz hz1 hz2 hz3 (by decide) v L.length (flat L) hs hown ad 1 1 [.int .i64 x.1, .int .i64 x.2] hy rfl hnews ?_ (by decide) ?_ ?_ (Nat.zero_le _) _ rfl ?_
  · intro u hu
    simp at hu
    rcases hu with rfl | rfl <;> rfl
  · unfold maxLen
    omega
  · omega
  · intro g cap w' ho' hg hb hl
    refine h g cap w' (Row.of_own ?_) hg hb
    rw [List.length_append, flat_append]
    exact ho'
set_option maxHeartbeats 1000000 in
set_option maxRecDepth 100000 in
theorem push_m {W : World} {p n : Nat} {now : Int} {S : List Int} {v : Value} {L : List It} (h : Ep W p now S n v) (ho : W.ownsRow 0 63 2 v L.length (flat L)) (hp : ∀ k, v.ownBlock = some k → k ≠ p) (hn : L.length ≤ 1000000) (x : It) :
    Calls Try.prog 89 #[.pointer (some ⟨p, 10, none⟩), .iface 63 (.agg #[.int .i64 x.1, .int .i64 x.2])] W (Pushed W p now S n v (L ++ [x])) := by
  have hw := h.cwaits
  have hf := h.frozen 10
  have hta := is_it W x
  unfold itv at hta
  have HA := Aside0.mk ((Fr.refl (fun _ => False) W).alloc (Obj.cells #[Value.int .i64 x.1, Value.int .i64 x.2] 63))
  have HE := Aside0.mk (h.fr HA.out (fun h => h))
  have hb0 := cell1 W #[Value.int .i64 x.1, Value.int .i64 x.2] 63 0
  have hb1 := cell1 W #[Value.int .i64 x.1, Value.int .i64 x.2] 63 1
  simp only [List.getElem?_toArray, List.getElem?_cons_zero, List.getElem?_cons_succ] at hb0 hb1
  have hwa := HE.out.cwaits
  go_enter Try.func89, Try.ntmps89
  go_wp2_with fail
  obtain ⟨i0, hi, hz⟩ := Option.map_eq_some_iff.1 info63
  simp only [Prod.mk.injEq] at hz
  obtain ⟨hz0, hz1, hz2⟩ := hz
  obtain ⟨z, hzz, hz3⟩ := Option.map_eq_some_iff.1 hz0
  have HO := Aside0.mk (show ((W.alloc (Obj.cells #[Value.int .i64 x.1, Value.int .i64 x.2] 63)).drew).ownsRow 0 63 2 v L.length (flat L) from ho.alloc _)
  have HF := Aside0.mk (show Fr (fun _ => False) W ((W.alloc (Obj.cells #[Value.int .i64 x.1, Value.int .i64 x.2] 63)).drew) from HA.out.drewN 1)
  have HE2 := Aside0.mk (show Ep ((W.alloc (Obj.cells #[Value.int .i64 x.1, Value.int .i64 x.2] 63)).drew) p now S n v from HE.out)
  have hb0' : ((W.alloc (Obj.cells #[Value.int .i64 x.1, Value.int .i64 x.2] 63)).drew).cell? ⟨W.heap.size, 0, none⟩ = some (.int .i64 x.1) := hb0
  have hb1' : ((W.alloc (Obj.cells #[Value.int .i64 x.1, Value.int .i64 x.2] 63)).drew).cell? ⟨W.heap.size, 1, none⟩ = some (.int .i64 x.2) := hb1
  have hw' : ((W.alloc (Obj.cells #[Value.int .i64 x.1, Value.int .i64 x.2] 63)).drew).cell? ⟨p, 10, none⟩ = some v := hwa
  have HN := Aside0.mk (news2 W (Obj.cells #[Value.int .i64 x.1, Value.int .i64 x.2] 63) #[Value.int .i64 x.1, Value.int .i64 x.2] 63)
  have HO3 := Aside0.mk (show (((W.alloc (Obj.cells #[Value.int .i64 x.1, Value.int .i64 x.2] 63)).alloc (Obj.cells #[Value.int .i64 x.1, Value.int .i64 x.2] 63)).drew).ownsRow 0 63 2 v L.length (flat L) from (ho.alloc _).alloc _)
  have HF3 := Aside0.mk (show Fr (fun _ => False) W (((W.alloc (Obj.cells #[Value.int .i64 x.1, Value.int .i64 x.2] 63)).alloc (Obj.cells #[Value.int .i64 x.1, Value.int .i64 x.2] 63)).drew) from (HA.out.alloc _).drewN 1)
  have HE3 := Aside0.mk (show Ep (((W.alloc (Obj.cells #[Value.int .i64 x.1, Value.int .i64 x.2] 63)).alloc (Obj.cells #[Value.int .i64 x.1, Value.int .i64 x.2] 63)).drew) p now S n v from h.fr HF3.out (fun h => h))
  have hw3 := HE3.out.cwaits
  have hw4 : ((W.alloc (Obj.cells #[Value.int .i64 x.1, Value.int .i64 x.2] 63)).alloc (Obj.cells #[Value.int .i64 x.1, Value.int .i64 x.2] 63)).cell? ⟨p, 10, none⟩ = some v := hw3
  go_region_law (refine step_item rfl (.tmp 15) (.tmp 17) rfl rfl rfl HO3.out HN.out hn ?_; intro g cap w4 hR4 hg4 hb4; have HE4 := Aside0.mk (HE3.out.fr ((Fr.refl (fun k => v.ownBlock = some k) _).grown hg4 (fun k hk => Or.inl hk)) (fun e => hp p e rfl)); have hc4 := HE4.out.cwaits; have hf4 := HE4.out.frozen 10; have HR4 := Aside0.mk hR4; have HF4 := Aside0.mk ((HF3.out.mono (S2 := fun k => v.ownBlock = some k) (fun _ h => h.elim)).grown hg4 (fun k hk => Or.inl hk)); have HB4 : Aside0 (v.ownBlock = some g ∨ W.heap.size ≤ g) := ⟨hb4.elim Or.inl (fun e => Or.inr (by rw [e]; exact HF3.out.size))⟩; clear hR4 hg4 hb4)
  all_goals (go_wp2_with fail; refine bodyPost_end (results_none rfl _ _ _) rfl ?_; exact Pushed.mk h.lt hp HE4.out HR4.out HF4.out HB4.out)
end Go.Proofs.Ytpfeelcdbnldfaa
