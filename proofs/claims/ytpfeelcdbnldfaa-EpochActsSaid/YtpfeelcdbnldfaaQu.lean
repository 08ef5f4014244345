/-
  The queue in memory: items, two cells each; Len, Less, Swap.
-/
import Derived.Test.YtpfeelcdbnldfaaCmp
import Derived.BigRegion
namespace Go.Proofs.Ytpfeelcdbnldfaa
open Go.RowKit Go.Proofs.YtpfeelcdbnldfaaW.PrintWords
set_option linter.unusedVariables false
set_option linter.unusedSimpArgs false

abbrev It := Int × Int
/-- The items' cells. -/
def flat : List It → List Value
  | [] => []
  | x :: L => .int .i64 x.1 :: .int .i64 x.2 :: flat L
theorem flat_length : ∀ L : List It, (flat L).length = 2 * L.length
  | [] => rfl
  | x :: L => by simp only [flat, List.length_cons, flat_length L]; omega
theorem flat_append : ∀ L M : List It, flat (L ++ M) = flat L ++ flat M
  | [], _ => rfl
  | x :: L, M => by simp only [List.cons_append, flat, flat_append L M]
theorem flat_at : ∀ (L : List It) (j : Nat) (hj : j < L.length), (flat L)[2 * j]? = some (.int .i64 L[j].1) ∧ (flat L)[2 * j + 1]? = some (.int .i64 L[j].2)
  | x :: L, 0, _ => ⟨rfl, rfl⟩
  | x :: L, j + 1, h => by
    have ih := flat_at L j (by simpa using h)
    exact ih
theorem flat_set : ∀ (L : List It) (j : Nat) (x : It), flat (L.set j x) = ((flat L).set (2 * j) (.int .i64 x.1)).set (2 * j + 1) (.int .i64 x.2)
  | [], _, _ => rfl
  | y :: L, 0, x => rfl
  | y :: L, j + 1, x => by
    show _ :: _ :: flat (L.set j x) = _ :: _ :: ((flat L).set (2 * j) _).set (2 * j + 1) _
    rw [flat_set L j x]
/-- A queue's row lies in block g. -/
def Row (W : World) (g c : Nat) (L : List It) : Prop := ∃ cur : Array Value, W.heap[g]? = some (.cells cur 63 (0, 0)) ∧ cur.toList.take (2 * L.length) = flat L ∧ cur.size = c * 2 ∧ L.length ≤ c ∧ c ≤ maxLen
section
variable {W : World} {g c : Nat} {L : List It}
theorem Row.cell (h : Row W g c L) (j : Nat) (hj : j < L.length) : W.cell? ⟨g, j * 2, none⟩ = some (.int .i64 L[j].1) ∧ W.cell? ⟨g, j * 2 + 1, none⟩ = some (.int .i64 L[j].2) := by
  obtain ⟨cur, hc, ht, _⟩ := h
  have ha := flat_at L j hj
  rw [← ht] at ha
  rw [List.getElem?_take_of_lt (by omega), List.getElem?_take_of_lt (by omega)] at ha
  rw [cell_of_row W g _ cur 63 (0, 0) hc, cell_of_row W g _ cur 63 (0, 0) hc, Nat.mul_comm j 2]
  simpa using ha
theorem Row.frozen (h : Row W g c L) (i : Nat) : W.frozen? ⟨g, i, none⟩ = false := by
  obtain ⟨cur, hc, _⟩ := h
  unfold World.frozen?
  rw [hc]
  simp
theorem Row.lt (h : Row W g c L) : g < W.heap.size := by
  obtain ⟨cur, hc, _⟩ := h
  exact blk_lt hc
theorem Row.fr {T : Nat → Prop} {W' : World} (h : Row W g c L) (hf : Fr T W W') (hg : ¬ T g) : Row W' g c L := by
  obtain ⟨cur, hc, ht⟩ := h
  exact ⟨cur, (hf.block g (blk_lt hc) hg).trans hc, ht⟩
end
theorem Row.own {W : World} {g c : Nat} {L : List It} (h : Row W g c L) : W.ownsRow 0 63 2 (.slice (some ⟨g, 0, none⟩) L.length c) L.length (flat L) := by
  obtain ⟨cur, hc, ht, hs, h1, h2⟩ := h
  refine ⟨by rw [flat_length, Nat.mul_comm], .inr ⟨g, c, cur, rfl, Nat.zero_le _, hc, h1, h2, hs, ?_⟩⟩
  rw [Nat.mul_comm]
  exact ht
theorem Row.of_own {W : World} {g c : Nat} {L : List It} (h : W.ownsRow 0 63 2 (.slice (some ⟨g, 0, none⟩) L.length c) L.length (flat L)) : Row W g c L := by
  obtain ⟨_, h | ⟨g', c', cur, hv, _, hc, h1, h2, hs, ht⟩⟩ := h
  · cases h.1
  · injection hv with e1 e2 e3
    injection e1 with e1
    injection e1 with e1
    subst e1 e3
    rw [Nat.mul_comm] at ht
    exact ⟨cur, hc, ht, hs, h1, h2⟩
def lessV (a b : It) : Bool := decide (orV (cmpV a.2 b.2) (cmpV a.1 b.1) < 0)

set_option maxHeartbeats 1000000 in
set_option maxRecDepth 100000 in
theorem less_c {W : World} {g c : Nat} {L : List It} (h : Row W g c L) (i j : Nat) (hi : i < L.length) (hj : j < L.length) :
    Calls Try.prog 86 #[.slice (some ⟨g, 0, none⟩) L.length c, .int .i64 i, .int .i64 j] W fun e w' => e = .returned (.bool (lessV L[i] L[j])) ∧ Below W.heap.size W w' := by
  obtain ⟨i1, i2⟩ := h.cell i hi
  obtain ⟨j1, j2⟩ := h.cell j hj
  have HC := fun w => Aside0.mk (compare_c L[i].1 L[i].2 L[j].1 L[j].2 w)
  have HL : Aside0 (lessV L[i] L[j] = decide (orV (cmpV L[i].2 L[j].2) (cmpV L[i].1 L[j].1) < 0)) := ⟨rfl⟩
  rw [HL.out]
  generalize L[i].1 = xi at *
  generalize L[i].2 = yi at *
  generalize L[j].1 = xj at *
  generalize L[j].2 = yj at *
  have gi : (i : Int) < (L.length : Int) := by omega
  have gj : (j : Int) < (L.length : Int) := by omega
  go_enter Try.func86, Try.ntmps86
  go_wp2_with fail
  refine still_tail 8 (by kernel_rfl) (by kernel_rfl) ?_
  simp only [List.take_succ_cons, List.take_zero, List.drop_succ_cons, List.drop_zero]
  have HB := Aside0.mk (below_drew (Below.refl W.heap.size W))
  have i1' : W.drew.cell? ⟨g, i * 2, none⟩ = some (.int .i64 xi) := i1
  have i2' : W.drew.cell? ⟨g, i * 2 + 1, none⟩ = some (.int .i64 yi) := i2
  have j1' : W.drew.cell? ⟨g, j * 2, none⟩ = some (.int .i64 xj) := j1
  have j2' : W.drew.cell? ⟨g, j * 2 + 1, none⟩ = some (.int .i64 yj) := j2
  generalize W.drew = W3 at i1' i2' j1' j2' HB ⊢
  repeat still_step
  refine wpStill_nil ?_
  go_wp2_with fail
  refine (HC _).out.mono ?_
  rintro e w1 ⟨rfl, hB⟩
  have HB1 := Aside0.mk (below_step HB.out hB)
  clear hB
  go_wp2_with fail
  go_ret
  exact ⟨rfl, HB1.out⟩

theorem Row.put {W : World} {g c : Nat} {L : List It} (h : Row W g c L) (j : Nat) (hj : j < L.length) (x : It) : Row ((W.setCell ⟨g, j * 2, none⟩ (.int .i64 x.1)).setCell ⟨g, j * 2 + 1, none⟩ (.int .i64 x.2)) g c (L.set j x) := by
  obtain ⟨cur, hc, ht, hs, h1, h2⟩ := h
  refine ⟨_, set_block (set_block hc _ _) _ _, ?_, by simp [hs], by simpa using h1, h2⟩
  simp only [Array.toList_setIfInBounds, List.length_set]
  rw [List.take_set, List.take_set, ht, flat_set, Nat.mul_comm j 2]
theorem some_set {W : World} {a b : Addr} {v u : Value} (h : W.cell? b = some u) : ∃ x, (W.setCell a v).cell? b = some x := by
  by_cases e : a = b
  · subst e
    exact ⟨_, World.cell?_setCell_same _ _ _ h⟩
  · exact ⟨u, by rw [World.cell?_setCell_other _ _ _ _ e]; exact h⟩

set_option maxHeartbeats 1000000 in
set_option maxRecDepth 100000 in
theorem swap_c {W : World} {g c : Nat} {L : List It} (h : Row W g c L) (i j : Nat) (hi : i < L.length) (hj : j < L.length) :
    Calls Try.prog 87 #[.slice (some ⟨g, 0, none⟩) L.length c, .int .i64 i, .int .i64 j] W fun e w' => e = .returned (.tuple #[]) ∧ Row w' g c ((L.set i L[j]).set j L[i]) ∧ Fr (fun k => k = g) W w' := by
  obtain ⟨i1, i2⟩ := h.cell i hi
  obtain ⟨j1, j2⟩ := h.cell j hj
  have f1 := h.frozen (i * 2)
  have f2 := h.frozen (i * 2 + 1)
  have f3 := h.frozen (j * 2)
  have f4 := h.frozen (j * 2 + 1)
  have HR := Aside0.mk ((h.put i hi L[j]).put j (by rw [List.length_set]; exact hj) L[i])
  have HF : Aside0 (Fr (fun k => k = g) W ((((W.setCell ⟨g, i * 2, none⟩ (.int .i64 L[j].1)).setCell ⟨g, i * 2 + 1, none⟩ (.int .i64 L[j].2)).setCell ⟨g, j * 2, none⟩ (.int .i64 L[i].1)).setCell ⟨g, j * 2 + 1, none⟩ (.int .i64 L[i].2))) :=
    ⟨((((Fr.refl (fun k => k = g) W).setCell (p := ⟨g, i * 2, none⟩) (Or.inl rfl) _).setCell (p := ⟨g, i * 2 + 1, none⟩) (Or.inl rfl) _).setCell (p := ⟨g, j * 2, none⟩) (Or.inl rfl) _).setCell (p := ⟨g, j * 2 + 1, none⟩) (Or.inl rfl) _⟩
  generalize (L.set i L[j]).set j L[i] = M at HR ⊢
  generalize L[i].1 = xi at *
  generalize L[i].2 = yi at *
  generalize L[j].1 = xj at *
  generalize L[j].2 = yj at *
  have gi : (i : Int) < (L.length : Int) := by omega
  have gj : (j : Int) < (L.length : Int) := by omega
  obtain ⟨u1, hu1⟩ := some_set (a := ⟨g, i * 2, none⟩) (v := .int .i64 xj) j1
  obtain ⟨u3, hu3⟩ := some_set (a := ⟨g, i * 2, none⟩) (v := .int .i64 xj) j2
  obtain ⟨u2, hu2⟩ := some_set (a := ⟨g, i * 2 + 1, none⟩) (v := .int .i64 yj) hu3
  clear hu3
  go_enter Try.func87, Try.ntmps87
  go_wp2_with fail
  go_region
  go_wp2_with fail
  refine bodyPost_end (results_none rfl _ _ _) rfl ?_
  exact ⟨rfl, HR.out, HF.out.below (below_drew (Below.refl _ _))⟩
end Go.Proofs.Ytpfeelcdbnldfaa
