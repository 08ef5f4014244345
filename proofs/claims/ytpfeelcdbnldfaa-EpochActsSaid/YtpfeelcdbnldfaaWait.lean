/-
  All that wait, in order: (*Epochs).Waiting.
-/
import Derived.Test.YtpfeelcdbnldfaaLaid
import Derived.Test.YtpfeelcdbnldfaaClone
namespace Go.Proofs.Ytpfeelcdbnldfaa
open Go.RowKit Go.Proofs.YtpfeelcdbnldfaaW.PrintWords
open Go.Sort (grow alloc_eq_grow grow_grow SWO putCells mapBlock onCells putRow)
set_option linter.unusedVariables false
set_option linter.unusedSimpArgs false

theorem drew_grow' (W : World) (os : Array Obj) : (grow W os).drew = grow (W.drewN 1) os := rfl
set_option maxHeartbeats 1000000 in
set_option maxRecDepth 100000 in
/-- (Item).compare, and just how the world has grown. -/
theorem compare_g (i j k l : Int) (W : World) :
    Calls Try.prog 38 #[.agg #[.int .i64 i, .int .i64 j], .agg #[.int .i64 k, .int .i64 l]] W fun e w' => e = .returned (.int .i64 (orV (cmpV j l) (cmpV i k))) ∧ ∃ q os, w' = grow (W.drewN q) os := by
  have c1 := fun t : Nat => cell2a W #[Value.int .i64 i, Value.int .i64 j] (Obj.cells #[Value.int .i64 k, Value.int .i64 l] 63) 63 t
  have c2 := fun t : Nat => cell2b W (Obj.cells #[Value.int .i64 i, Value.int .i64 j] 63) #[Value.int .i64 k, Value.int .i64 l] 63 t
  have HB : Aside0 (∃ q os, ((W.alloc (Obj.cells #[Value.int .i64 i, Value.int .i64 j] 63)).alloc (Obj.cells #[Value.int .i64 k, Value.int .i64 l] 63)).drew = grow (W.drewN q) os) :=
    ⟨1, _, by rw [alloc_eq_grow, alloc_eq_grow, grow_grow, drew_grow']⟩
  go_enter Try.func38, Try.ntmps38
  go_wp2_with fail
  refine still_tail 10 (by kernel_rfl) (by kernel_rfl) ?_
  simp only [List.take_succ_cons, List.take_zero, List.drop_succ_cons, List.drop_zero]
  generalize (((W.alloc (Obj.cells #[Value.int .i64 i, Value.int .i64 j] 63)).alloc (Obj.cells #[Value.int .i64 k, Value.int .i64 l] 63)).drew) = W3 at c1 c2 HB ⊢
  have a0 : W3.cell? ⟨W.heap.size, 0, none⟩ = some (.int .i64 i) := c1 0
  have a1 : W3.cell? ⟨W.heap.size, 1, none⟩ = some (.int .i64 j) := c1 1
  have b0 : W3.cell? ⟨W.heap.size + 1, 0, none⟩ = some (.int .i64 k) := c2 0
  have b1 : W3.cell? ⟨W.heap.size + 1, 1, none⟩ = some (.int .i64 l) := c2 1
  clear c1 c2
  repeat still_step
  still_call (cmp_c _ _ _)
  repeat still_step
  still_call (cmp_c _ _ _)
  refine wpStill_nil ?_
  have c3 := fun t : Nat => cell1 W3 #[Value.int .i64 (cmpV j l), Value.int .i64 (cmpV i k)] 3 t
  have HB3 : Aside0 (∃ q os, W3.alloc (Obj.cells #[Value.int .i64 (cmpV j l), Value.int .i64 (cmpV i k)] 3) = grow (W.drewN q) os) := ⟨by
    obtain ⟨q, os, e⟩ := HB.out
    exact ⟨q, _, by rw [e, alloc_eq_grow, grow_grow]⟩⟩
  have d0 : (W3.alloc (Obj.cells #[Value.int .i64 (cmpV j l), Value.int .i64 (cmpV i k)] 3)).cell? ⟨W3.heap.size, 0, none⟩ = some (.int .i64 (cmpV j l)) := c3 0
  have d1 : (W3.alloc (Obj.cells #[Value.int .i64 (cmpV j l), Value.int .i64 (cmpV i k)] 3)).cell? ⟨W3.heap.size, 1, none⟩ = some (.int .i64 (cmpV i k)) := c3 1
  clear c3
  go_wp2_with fail
  refine (or_c (cmpV j l) (cmpV i k) d0 d1).mono ?_
  rintro e w1 ⟨rfl, rfl⟩
  go_wp2_with fail
  go_ret
  exact ⟨rfl, HB3.out⟩

def encIt (x : It) : List Value := [.int .i64 x.1, .int .i64 x.2]
def cfIt (x y : It) : Int := orV (cmpV x.2 y.2) (cmpV x.1 y.1)
theorem lt_it : Go.Proofs.ltOf cfIt = lessV := rfl
theorem swo_it : SWO (Go.Proofs.ltOf cfIt) := by
  rw [lt_it]
  refine ⟨lessV_self, fun x y z h1 h2 => ?_, fun x y z h1 h2 => ?_⟩
  · rw [lessV_iff] at *
    omega
  · rw [lessV_not] at *
    omega
theorem total_it (x y : It) (h1 : (Go.Proofs.ltOf cfIt) x y = false) (h2 : (Go.Proofs.ltOf cfIt) y x = false) : x = y := by
  rw [lt_it] at h1 h2
  rw [lessV_not] at h1 h2
  exact Prod.ext (by omega) (by omega)
theorem cmp_lays (blk off size : Nat) (w : World) : Go.Proofs.CmpLays Try.prog 38 #[] encIt 2 cfIt blk off size w :=
  fun _ _ _ _ x y => compare_g x.1 x.2 y.1 y.2 _
theorem flatK_flat (L : List It) : (Go.Sort.flatK encIt 2 L.toArray).toList = flat L := by
  apply List.ext_getElem?
  intro t
  by_cases h : t < L.length * 2
  · have ha := flat_at L (t / 2) (by omega)
    have hs : t < (Go.Sort.flatK encIt 2 L.toArray).size := by simp; omega
    rw [Array.getElem?_toList, Array.getElem?_eq_getElem hs, ← getElem!_pos _ t hs, Go.Sort.get_flatK _ _ _ _ (by simpa using h)]
    have hd : L.toArray[t / 2]! = L[t / 2]'(by omega) := by
      rw [getElem!_pos _ _ (by simp; omega)]
      simp
    rw [hd]
    have h2 : t = 2 * (t / 2) ∨ t = 2 * (t / 2) + 1 := by omega
    rcases h2 with e | e
    · have : t % 2 = 0 := by omega
      rw [this]
      have e2 : (flat L)[t]? = (flat L)[2 * (t / 2)]? := by rw [← e]
      rw [e2, ha.1]
      rfl
    · have : t % 2 = 1 := by omega
      rw [this]
      have e2 : (flat L)[t]? = (flat L)[2 * (t / 2) + 1]? := by rw [← e]
      rw [e2, ha.2]
      rfl
  · rw [List.getElem?_eq_none (by simp; omega), List.getElem?_eq_none (by rw [flat_length]; omega)]
theorem own_holds {W : World} {b g c : Nat} {L : List It} (h : W.ownsRow b 63 2 (.slice (some ⟨g, 0, none⟩) L.length c) L.length (flat L)) : Go.Sort.HoldsK encIt 2 W g 0 L.toArray := by
  intro j hj
  have hc := h.cells (g := g) rfl j (flat L)[j]! (by
    have : j < (flat L).length := by rw [flat_length]; simp at hj; omega
    rw [List.getElem?_eq_getElem this, getElem!_pos _ j this])
  rw [add_plain] at hc
  refine ⟨?_, ?_⟩
  · rw [Nat.zero_add, hc, ← flatK_flat]
    have hj2 : j < (Go.Sort.flatK encIt 2 L.toArray).toList.length := by simpa using hj
    rw [getElem!_pos _ j hj2, getElem!_pos _ j (by simpa using hj)]
    rfl
  · obtain ⟨g', cap, cur, e, _, hh, _⟩ := h.2.resolve_left (fun e => by cases e.1)
    injection e with e
    injection e with e
    injection e with e
    subst e
    simp [World.frozen?, hh]
/-- The row, put anew. -/
theorem own_put {W : World} {b g c n : Nat} {L M : List It} {os : Array Obj} (h : W.ownsRow b 63 2 (.slice (some ⟨g, 0, none⟩) L.length c) L.length (flat L)) (hl : M.length = L.length) :
    (Go.Proofs.sortWorldK encIt 2 W g 0 n M.toArray os).ownsRow b 63 2 (.slice (some ⟨g, 0, none⟩) M.length c) M.length (flat M) ∧ Fr (fun k => k = g) W (Go.Proofs.sortWorldK encIt 2 W g 0 n M.toArray os) := by
  obtain ⟨g', cap, cur, e, hb, hh, h1, h2, h3, h4⟩ := h.2.resolve_left (fun e => by cases e.1)
  injection e with e1 e2 e3
  injection e1 with e1
  injection e1 with e1
  subst e1 e3
  have hlt := blk_lt hh
  have hF : (Go.Sort.flatK encIt 2 M.toArray).size = M.length * 2 := by simp
  have hblock : (Go.Proofs.sortWorldK encIt 2 W g 0 n M.toArray os).heap[g]? = some (.cells (putCells id 0 (Go.Sort.flatK encIt 2 M.toArray) cur) 63 (0, 0)) := by
    unfold Go.Proofs.sortWorldK grow Go.Sort.putRowK putRow mapBlock Go.Sort.ahead
    simp only
    rw [Array.getElem?_append_left (by simpa using hlt), Array.getElem?_modify, if_pos rfl, hh]
    rfl
  constructor
  · refine ⟨by rw [flat_length, Nat.mul_comm], .inr ⟨g, c, _, rfl, hb, hblock, by omega, h2, by simp [putCells, h3], ?_⟩⟩
    rw [← flatK_flat]
    apply List.ext_getElem?
    intro t
    by_cases ht : t < M.length * 2
    · rw [List.getElem?_take_of_lt ht, Array.getElem?_toList, Array.getElem?_toList, Array.getElem?_eq_getElem (show t < (Go.Sort.flatK encIt 2 M.toArray).size by omega)]
      unfold putCells
      rw [Array.getElem?_mapIdx, Array.getElem?_eq_getElem (show t < cur.size by omega), Option.map_some, if_pos ⟨by omega, by omega⟩, Nat.sub_zero, getElem!_pos _ t (by omega)]
      rfl
    · rw [List.getElem?_eq_none (by simp; omega), List.getElem?_eq_none (by simp; omega)]
  · refine ⟨rfl, rfl, rfl, ?_, fun k hk hn => ?_⟩
    · unfold Go.Proofs.sortWorldK grow Go.Sort.putRowK putRow mapBlock Go.Sort.ahead
      simp
    · unfold Go.Proofs.sortWorldK grow Go.Sort.putRowK putRow mapBlock Go.Sort.ahead
      simp only
      rw [Array.getElem?_append_left (by simpa using hk), Array.getElem?_modify, if_neg (Ne.symm hn)]
/-- In order. -/
def sortV (L : List It) : List It := L.mergeSort fun x y => !lessV y x
theorem sort_c {W : World} {b : Nat} {v : Value} {L : List It} (h : W.ownsRow b 63 2 v L.length (flat L)) (hn : L.length ≤ 1000000) :
    Calls Try.prog 37 #[v, .func (.func 38) #[] #[]] W fun e w' => e = .returned (.tuple #[]) ∧ w'.ownsRow b 63 2 v L.length (flat (sortV L)) ∧ Fr (fun k => v.ownBlock = some k) W w' := by
  rcases h.2 with ⟨rfl, h0⟩ | ⟨g, cap, cur, rfl, hb, hgg, h1, h2, h3, h4⟩
  · have hL : L = [] := List.eq_nil_of_length_eq_zero h0
    subst hL
    refine (AnyF.slices_SortFunc_none sortItems none 0 _ W).mono ?_
    rintro e w' ⟨rfl, rfl⟩
    refine ⟨rfl, ?_, Fr.refl _ _⟩
    have : sortV [] = [] := by unfold sortV; simp
    rw [this]
    exact h
  · have hlen : (sortV L).length = L.length := (List.mergeSort_perm L _).length_eq
    have hcon := AnyQ.slices_SortFunc_total sortItems 2 Try.isAgg63 Try.sizeOf63 encIt (fun _ => rfl) (fun x v hv => by simp [encIt] at hv; rcases hv with rfl | rfl <;> rfl) cfIt swo_it 38 #[] g 0 cap L.toArray W (enters_of Try.func38 (by kernel_rfl) rfl) (cmp_lays g 0 _ W) (own_holds h) (blk_lt hgg) (by simp; omega) total_it
    refine hcon.mono ?_
    rintro e w' ⟨rfl, n, os, rfl⟩
    obtain ⟨ho, hf⟩ := own_put (n := n) (os := os) (M := sortV L) h hlen
    rw [hlen] at ho
    exact ⟨rfl, ho, hf.mono (fun k hk => by subst hk; rfl)⟩
theorem sortV_perm (L : List It) : (sortV L).Perm L := List.mergeSort_perm L _
theorem sortV_sorted (L : List It) : (sortV L).Pairwise (fun a b => lessV b a = false) := by
  have h := List.pairwise_mergeSort (le := fun x y => !lessV y x) (fun a b c h1 h2 => by
    simp only [Bool.not_eq_true'] at *
    rw [lessV_not] at *
    omega) (fun a b => by
    simp only [Bool.or_eq_true, Bool.not_eq_true']
    rw [lessV_not, lessV_not]
    omega) L
  exact h.imp (fun h => by simpa using h)
/-- What is sorted is one. -/
theorem sorted_one : ∀ {L M : List It}, L.Perm M → L.Pairwise (fun a b => lessV b a = false) → M.Pairwise (fun a b => lessV b a = false) → L = M
  | [], M, h, _, _ => by simpa using h.symm
  | x :: L, [], h, _, _ => by simp at h
  | x :: L, y :: M, h, h1, h2 => by
    rw [List.pairwise_cons] at h1 h2
    have e : x = y := by
      have a1 : x ∈ y :: M := h.subset List.mem_cons_self
      have a2 : y ∈ x :: L := h.symm.subset List.mem_cons_self
      rcases List.mem_cons.1 a1 with e | e
      · exact e
      · rcases List.mem_cons.1 a2 with e2 | e2
        · exact e2.symm
        · have b1 := h2.1 x e
          have b2 := h1.1 y e2
          exact total_it x y b1 b2
    subst e
    rw [sorted_one (List.Perm.cons_inv h) h1.2 h2.2]
theorem own_fr' {T : Nat → Prop} {W W' : World} {b b2 : Nat} {t : TypeId} {z : Nat} {v : Value} {m : Nat} {xs : List Value} (h : W.ownsRow b t z v m xs) (hb : b2 ≤ b) : W.ownsRow b2 t z v m xs := own_less h hb
set_option maxHeartbeats 1000000 in
theorem waiting_c {W : World} {p n : Nat} {now : Int} {S : List Int} {L : List It} (h : St W p now S n L) (hn : L.length ≤ 100000) :
    Calls Try.prog 17 #[.pointer (some ⟨p, 0, none⟩)] W fun e w' => ∃ v N, e = .returned v ∧ N.Perm L ∧ N.Pairwise (fun a b => lessV b a = false) ∧ w'.ownsRow W.heap.size 63 2 v N.length (flat N) ∧ Below W.heap.size W w' := by
  obtain ⟨v, M, hE, hO, hp, hH, hP⟩ := h
  have hl := hP.length_eq
  have HE := Aside0.mk hE
  have HM := Aside0.mk (hP)
  have hcw := hE.cwaits
  have HCL := Aside0.mk (clone_c hO (by omega))
  have HS := Aside0.mk (fun (W2 : World) (b : Nat) (v2 : Value) (h2 : W2.ownsRow b 63 2 v2 M.length (flat M)) => sort_c h2 (by omega))
  clear hE hO hp hH hP hn hl
  go_enter Try.func17, Try.ntmps17
  go_wp2_with fail
  refine (made_c HE.out).mono ?_
  rintro e w1 ⟨rfl, rfl⟩
  go_wp2_with fail
  refine HCL.out.mono ?_
  rintro e w2 ⟨v2, rfl, hO2, hB2⟩
  have HO2 := Aside0.mk hO2
  have HB2 := Aside0.mk hB2
  clear hO2 hB2
  go_wp2_with fail
  refine (HS.out _ _ _ HO2.out).mono ?_
  rintro e w3 ⟨rfl, hO3, hF3⟩
  have HO3 := Aside0.mk hO3
  have HB3 := Aside0.mk (HB2.out.trans (hF3.to_below HB2.out.size (fun k hk => (HO2.out.lt k hk).1)))
  clear hO3 hF3
  go_wp2_with fail
  go_ret
  refine ⟨_, sortV M, rfl, (sortV_perm M).trans HM.out, sortV_sorted M, ?_, HB3.out⟩
  rw [(sortV_perm M).length_eq]
  exact HO3.out
end Go.Proofs.Ytpfeelcdbnldfaa
