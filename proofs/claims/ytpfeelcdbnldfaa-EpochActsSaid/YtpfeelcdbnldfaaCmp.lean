/-
  Which of two items goes first: cmp.Compare, cmp.Or, (Item).compare.
-/
import Derived.Test.YtpfeelcdbnldfaaPin
import Derived.Deep.RegionWith
import Derived.StillTailTactics
namespace Go.Proofs.Ytpfeelcdbnldfaa
open Go.RowKit Go.Proofs.YtpfeelcdbnldfaaW.PrintWords
set_option linter.unusedVariables false
set_option linter.unusedSimpArgs false

def cmpV (x y : Int) : Int := if x < y then -1 else if y < x then 1 else 0
theorem cmp_c (x y : Int) (W : World) : Calls Try.prog 50 #[.int .i64 x, .int .i64 y] W fun e w' => e = .returned (.int .i64 (cmpV x y)) ∧ w' = W := by
  by_cases a : x < y
  · have h : Aside0 (cmpV x y = -1) := ⟨if_pos a⟩
    rw [h.out]
    go_enter Try.func50, Try.ntmps50
    go_wp2
    go_ret
    exact ⟨rfl, rfl⟩
  · by_cases b : y < x
    · have h : Aside0 (cmpV x y = 1) := ⟨by unfold cmpV; rw [if_neg a, if_pos b]⟩
      rw [h.out]
      go_enter Try.func50, Try.ntmps50
      go_wp2
      go_ret
      exact ⟨rfl, rfl⟩
    · have h : Aside0 (cmpV x y = 0) := ⟨by unfold cmpV; rw [if_neg a, if_neg b]⟩
      rw [h.out]
      go_enter Try.func50, Try.ntmps50
      go_wp2
      go_ret
      exact ⟨rfl, rfl⟩
def orV (x y : Int) : Int := if x = 0 then y else x
theorem or_c (x y : Int) {W : World} {b : Nat} (hx : W.cell? ⟨b, 0, none⟩ = some (.int .i64 x)) (hy : W.cell? ⟨b, 1, none⟩ = some (.int .i64 y)) :
    Calls Try.prog 49 #[.slice (some ⟨b, 0, none⟩) 2 2] W fun e w' => e = .returned (.int .i64 (orV x y)) ∧ w' = W := by
  go_enter Try.func49, Try.ntmps49
  go_wp2_with fail
  go_loop [8] (fun i => ∃ k : Nat, i = .int .i64 k ∧ k ≤ 2 ∧ Aside0 (0 < k → x = 0) ∧ Aside0 (1 < k → y = 0)) (fun i => 2 - (intOf i).toNat)
  case atStart => exact ⟨0, rfl, Nat.zero_le _, ⟨fun h => by omega⟩, ⟨fun h => by omega⟩⟩
  case round =>
    obtain ⟨k, rfl, hk, H1, H2⟩ := hrel
    by_cases h0 : k = 0
    · subst h0
      by_cases h : x = 0
      · have hb : (x != 0) = false := by simpa using h
        have HX := Aside0.mk h
        clear h
        go_wp2_with fail
        go_round
        case rel => exact ⟨1, by go_num, by omega, ⟨fun _ => HX.out⟩, ⟨fun h => by omega⟩⟩
        case measure => simp [intOf]
      · have hb : (x != 0) = true := by simpa using h
        have HX : Aside0 (orV x y = x) := ⟨if_neg h⟩
        clear h
        go_wp2_with fail
        go_ret
        rw [HX.out]
        exact ⟨rfl, rfl⟩
    · by_cases h1 : k = 1
      · subst h1
        have hx0 := H1.out (by omega)
        by_cases h : y = 0
        · have hb : (y != 0) = false := by simpa using h
          have HY := Aside0.mk h
          have HX := Aside0.mk hx0
          clear h hx0
          go_wp2_with fail
          go_round
          case rel => exact ⟨2, by go_num, by omega, ⟨fun _ => HX.out⟩, ⟨fun h => HY.out⟩⟩
          case measure => simp [intOf]
        · have hb : (y != 0) = true := by simpa using h
          have HX : Aside0 (orV x y = y) := ⟨if_pos hx0⟩
          clear h hx0
          go_wp2_with fail
          go_ret
          rw [HX.out]
          exact ⟨rfl, rfl⟩
      · have h2 : k = 2 := by omega
        subst h2
        have HX : Aside0 (orV x y = 0) := ⟨by unfold orV; rw [if_pos (H1.out (by omega)), H2.out (by omega)]⟩
        clear h0 h1
        go_wp2_with fail
        go_ret
        rw [HX.out]
        exact ⟨rfl, rfl⟩
theorem still_tail {P : Program} {id : Nat} {Q : Exit → Act → World → Prop} {a : Act} {w : World} {l : List Oper} (n : Nat) (hm : P.follows .mixedOrders = true) (hB : Region.lexTailB .any l.toArray n = true)
    (h : wpStill P l.toArray w.drew (fun a' => wpList P l.toArray Q (l.drop n) a' w.drew) (l.take n) a) : (Code.region id l.toArray true).wp P Q a w :=
  wp_region_still_tail n hm hB h
theorem cell1 (W : World) (xs : Array Value) (t : TypeId) (i : Nat) : (W.alloc (.cells xs t)).cell? ⟨W.heap.size, i, none⟩ = xs[i]? :=
  cell_of_row _ _ i xs t (0, 0) (heap_alloc_new W (.cells xs t))
theorem cell2b (W : World) (o1 : Obj) (xs : Array Value) (t : TypeId) (i : Nat) : ((W.alloc o1).alloc (.cells xs t)).drew.cell? ⟨W.heap.size + 1, i, none⟩ = xs[i]? := by
  have h := heap_alloc_new (W.alloc o1) (.cells xs t)
  have e : (W.alloc o1).heap.size = W.heap.size + 1 := by simp
  rw [e] at h
  exact cell_of_row ((W.alloc o1).alloc (.cells xs t)) _ i xs t (0, 0) h
theorem cell2a (W : World) (xs : Array Value) (o2 : Obj) (t : TypeId) (i : Nat) : ((W.alloc (.cells xs t)).alloc o2).drew.cell? ⟨W.heap.size, i, none⟩ = xs[i]? := by
  have h := heap_alloc_new W (.cells xs t)
  have h2 : ((W.alloc (.cells xs t)).alloc o2).heap[W.heap.size]? = some (.cells xs t (0, 0)) := blk_alloc h o2
  exact cell_of_row ((W.alloc (.cells xs t)).alloc o2) _ i xs t (0, 0) h2
theorem below2 (W : World) (o1 o2 : Obj) : Below W.heap.size W ((W.alloc o1).alloc o2).drew :=
  below_drew (((Below.refl _ _).alloc (Nat.le_refl _) _).alloc (by simp) _)
set_option maxHeartbeats 1000000 in
set_option maxRecDepth 100000 in
theorem compare_c (i j k l : Int) (W : World) :
    Calls Try.prog 38 #[.agg #[.int .i64 i, .int .i64 j], .agg #[.int .i64 k, .int .i64 l]] W fun e w' => e = .returned (.int .i64 (orV (cmpV j l) (cmpV i k))) ∧ Below W.heap.size W w' := by
  have c1 := fun t : Nat => cell2a W #[Value.int .i64 i, Value.int .i64 j] (Obj.cells #[Value.int .i64 k, Value.int .i64 l] 63) 63 t
  have c2 := fun t : Nat => cell2b W (Obj.cells #[Value.int .i64 i, Value.int .i64 j] 63) #[Value.int .i64 k, Value.int .i64 l] 63 t
  have HB := Aside0.mk (below2 W (Obj.cells #[Value.int .i64 i, Value.int .i64 j] 63) (Obj.cells #[Value.int .i64 k, Value.int .i64 l] 63))
  go_enter Try.func38, Try.ntmps38
  go_wp2_with fail
  refine still_tail 10 (by kernel_rfl) (by kernel_rfl) ?_
  simp only [List.take_succ_cons, List.take_zero, List.drop_succ_cons, List.drop_zero]
  generalize (((W.alloc (Obj.cells #[Value.int .i64 i, Value.int .i64 j] 63)).alloc (Obj.cells #[Value.int .i64 k, Value.int .i64 l] 63)).drew) = W3 at c1 c2 HB ⊢
  have a0 : W3.cell? ⟨W.heap.size, 0, none⟩ = some (.int .i64 i) := c1 0
  have a1 : W3.cell? ⟨W.heap.size, 1, none⟩ = some (.int .i64 j) := c1 1
  have b0 : W3.cell? ⟨W.heap.size + 1, 0, none⟩ = some (.int .i64 k) := c2 0
  have b1 : W3.cell? ⟨W.heap.size + 1, 1, none⟩ = some (.int .i64 l) := c2 1
  clear c1 c2
  repeat still_step
  still_call (cmp_c _ _ _)
  repeat still_step
  still_call (cmp_c _ _ _)
  refine wpStill_nil ?_
  have c3 := fun t : Nat => cell1 W3 #[Value.int .i64 (cmpV j l), Value.int .i64 (cmpV i k)] 3 t
  have HB3 := Aside0.mk (HB.out.alloc HB.out.size (Obj.cells #[Value.int .i64 (cmpV j l), Value.int .i64 (cmpV i k)] 3))
  have d0 : (W3.alloc (Obj.cells #[Value.int .i64 (cmpV j l), Value.int .i64 (cmpV i k)] 3)).cell? ⟨W3.heap.size, 0, none⟩ = some (.int .i64 (cmpV j l)) := c3 0
  have d1 : (W3.alloc (Obj.cells #[Value.int .i64 (cmpV j l), Value.int .i64 (cmpV i k)] 3)).cell? ⟨W3.heap.size, 1, none⟩ = some (.int .i64 (cmpV i k)) := c3 1
  clear c3
  go_wp2_with fail
  refine (or_c (cmpV j l) (cmpV i k) d0 d1).mono ?_
  rintro e w1 ⟨rfl, rfl⟩
  go_wp2_with fail
  go_ret
  exact ⟨rfl, HB3.out⟩
end Go.Proofs.Ytpfeelcdbnldfaa
