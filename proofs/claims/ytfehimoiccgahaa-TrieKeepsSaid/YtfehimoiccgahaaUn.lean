/-
  Tries that no call made: made, Get, Len, Nodes, Drop, All, Put; the iterator of one.
-/
import Derived.Test.YtfehimoiccgahaaStepS
import Derived.RangeFuncNested
import Derived.RangeFuncBound
import Derived.RangeFuncCalls
import Derived.RangeFuncLeaves
import Derived.RangeFuncFrom
import Derived.Shelf.Abstract
import Derived.OwnWalkIn
import Derived.TacticsInMore
import Derived.LoopNIn
import Derived.LoopIn
namespace Go.Proofs.Ytfehimoiccgahaa.S
open Go.RowKit Go.Proofs.YtfehimoiccgahaaW.PrintWords Go.Proofs.Ytfehimoiccgahaa
set_option linter.unusedVariables false
set_option linter.unusedSimpArgs false
/-- A trie that no call made. -/
def Un (W : World) (x : Option Addr) : Prop := x = none ∨ ∃ q, x = some ⟨q, 0, none⟩ ∧ W.cell? ⟨q, 0, none⟩ = some (.pointer none)
section
variable {W W' : World} {x : Option Addr}
theorem Un.below (h : Un W x) (hb : Below W.heap.size W W') : Un W' x := by
  rcases h with h | ⟨q, h, hc⟩
  · exact .inl h
  · exact .inr ⟨q, h, (hb.cell (p := ⟨q, 0, none⟩) (World.block_lt_of_cell? _ _ hc)).trans hc⟩
theorem un_made (h : Un W x) : Calls Try.prog 34 #[.pointer x] W fun e w' => e = .returned (.bool false) ∧ w' = W := by
  rcases h with rfl | ⟨q, rfl, hc⟩
  · go_enter Try.func34, Try.ntmps34
    go_wp2_with fail
    go_ret
    exact ⟨rfl, rfl⟩
  · go_enter Try.func34, Try.ntmps34
    go_wp2_with fail
    go_ret
    exact ⟨rfl, rfl⟩
theorem un_get (h : Un W x) (n : Int) : Calls Try.prog 22 #[.pointer x, .int .i64 n] W fun e w' => e = .returned (.tuple #[(.string ⟨#[]⟩), .bool false]) ∧ w' = W := by
  have H := Aside0.mk h
  clear h
  go_enter Try.func22, Try.ntmps22
  go_wp2_with fail
  refine (un_made H.out).mono ?_
  rintro e w1 ⟨rfl, rfl⟩
  go_wp2_with fail
  go_ret2
  exact ⟨rfl, rfl⟩
theorem un_len (h : Un W x) : Calls Try.prog 27 #[.pointer x] W fun e w' => e = .returned (.int .i64 0) ∧ w' = W := by
  have H := Aside0.mk h
  clear h
  go_enter Try.func27, Try.ntmps27
  go_wp2_with fail
  refine (un_made H.out).mono ?_
  rintro e w1 ⟨rfl, rfl⟩
  go_wp2_with fail
  go_ret
  exact ⟨rfl, rfl⟩
theorem un_nodes (h : Un W x) : Calls Try.prog 28 #[.pointer x] W fun e w' => e = .returned (.int .i64 0) ∧ w' = W := by
  have H := Aside0.mk h
  clear h
  go_enter Try.func28, Try.ntmps28
  go_wp2_with fail
  refine (un_made H.out).mono ?_
  rintro e w1 ⟨rfl, rfl⟩
  go_wp2_with fail
  go_ret
  exact ⟨rfl, rfl⟩
theorem un_drop (h : Un W x) (n : Int) : Calls Try.prog 18 #[.pointer x, .int .i64 n] W fun e w' => e = .returned (.pointer x) ∧ w' = W := by
  have H := Aside0.mk h
  clear h
  go_enter Try.func18, Try.ntmps18
  go_wp2_with fail
  refine (un_get H.out n).mono ?_
  rintro e w1 ⟨rfl, rfl⟩
  go_wp2_with fail
  go_ret
  exact ⟨rfl, rfl⟩
theorem all_c (x : Option Addr) : Calls Try.prog 26 #[.pointer x] W fun e w' => e = .returned (.func (.func 37) #[] #[.pointer (some ⟨W.heap.size, 0, none⟩)]) ∧ w' = W.alloc (.cells #[.pointer x] 36) := by
  go_enter Try.func26, Try.ntmps26
  go_wp2_with fail
  go_ret
  exact ⟨rfl, rfl⟩
theorem un_stops {w : World} {B m : Nat} (h : Un w x) (hm : 1 ≤ m) (ht : w.cell? ⟨B, 0, none⟩ = some (.pointer x)) :
    SeqStopsK Fence.wide m Try.prog 37 #[.pointer (some ⟨B, 0, none⟩)] (fun e : Empty => (e.elim : Array Value)) (Below w.heap.size) (fun xs => xs = []) (fun _ => False) 0 w := fun l J Jx W hW _ _ hY h0 => by
  have H := Aside0.mk (h.below hW)
  have c0 : W.cell? ⟨B, 0, none⟩ = some (.pointer x) := (hW.cell (p := ⟨B, 0, none⟩) (World.block_lt_of_cell? _ _ ht)).trans ht
  have HJ := Aside0.mk h0
  clear h h0 ht hY hW
  refine callsIn_of_wp Try.func37 rfl trivial ?_ rfl
  simp only [Try.ntmps37, List.size_toArray, List.length_cons, List.length_nil, Nat.reduceAdd, Nat.reduceSub, Array.replicate_succ, Array.replicate_zero, List.push_toArray, List.append_toArray, List.nil_append, List.cons_append]
  gi_wp2_with (refine ⟨trivial, ?_⟩; gi_at_call 34; refine (callsIn_wide.2 (un_made H.out)).mono ?_; rintro e w1 ⟨rfl, rfl⟩)
  go_end0
  exact ⟨⟨_, rfl⟩, .inl ⟨_, rfl, HJ.out⟩⟩
theorem new_val (a : Nat) (n : Int) : getV (Nd.node a (fun _ => (Nd.nil : Nd ByteArray)) (fun _ => none) 0) n = none := by
  rw [getV_val]
  split
  · exact val_new _ _
  · rfl
theorem new_look (a n : Nat) : Nd.look 4 (Nd.node a (fun _ => (Nd.nil : Nd ByteArray)) (fun _ => none) 0) n = none := by
  simp only [Nd.look, Nd.down, Nd.here]
/-- What Put leaves, of a trie that no call made. -/
def UnPut (W : World) (n : Int) (v : ByteArray) (p : Nat) (w' : World) : Prop := ∃ u, Tr w' p u ∧ getV u n = (if 0 ≤ n ∧ n < 1048576 then some v else none) ∧ Below W.heap.size W w'
set_option maxHeartbeats 1000000 in
set_option maxRecDepth 100000 in
theorem un_put (h : Un W x) (n : Int) (v : ByteArray) : Calls Try.prog 20 #[.pointer x, .int .i64 n, Value.string v] W fun e w' => ∃ p, e = .returned (.pointer (some ⟨p, 0, none⟩)) ∧ UnPut W n v p w' := by
  have hB := (Below.refl W.heap.size W).alloc (Nat.le_refl _) (.cells #[Value.string v] 9)
  have hb := heap_alloc_new W (.cells #[Value.string v] 9)
  have HT := Aside0.mk (h.below hB)
  have HB := Aside0.mk hB
  have HBK := Aside0.mk hb
  clear hB hb h
  by_cases hn : n < 0 ∨ 1048576 ≤ n
  · have HV : Aside0 (∀ a, getV (Nd.node a (fun _ => (Nd.nil : Nd ByteArray)) (fun _ => none) 0) n = (if 0 ≤ n ∧ n < 1048576 then some v else none)) := ⟨fun a => by rw [new_val, if_neg (by omega)]⟩
    have HE : Aside0 (∀ w1 w2, w1 = W.alloc (.cells #[Value.string v] 9) → Tr w2 (w1.heap.size + 1) (.node w1.heap.size (fun _ => .nil) (fun _ => none) 0) → Below w1.heap.size w1 w2 → UnPut W n v (w1.heap.size + 1) w2) := ⟨fun w1 w2 h1 ht hb => by
      subst h1
      exact ⟨_, ht, HV.out _, HB.out.trans (hb.mono HB.out.size)⟩⟩
    by_cases h0 : n < 0
    · clear hn
      go_enter Try.func20, Try.ntmps20
      go_wp2_with fail
      refine (un_made HT.out).mono ?_
      rintro e w1 ⟨rfl, rfl⟩
      go_wp2_with fail
      refine (new_c _).mono ?_
      rintro e w2 ⟨rfl, ht, hb⟩
      have HX := Aside0.mk (HE.out _ _ rfl ht hb)
      clear ht hb
      go_wp2_with fail
      go_ret
      exact ⟨_, rfl, by have := HX.out; rwa [World.size_alloc] at this⟩
    · have h1 : 1048576 ≤ n := by omega
      clear hn
      go_enter Try.func20, Try.ntmps20
      go_wp2_with fail
      refine (un_made HT.out).mono ?_
      rintro e w1 ⟨rfl, rfl⟩
      go_wp2_with fail
      refine (new_c _).mono ?_
      rintro e w2 ⟨rfl, ht, hb⟩
      have HX := Aside0.mk (HE.out _ _ rfl ht hb)
      clear ht hb
      go_wp2_with fail
      go_ret
      exact ⟨_, rfl, by have := HX.out; rwa [World.size_alloc] at this⟩
  · obtain ⟨m, hnm⟩ := Int.eq_ofNat_of_zero_le (show 0 ≤ n by omega)
    have g0 : 0 ≤ n := by omega
    have g1 : n < 1048576 := by omega
    have HM : Aside0 (m < 1048576) := ⟨by omega⟩
    have HNM := Aside0.mk hnm
    clear hn hnm
    go_enter Try.func20, Try.ntmps20
    go_wp2_with fail
    refine (un_made HT.out).mono ?_
    rintro e w1 ⟨rfl, rfl⟩
    go_wp2_with fail
    refine (new_c _).mono ?_
    rintro e w2 ⟨rfl, ht, hb⟩
    have HK2 : Aside0 (w2.heap[W.heap.size]? = some (.cells #[Value.string v] 9 (0, 0))) := ⟨(hb.block _ (blk_lt HBK.out)).trans HBK.out⟩
    have HB2 := Aside0.mk (HB.out.trans (hb.mono HB.out.size))
    have HT2 := Aside0.mk ht
    clear ht hb
    obtain ⟨a, ha⟩ : ∃ a, (W.alloc (.cells #[Value.string v] 9)).heap.size = a := ⟨_, rfl⟩
    rw [ha] at HT2 ⊢
    clear ha
    go_wp2_with fail
    refine (get_c HT2.out n).mono ?_
    rw [new_val]
    rintro e w3 ⟨he, hb⟩
    replace he : e = .returned (.tuple #[(.string ⟨#[]⟩), .bool false]) := he
    subst he
    have hr := (HT2.out.below hb).1
    replace hr : w3.cell? ⟨a + 1, 0, none⟩ = some (.pointer (some ⟨a, 0, none⟩)) := hr
    have HT3 := Aside0.mk (HT2.out.below hb)
    have HK3 : Aside0 (w3.heap[W.heap.size]? = some (.cells #[Value.string v] 9 (0, 0))) := ⟨(hb.block _ (blk_lt HK2.out)).trans HK2.out⟩
    have HB3 := Aside0.mk (HB2.out.trans (hb.mono HB2.out.size))
    clear hb HT2 HK2 HB2
    have HWC : Aside0 (Calls Try.prog 33 #[.pointer (some ⟨a, 0, none⟩), .int .i64 n, .int .i64 0, .pointer (some ⟨W.heap.size, 0, none⟩), .int .i64 1] w3 fun e w' => ∃ u, e = .returned (nptr u) ∧ Nd.With w3.heap.size m (some (W.heap.size, v)) 1 4 (Nd.node a (fun _ => (Nd.nil : Nd ByteArray)) (fun _ => none) 0) u ∧ In w' (fun b => b < w3.heap.size ∨ w3.heap.size ≤ b) u ∧ Below w3.heap.size w3 w') := ⟨by
      rw [HNM.out]
      exact with_c (some (W.heap.size, v)) (some ⟨W.heap.size, 0, none⟩) ⟨rfl⟩ 1 m HM.out ⟨by decide, by decide⟩ 4 (Nat.le_refl _) 0 ⟨rfl⟩ _ w3 _ HT3.out.2.2.1 (by show (0 : Int) ≤ 1000000; decide) HT3.out.2.2.2 (fun b x e => by
        injection e with e
        injection e with e1 e2
        subst e1 e2
        exact ⟨blk_lt HK3.out, HK3.out⟩)⟩
    go_wp2_with fail
    refine HWC.out.mono ?_
    rintro e w4 ⟨u, rfl, hw, hI, hb4⟩
    have HW4 := Aside0.mk hw
    have HI4 := Aside0.mk hI
    have HB4 := Aside0.mk (HB3.out.trans (hb4.mono HB3.out.size))
    obtain ⟨pu, hpu⟩ := nptr_ptr u
    rw [hpu]
    have HPU := Aside0.mk hpu
    clear hw hI hb4 hpu
    go_wp2_with fail
    go_ret
    have hTw := Tw.mk (W := w3) HT3.out (Nat.le_refl _) (by rw [new_look]; rfl) HW4.out HI4.out
    rw [HPU.out] at hTw
    refine ⟨_, rfl, u, hTw.1, ?_, HB4.out.alloc HB4.out.size _⟩
    rw [getV_val, if_pos ⟨g0, g1⟩, if_pos ⟨g0, g1⟩, HNM.out, Int.toNat_natCast, hTw.2.val HT3.out.2.2.1 HM.out HM.out, if_pos rfl]
    rfl
end
end Go.Proofs.Ytfehimoiccgahaa.S
