/-
  (*Table).from: the cells from one on, around; (*Entry).is.
-/
import Derived.Test.YtpgdehelamgbnaaNew
import Derived.RangeFuncNested
import Derived.RangeFuncBound
import Derived.RangeFuncCalls
import Derived.RangeFuncLeaves
import Derived.RangeFuncFrom
import Derived.Shelf.Abstract
import Derived.OwnWalkIn
import Derived.TacticsInMore
import Derived.LoopNIn
import Derived.LoopIn
namespace Go.Proofs.Ytpgdehelamgbnaa
open Go.RowKit Go.Proofs.YtpgdehelamgbnaaW Go.Proofs.YtpgdehelamgbnaaW.PrintWords PMemoActs
set_option linter.unusedVariables false
set_option linter.unusedSimpArgs false
/-- What a round is told of a cell. -/
abbrev encs2 (L : List (Option (Nat × S31))) (i : Fin L.length) : Array Value := #[.int .i64 (i.val : Int), .pointer (ptrv L[i.val])]
/-- The cells from h on, around. -/
def seqv (L : List (Option (Nat × S31))) (h : Nat) : List (Fin L.length) := (List.finRange L.length).map fun k => ⟨(h + k.val) % L.length, Nat.mod_lt _ (Nat.lt_of_le_of_lt (Nat.zero_le _) k.isLt)⟩
theorem seqv_length (L : List (Option (Nat × S31))) (h : Nat) : (seqv L h).length = L.length := by simp [seqv]
theorem seqv_take (L : List (Option (Nat × S31))) (h k : Nat) (hk : k < L.length) (j : Fin L.length) (hj : (h + k) % L.length = j.val) : (seqv L h).take (k + 1) = (seqv L h).take k ++ [j] := by
  rw [List.take_succ_eq_append_getElem (by rw [seqv_length]; exact hk)]
  congr 1
  simp only [seqv, List.getElem_map, List.getElem_finRange]
  congr 1
  exact Fin.ext hj
set_option maxHeartbeats 1000000 in
theorem from_c {W : World} (x : Option Addr) (h : Int) : Calls Try.prog 29 #[.pointer x, .int .i64 h] W fun e w' =>
    e = .returned (.func (.func 35) #[] #[.pointer (some ⟨W.heap.size, 0, none⟩), .pointer (some ⟨W.heap.size + 1, 0, none⟩)]) ∧ w' = (W.alloc (.cells #[.pointer x] 24)).alloc (.cells #[.int .i64 h] 3) := by
  go_enter Try.func29, Try.ntmps29
  go_wp2_with fail
  go_ret
  exact ⟨by simp, rfl⟩
set_option maxHeartbeats 1000000 in
theorem is_c {W : World} {F : Nat → Prop} {b : Nat} {y : S31} (h : En W F b y) (ep nd : Int) : Calls Try.prog 30 #[.pointer (some ⟨b, 0, none⟩), .int .i64 ep, .int .i64 nd] W fun e w' => e = .returned (.bool (y.f0 == ep && y.f1 == nd)) ∧ W = w' := by
  obtain ⟨v, hb, _⟩ := h
  have c0 : W.cell? ⟨b, 0, none⟩ = some (.int .i64 y.f0) := (blk_cell hb 0).trans rfl
  have c1 : W.cell? ⟨b, 1, none⟩ = some (.int .i64 y.f1) := (blk_cell hb 1).trans rfl
  clear hb
  cases d0 : (y.f0 == ep) with
  | true =>
    go_enter Try.func30, Try.ntmps30
    go_wp2_with fail
    go_ret
    exact ⟨by simp, rfl⟩
  | false =>
    go_enter Try.func30, Try.ntmps30
    go_wp2_with fail
    go_ret
    exact ⟨by simp, rfl⟩
set_option maxHeartbeats 2000000 in
/-- The loop function over a table's cells. -/
theorem from_stops {w : World} {F : Nat → Prop} {x : Option Addr} {q Bt Bh h m : Nat} {L : List (Option (Nat × S31))} (hT : Tb w F x q L) (hh : h < L.length ∨ L.length = 0) (hm : 1 ≤ m)
    (ht : w.cell? ⟨Bt, 0, none⟩ = some (.pointer x)) (hc : w.cell? ⟨Bh, 0, none⟩ = some (.int .i64 (h : Int))) :
    SeqStopsK Fence.wide m Try.prog 35 #[.pointer (some ⟨Bt, 0, none⟩), .pointer (some ⟨Bh, 0, none⟩)] (encs2 L) (Below w.heap.size) (fun xs => xs = seqv L h) (fun pre => pre <+: seqv L h) L.length w := fun l J Jx W hW _ _ hY h0 => by
  have hl : (L.length : Int) ≤ 65536 := by have := hT.1; omega
  have HT := Aside0.mk hT
  have HC := Aside0.mk (And.intro ht hc)
  have HH := Aside0.mk hh
  have HY := Aside0.mk hY
  have lt : Aside0 (Bt < w.heap.size) := ⟨World.block_lt_of_cell? _ _ ht⟩
  have lh : Aside0 (Bh < w.heap.size) := ⟨World.block_lt_of_cell? _ _ hc⟩
  have cells : Aside0 (∀ W', Below w.heap.size w W' → W'.cell? ⟨Bt, 0, none⟩ = some (.pointer x) ∧ W'.cell? ⟨Bh, 0, none⟩ = some (.int .i64 (h : Int))) := ⟨fun W' hb => ⟨(hb.cell (p := ⟨Bt, 0, none⟩) lt.out).trans HC.out.1, (hb.cell (p := ⟨Bh, 0, none⟩) lh.out).trans HC.out.2⟩⟩
  have HB := Aside0.mk hW
  clear hT ht hc hh hY lt lh HC hW
  refine callsIn_of_wp Try.func35 rfl trivial ?_ rfl
  simp only [Try.ntmps35, List.size_toArray, List.length_cons, List.length_nil, Nat.reduceAdd, Nat.reduceSub, Array.replicate_succ, Array.replicate_zero, List.push_toArray, List.append_toArray, List.nil_append, List.cons_append]
  obtain ⟨c0, c1⟩ := cells.out W HB.out
  gi_wp2_with (refine ⟨trivial, ?_⟩; gi_at_call 27; refine (callsIn_wide.2 (size_c (HT.out.below HB.out))).mono ?_; rintro e w1 ⟨rfl, rfl⟩)
  clear c0 c1
  have HJ0 := Aside0.mk h0
  clear h0
  gi_loopw [10] (fun v wr => ∃ k : Nat, v = .int .i64 k ∧ k ≤ L.length ∧ Aside0 (J ((seqv L h).take k) wr) ∧ Aside0 (Below w.heap.size w wr)) (fun v _ => L.length - (intOf v).toNat)
  case atStart => exact ⟨0, rfl, Nat.zero_le _, HJ0, HB⟩
  case round =>
    obtain ⟨k, rfl, hk, HJ, HBr⟩ := hrel
    by_cases hlt : k < L.length
    · have g1 : (k : Int) < (L.length : Int) := by omega
      have hhl : h < L.length := by rcases HH.out with h1 | h1 <;> omega
      have g2 : (h : Int) ≤ 65536 := by omega
      obtain ⟨c0, c1⟩ := cells.out wr HBr.out
      obtain ⟨j, hj⟩ : ∃ j : Nat, (h + k) % L.length = j := ⟨_, rfl⟩
      have hjl : j < L.length := by rw [← hj]; exact Nat.mod_lt _ (by omega)
      have hji : ((h : Int) + (k : Int)) % (L.length : Int) = (j : Int) := by rw [← hj]; push_cast; rfl
      have hn0 : ¬ L = [] := by rintro rfl; simp at hlt
      have g3 : (j : Int) < (L.length : Int) := by omega
      have HS : Aside0 ((seqv L h).take (k + 1) = (seqv L h).take k ++ [⟨j, hjl⟩]) := ⟨seqv_take L h k hlt ⟨j, hjl⟩ hj⟩
      obtain ⟨u, hu⟩ : ∃ u, L[j] = u := ⟨_, rfl⟩
      have HLk : Aside0 (look L (j : Int) = u) := ⟨by rw [look_nat L j hjl, hu]⟩
      obtain ⟨fn, tmps, assign, body, hy, hR⟩ := HY.out _ ⟨j, hjl⟩ wr HJ.out (by rw [List.length_take, seqv_length]; omega)
      dsimp only [encs2] at hy
      rw [hu] at hy
      have HR := Aside0.mk hR
      have HLt := Aside0.mk hlt
      clear hR hj hlt hu
      gi_wp2_with (refine ⟨trivial, ?_⟩; gi_at_call 32; refine (callsIn_wide.2 (at_c (HT.out.below HBr.out) (j : Int))).mono ?_; rintro e w1 ⟨rfl, rfl⟩; rw [HLk.out]; unfold cellv)
      refine HR.out.mono ?_
      rintro e w3 (⟨rfl, hJ3, hb3⟩ | ⟨rfl, hJx3⟩)
      · have HJ3 : Aside0 (J ((seqv L h).take (k + 1)) w3) := ⟨by rw [HS.out]; exact hJ3⟩
        have HB3 : Aside0 (Below w.heap.size w w3) := ⟨HBr.out.trans hb3⟩
        clear hJ3 hb3 hy c0 c1
        gi_wp2
        exact ⟨⟨k + 1, by go_num, HLt.out, HJ3, HB3⟩, by have := HLt.out; simp [intOf]; omega⟩
      · have HX3 : Aside0 (Jx ((seqv L h).take (k + 1)) w3) := ⟨by rw [HS.out]; exact hJx3⟩
        clear hJx3 hy c0 c1
        gi_wp2
        refine bodyPost_ret (results_none rfl _ _ _) rfl ?_
        exact ⟨⟨_, rfl⟩, .inr ⟨_, List.take_prefix _ _, HX3.out⟩⟩
    · have hkl : k = L.length := by omega
      subst hkl
      gi_wp2
      go_end0
      refine ⟨⟨_, rfl⟩, .inl ⟨_, rfl, ?_⟩⟩
      have := HJ.out
      rw [List.take_of_length_le (by rw [seqv_length]; exact Nat.le_refl _)] at this
      exact this
end Go.Proofs.Ytpgdehelamgbnaa
