/-
  The epochs in memory, what a call leaves as it was, and the calls that read or write its numbers.
-/
import Derived.Test.YtpfeelcdbnldfaaRows
import Derived.Test.YtpfeelcdbnldfaaWKept
import Derived.Test.YtpfeelcdbnldfaaWMore
import Derived.WalkKit
import Derived.ProofKit
import Derived.BigQuiet
import Derived.Deep.QuietTactic
import Derived.Laws.LoneSync
namespace Go.Proofs.Ytpfeelcdbnldfaa
open Go.RowKit Go.Proofs.YtpfeelcdbnldfaaW.PrintWords
set_option linter.unusedVariables false
set_option linter.unusedSimpArgs false

/-- What a call leaves as it was: all but the blocks of S, and what is new. -/
structure Fr (S : Nat → Prop) (w w' : World) : Prop where
  os : w'.os = w.os
  tape : w'.tape = w.tape
  output : w'.output = w.output
  size : w.heap.size ≤ w'.heap.size
  block : ∀ k, k < w.heap.size → ¬ S k → w'.heap[k]? = w.heap[k]?
theorem Fr.refl (S : Nat → Prop) (w : World) : Fr S w w := ⟨rfl, rfl, rfl, Nat.le_refl _, fun _ _ _ => rfl⟩
theorem Fr.trans {S S2 : Nat → Prop} {a b c : World} (h : Fr S a b) (k : Fr S2 b c) (hs : ∀ i, S2 i → S i ∨ a.heap.size ≤ i) : Fr S a c :=
  ⟨k.os.trans h.os, k.tape.trans h.tape, k.output.trans h.output, Nat.le_trans h.size k.size, fun i hi hn =>
    (k.block i (Nat.lt_of_lt_of_le hi h.size) (fun h2 => (hs i h2).elim hn (fun h3 => by omega))).trans (h.block i hi hn)⟩
theorem Fr.mono {S S2 : Nat → Prop} {a b : World} (h : Fr S a b) (hs : ∀ i, S i → S2 i) : Fr S2 a b :=
  ⟨h.os, h.tape, h.output, h.size, fun i hi hn => h.block i hi (fun k => hn (hs i k))⟩
theorem Fr.of_below {a b : World} (h : Below a.heap.size a b) (S : Nat → Prop) : Fr S a b := ⟨h.os, h.tape, h.output, h.size, fun i hi _ => h.block i hi⟩
theorem Fr.below {S : Nat → Prop} {a b c : World} (h : Fr S a b) (k : Below b.heap.size b c) : Fr S a c := h.trans (Fr.of_below k (fun _ => False)) (fun _ hk => hk.elim)
theorem Fr.setCell {S : Nat → Prop} {a b : World} (h : Fr S a b) {p : Addr} (hp : S p.block ∨ a.heap.size ≤ p.block) (u : Value) : Fr S a (b.setCell p u) :=
  h.trans (S2 := fun k => k = p.block) ⟨rfl, rfl, rfl, by simp, fun i _ hn => Below.heap_setCell b p u i hn⟩ (fun i hi => by rw [hi]; exact hp)
theorem Fr.to_below {S : Nat → Prop} {a b : World} (h : Fr S a b) {B : Nat} (hb : B ≤ a.heap.size) (hs : ∀ i, S i → B ≤ i) : Below B a b :=
  ⟨h.os, h.tape, h.output, h.size, fun i hi => h.block i (by omega) (fun k => by have := hs i k; omega)⟩
theorem Fr.grown {S : Nat → Prop} {a b c : World} {row : Option Nat} (h : Fr S a b) (hg : b.grownBy c row) (hr : ∀ k, row = some k → S k ∨ a.heap.size ≤ k) : Fr S a c :=
  h.trans (S2 := fun k => row = some k) ⟨hg.os, hg.tape, hg.output, hg.size, fun i hi hn => hg.block i hi (fun e => hn e.symm)⟩ hr
theorem Fr.alloc {S : Nat → Prop} {a b : World} (h : Fr S a b) (o : Obj) : Fr S a (b.alloc o) := h.below ((Below.refl _ _).alloc (Nat.le_refl _) o)
theorem Fr.drewN {S : Nat → Prop} {a b : World} (h : Fr S a b) (n : Nat) : Fr S a (b.drewN n) := ⟨h.os, h.tape, h.output, h.size, h.block⟩

/-- The cells of the epochs. -/
def epc (now : Int) (S : List Int) (n : Int) (v : Value) : List Value := .int .i64 now :: (nums .i64 S ++ [.int .i64 n, v])
/-- The epochs lie at p. -/
def Ep (W : World) (p : Nat) (now : Int) (S : List Int) (n : Nat) (v : Value) : Prop :=
  S.length = 8 ∧ 1 ≤ n ∧ n ≤ 8 ∧ W.heap[p]? = some (.cells (epc now S n v).toArray 49 (0, 0))
section
variable {W W' : World} {p n : Nat} {now : Int} {S : List Int} {v : Value}
theorem Ep.cell (h : Ep W p now S n v) (i : Nat) : W.cell? ⟨p, i, none⟩ = (epc now S n v)[i]? := by
  rw [cell_of_row W p i _ 49 (0, 0) h.2.2.2]
  simp
theorem Ep.frozen (h : Ep W p now S n v) (i : Nat) : W.frozen? ⟨p, i, none⟩ = false := by
  unfold World.frozen?
  rw [h.2.2.2]
  simp
theorem Ep.cnow (h : Ep W p now S n v) : W.cell? ⟨p, 0, none⟩ = some (.int .i64 now) := by rw [h.cell]; rfl
theorem Ep.cslot (h : Ep W p now S n v) (i : Nat) (hi : i < S.length) : W.cell? ⟨p, 1 + i, none⟩ = some (.int .i64 S[i]) := by
  rw [h.cell, Nat.add_comm]
  unfold epc
  rw [List.getElem?_cons_succ, List.getElem?_append_left (by rw [nums_length]; exact hi)]
  simp [nums, hi]
theorem Ep.cpins (h : Ep W p now S n v) : W.cell? ⟨p, 9, none⟩ = some (.int .i64 (n : Int)) := by
  rw [h.cell]
  unfold epc
  rw [List.getElem?_cons_succ, List.getElem?_append_right (by rw [nums_length, h.1]; exact Nat.le_refl _), nums_length, h.1]
  rfl
theorem Ep.cwaits (h : Ep W p now S n v) : W.cell? ⟨p, 10, none⟩ = some v := by
  rw [h.cell]
  unfold epc
  rw [List.getElem?_cons_succ, List.getElem?_append_right (by rw [nums_length, h.1]; omega), nums_length, h.1]
  rfl
theorem Ep.lt (h : Ep W p now S n v) : p < W.heap.size := blk_lt h.2.2.2
theorem Ep.fr {T : Nat → Prop} (h : Ep W p now S n v) (hf : Fr T W W') (hp : ¬ T p) : Ep W' p now S n v := ⟨h.1, h.2.1, h.2.2.1, (hf.block p h.lt hp).trans h.2.2.2⟩
theorem set_block {cs : Array Value} {t : TypeId} (h : W.heap[p]? = some (.cells cs t (0, 0))) (i : Nat) (u : Value) : (W.setCell ⟨p, i, none⟩ u).heap[p]? = some (.cells (cs.setIfInBounds i u) t (0, 0)) :=
  heap_setCell_same W p i cs t u h
theorem Ep.set_now (h : Ep W p now S n v) (x : Int) : Ep (W.setCell ⟨p, 0, none⟩ (.int .i64 x)) p x S n v := by
  refine ⟨h.1, h.2.1, h.2.2.1, ?_⟩
  rw [set_block h.2.2.2]
  simp [epc]
theorem Ep.set_slot (h : Ep W p now S n v) (i : Nat) (hi : i < S.length) (x : Int) : Ep (W.setCell ⟨p, 1 + i, none⟩ (.int .i64 x)) p now (S.set i x) n v := by
  refine ⟨by rw [List.length_set]; exact h.1, h.2.1, h.2.2.1, ?_⟩
  rw [set_block h.2.2.2]
  congr 2
  apply Array.ext'
  simp only [Array.toList_setIfInBounds, epc]
  rw [Nat.add_comm, List.set_cons_succ, List.set_append_left _ _ (by rw [nums_length]; exact hi)]
  simp [nums, List.map_set]
theorem Ep.set_waits (h : Ep W p now S n v) (u : Value) : Ep (W.setCell ⟨p, 10, none⟩ u) p now S n u := by
  refine ⟨h.1, h.2.1, h.2.2.1, ?_⟩
  rw [set_block h.2.2.2]
  congr 2
  apply Array.ext'
  simp only [Array.toList_setIfInBounds, epc]
  rw [List.set_cons_succ, List.set_append_right _ _ (by rw [nums_length, h.1]; omega), nums_length, h.1]
  rfl
end

/-! ### atomic numbers -/
set_option maxHeartbeats 1000000 in
theorem load_c {W : World} {b off : Nat} {x : Int} (h : W.cell? ⟨b, off, none⟩ = some (.int .i64 x)) :
    Calls Try.prog 30 #[.pointer (some ⟨b, off, none⟩)] W fun e w' => e = .returned (.int .i64 x) ∧ w' = W := by
  have hl := run_call_load (P := Try.prog) Try.func42 (by kernel_rfl) (by kernel_rfl) (by kernel_rfl) .i64 (by kernel_rfl) h
  go_enter Try.func30, Try.ntmps30
  go_wp2_with fail
  go_ret
  exact ⟨rfl, rfl⟩
set_option maxHeartbeats 1000000 in
theorem store_c {W : World} {b off : Nat} {u : Value} (h : W.cell? ⟨b, off, none⟩ = some u) (hf : W.frozen? ⟨b, off, none⟩ = false) (y : Int) :
    Calls Try.prog 28 #[.pointer (some ⟨b, off, none⟩), .int .i64 y] W fun e w' => e = .returned (.tuple #[]) ∧ w' = W.setCell ⟨b, off, none⟩ (.int .i64 y) := by
  have hl := run_call_store (P := Try.prog) Try.func41 (by kernel_rfl) (by kernel_rfl) (by kernel_rfl) (by kernel_rfl) (k := .i64) (y := y) h hf
  go_enter Try.func28, Try.ntmps28
  go_wp2_with fail
  refine bodyPost_end (results_none rfl _ _ _) rfl ?_
  exact ⟨rfl, rfl⟩
set_option maxHeartbeats 1000000 in
theorem add_c {W : World} {b off : Nat} {x y : Int} (h : W.cell? ⟨b, off, none⟩ = some (.int .i64 x)) (hf : W.frozen? ⟨b, off, none⟩ = false) (h0 : -9223372036854775808 ≤ x + y) (h1 : x + y ≤ 9223372036854775807) :
    Calls Try.prog 31 #[.pointer (some ⟨b, off, none⟩), .int .i64 y] W fun e w' => e = .returned (.int .i64 (x + y)) ∧ w' = W.setCell ⟨b, off, none⟩ (.int .i64 (x + y)) := by
  have hs : (Op.intArith .add .i64 x y).run Try.prog W = .ok (.int .i64 (x + y)) W := by
    have hw := Go.IntWalk.i64_in (x + y) ⟨h0, h1⟩
    go_simp
  have hl := run_call_add (P := Try.prog) Try.func43 (by kernel_rfl) (by kernel_rfl) (by kernel_rfl) .i64 (by kernel_rfl) (y := y) h hf hs
  go_enter Try.func31, Try.ntmps31
  go_wp2_with fail
  go_ret
  exact ⟨rfl, rfl⟩
set_option maxHeartbeats 1000000 in
theorem cas_hit {W : World} {b off : Nat} {x : Int} (h : W.cell? ⟨b, off, none⟩ = some (.int .i64 x)) (hf : W.frozen? ⟨b, off, none⟩ = false) (y : Int) :
    Calls Try.prog 32 #[.pointer (some ⟨b, off, none⟩), .int .i64 x, .int .i64 y] W fun e w' => e = .returned (.bool true) ∧ w' = W.setCell ⟨b, off, none⟩ (.int .i64 y) := by
  have hl := run_call_cas_hit (P := Try.prog) Try.func44 (by kernel_rfl) (by kernel_rfl) (by kernel_rfl) .i64 (by kernel_rfl) (y := y) h hf
  go_enter Try.func32, Try.ntmps32
  go_wp2_with fail
  go_ret
  exact ⟨rfl, rfl⟩
set_option maxHeartbeats 1000000 in
theorem cas_miss {W : World} {b off : Nat} {x o : Int} (h : W.cell? ⟨b, off, none⟩ = some (.int .i64 x)) (hf : W.frozen? ⟨b, off, none⟩ = false) (hne : ¬ x = o) (y : Int) :
    Calls Try.prog 32 #[.pointer (some ⟨b, off, none⟩), .int .i64 o, .int .i64 y] W fun e w' => e = .returned (.bool false) ∧ w' = W := by
  have hl := run_call_cas_miss (P := Try.prog) Try.func44 (by kernel_rfl) (by kernel_rfl) (by kernel_rfl) .i64 (by kernel_rfl) (o := o) (y := y) h hf hne
  go_enter Try.func32, Try.ntmps32
  go_wp2_with fail
  go_ret
  exact ⟨rfl, rfl⟩

section
variable {W : World} {p n : Nat} {now : Int} {S : List Int} {v : Value}
set_option maxHeartbeats 1000000 in
theorem made_c (h : Ep W p now S n v) :
    Calls Try.prog 29 #[.pointer (some ⟨p, 0, none⟩)] W fun e w' => e = .returned (.bool true) ∧ w' = W := by
  have h9 := h.cpins
  have hn : 0 < n := h.2.1
  have hd : decide (0 < n) = true := decide_eq_true hn
  go_enter Try.func29, Try.ntmps29
  go_wp2_with fail
  go_ret
  refine ⟨?_, rfl⟩
  rw [← hd]
  rfl
theorem made_nil : Calls Try.prog 29 #[.pointer none] W fun e w' => e = .returned (.bool false) ∧ w' = W := by
  go_enter Try.func29, Try.ntmps29
  go_wp2_with fail
  go_ret
  exact ⟨rfl, rfl⟩
theorem made_zero {u : Value} (h : W.cell? ⟨p, 9, none⟩ = some (.int .i64 0)) : Calls Try.prog 29 #[.pointer (some ⟨p, 0, none⟩)] W fun e w' => e = .returned (.bool false) ∧ w' = W := by
  go_enter Try.func29, Try.ntmps29
  go_wp2_with fail
  go_ret
  exact ⟨rfl, rfl⟩
set_option maxHeartbeats 1000000 in
theorem now_c (h : Ep W p now S n v) :
    Calls Try.prog 10 #[.pointer (some ⟨p, 0, none⟩)] W fun e w' => e = .returned (.int .i64 now) ∧ w' = W := by
  have H := Aside0.mk h
  clear h
  go_enter Try.func10, Try.ntmps10
  go_wp2_with fail
  refine (made_c H.out).mono ?_
  rintro e w1 ⟨rfl, rfl⟩
  go_wp2_with fail
  refine (load_c H.out.cnow).mono ?_
  rintro e w1 ⟨rfl, rfl⟩
  go_wp2_with fail
  go_ret
  exact ⟨rfl, rfl⟩
set_option maxHeartbeats 1000000 in
theorem publish_c (h : Ep W p now S n v) (h0 : 0 ≤ now) (h1 : now ≤ 1000000) :
    Calls Try.prog 11 #[.pointer (some ⟨p, 0, none⟩)] W fun e w' => e = .returned (.int .i64 (now + 1)) ∧ w' = W.setCell ⟨p, 0, none⟩ (.int .i64 (now + 1)) := by
  have H := Aside0.mk h
  clear h
  go_enter Try.func11, Try.ntmps11
  go_wp2_with fail
  refine (made_c H.out).mono ?_
  rintro e w1 ⟨rfl, rfl⟩
  go_wp2_with fail
  refine (add_c H.out.cnow (H.out.frozen 0) (by omega) (by omega)).mono ?_
  rintro e w1 ⟨rfl, rfl⟩
  go_wp2_with fail
  go_ret
  exact ⟨rfl, rfl⟩

/-- What a slot holds. -/
def pinnedV (S : List Int) (n : Nat) (s : Int) : Int := if 0 ≤ s ∧ s < n then S.getD s.toNat 0 else 0
set_option maxHeartbeats 1000000 in
theorem pinned_c (h : Ep W p now S n v) (s : Int) :
    Calls Try.prog 13 #[.pointer (some ⟨p, 0, none⟩), .int .i64 s] W fun e w' => e = .returned (.int .i64 (pinnedV S n s)) ∧ w' = W := by
  have H := Aside0.mk h
  have h9 := h.cpins
  have h8 := h.1
  have hn8 := h.2.2.1
  clear h
  by_cases h0 : s < 0
  · have HP : Aside0 (pinnedV S n s = 0) := ⟨if_neg (by omega)⟩
    go_enter Try.func13, Try.ntmps13
    go_wp2_with fail
    refine (made_c H.out).mono ?_
    rintro e w1 ⟨rfl, rfl⟩
    go_wp2_with fail
    go_ret
    rw [HP.out]
    exact ⟨rfl, rfl⟩
  · by_cases h1 : s < n
    · have hi : s.toNat < S.length := by omega
      have HP : Aside0 (pinnedV S n s = S[s.toNat]) := ⟨by unfold pinnedV; rw [if_pos (by omega), List.getD_eq_getElem?_getD, List.getElem?_eq_getElem hi]; rfl⟩
      have HC := Aside0.mk (H.out.cslot s.toNat hi)
      obtain ⟨k, rfl⟩ : ∃ k : Nat, s = (k : Int) := ⟨s.toNat, by omega⟩
      simp only [Int.toNat_natCast] at HC HP hi
      have hk8 : k < 8 := by omega
      generalize S[k] = x at HC HP
      go_enter Try.func13, Try.ntmps13
      go_wp2_with fail
      refine (made_c H.out).mono ?_
      rintro e w1 ⟨rfl, rfl⟩
      go_wp2_with fail
      refine (load_c HC.out).mono ?_
      rintro e w1 ⟨rfl, rfl⟩
      go_wp2_with fail
      go_ret
      rw [HP.out]
      exact ⟨rfl, rfl⟩
    · have HP : Aside0 (pinnedV S n s = 0) := ⟨if_neg (by omega)⟩
      go_enter Try.func13, Try.ntmps13
      go_wp2_with fail
      refine (made_c H.out).mono ?_
      rintro e w1 ⟨rfl, rfl⟩
      go_wp2_with fail
      go_ret
      rw [HP.out]
      exact ⟨rfl, rfl⟩

set_option maxHeartbeats 1000000 in
theorem unpin_c (h : Ep W p now S n v) (s : Int) :
    Calls Try.prog 14 #[.pointer (some ⟨p, 0, none⟩), .int .i64 s] W fun e w' =>
      (pinnedV S n s = 0 ∧ e = .returned (.int .i64 3) ∧ w' = W) ∨ (pinnedV S n s ≠ 0 ∧ 0 ≤ s ∧ s < n ∧ e = .returned (.int .i64 0) ∧ w' = W.setCell ⟨p, 1 + s.toNat, none⟩ (.int .i64 0)) := by
  have H := Aside0.mk h
  have h8 := h.1
  have hn8 := h.2.2.1
  clear h
  by_cases h0 : pinnedV S n s = 0
  · have HP := Aside0.mk h0
    clear h0
    go_enter Try.func14, Try.ntmps14
    go_wp2_with fail
    refine (made_c H.out).mono ?_
    rintro e w1 ⟨rfl, rfl⟩
    go_wp2_with fail
    refine (pinned_c H.out s).mono ?_
    rintro e w1 ⟨rfl, rfl⟩
    rw [HP.out]
    go_wp2_with fail
    go_ret
    exact Or.inl ⟨HP.out, rfl, rfl⟩
  · have hs : 0 ≤ s ∧ s < n := by
      unfold pinnedV at h0
      by_cases g : 0 ≤ s ∧ s < n
      · exact g
      · exact absurd (if_neg g) h0
    have hb : (pinnedV S n s == 0) = false := by simpa using h0
    have HP := Aside0.mk h0
    clear h0
    obtain ⟨k, rfl⟩ : ∃ k : Nat, s = (k : Int) := ⟨s.toNat, by omega⟩
    have hk8 : k < 8 := by omega
    have hi : k < S.length := by omega
    have HC := Aside0.mk (H.out.cslot k hi)
    obtain ⟨hs0, hs1⟩ := hs
    go_enter Try.func14, Try.ntmps14
    go_wp2_with fail
    refine (made_c H.out).mono ?_
    rintro e w1 ⟨rfl, rfl⟩
    go_wp2_with fail
    refine (pinned_c H.out k).mono ?_
    rintro e w1 ⟨rfl, rfl⟩
    generalize pinnedV S n k = y at hb ⊢
    go_wp2_with fail
    refine (store_c HC.out (H.out.frozen _) 0).mono ?_
    rintro e w1 ⟨rfl, rfl⟩
    go_wp2_with fail
    go_ret
    exact Or.inr ⟨HP.out, by omega, by omega, rfl, rfl⟩

/-- The first that is free. -/
def freeAt (S : List Int) (n : Nat) : Option Nat := (List.range n).find? fun i => S.getD i 0 == 0
/-- The least that is held, of the first ones. -/
def leastV (S : List Int) (n : Nat) : Nat → Int × Bool
  | 0 => (0, false)
  | k + 1 => let a := leastV S n k; let x := pinnedV S n k; if 0 < x ∧ (a.2 = false ∨ x < a.1) then (x, true) else a
set_option maxHeartbeats 1000000 in
theorem least_c (h : Ep W p now S n v) :
    Calls Try.prog 34 #[.pointer (some ⟨p, 0, none⟩)] W fun e w' => e = .returned (.tuple #[.int .i64 (leastV S n 8).1, .bool (leastV S n 8).2]) ∧ w' = W := by
  have H := Aside0.mk h
  clear h
  go_enter Try.func34, Try.ntmps34
  go_wp2_with fail
  go_loop [4, 5, 8] (fun m b i => ∃ k : Nat, i = .int .i64 k ∧ k ≤ 8 ∧ m = .int .i64 (leastV S n k).1 ∧ b = .bool (leastV S n k).2) (fun _ _ i => 8 - (intOf i).toNat)
  case atStart => exact ⟨0, rfl, Nat.zero_le _, rfl, rfl⟩
  case round =>
    obtain ⟨k, rfl, hk, rfl, rfl⟩ := hrel
    by_cases hlt : k < 8
    · have HK : Aside0 (leastV S n (k + 1) = if 0 < pinnedV S n k ∧ ((leastV S n k).2 = false ∨ pinnedV S n k < (leastV S n k).1) then (pinnedV S n k, true) else leastV S n k) := ⟨rfl⟩
      generalize leastV S n k = a at HK
      obtain ⟨a1, a2⟩ := a
      have g1 : (k : Int) < 8 := by omega
      go_wp2_with fail
      refine (pinned_c H.out k).mono ?_
      rintro e w1 ⟨rfl, rfl⟩
      generalize pinnedV S n k = x at HK
      by_cases h1 : 0 < x
      · cases a2 with
        | false =>
          have HM : Aside0 (leastV S n (k + 1) = (x, true)) := ⟨by rw [HK.out, if_pos ⟨h1, Or.inl rfl⟩]⟩
          clear HK
          go_wp2_with fail
          go_round
          case rel => exact ⟨k + 1, by go_num, hlt, by rw [HM.out], by rw [HM.out]⟩
          case measure => simp [intOf]; omega
        | true =>
          by_cases h2 : x < a1
          · have HM : Aside0 (leastV S n (k + 1) = (x, true)) := ⟨by rw [HK.out, if_pos ⟨h1, Or.inr h2⟩]⟩
            clear HK
            go_wp2_with fail
            go_round
            case rel => exact ⟨k + 1, by go_num, hlt, by rw [HM.out], by rw [HM.out]⟩
            case measure => simp [intOf]; omega
          · have HM : Aside0 (leastV S n (k + 1) = (a1, true)) := ⟨by rw [HK.out, if_neg (fun h => h.2.elim (fun e => by cases e) h2)]⟩
            clear HK
            go_wp2_with fail
            go_round
            case rel => exact ⟨k + 1, by go_num, hlt, by rw [HM.out], by rw [HM.out]⟩
            case measure => simp [intOf]; omega
      · have HM : Aside0 (leastV S n (k + 1) = (a1, a2)) := ⟨by rw [HK.out, if_neg (fun h => h1 h.1)]⟩
        clear HK
        go_wp2_with fail
        go_round
        case rel => exact ⟨k + 1, by go_num, hlt, by rw [HM.out], by rw [HM.out]⟩
        case measure => simp [intOf]; omega
    · have hkl : k = 8 := by omega
      subst hkl
      go_wp2_with fail
      go_ret2
      exact ⟨rfl, rfl⟩

def minV (S : List Int) (n : Nat) (now : Int) : Int := if (leastV S n 8).2 then (leastV S n 8).1 else now
set_option maxHeartbeats 1000000 in
theorem min_c (h : Ep W p now S n v) :
    Calls Try.prog 18 #[.pointer (some ⟨p, 0, none⟩)] W fun e w' => e = .returned (.int .i64 (minV S n now)) ∧ w' = W := by
  have H := Aside0.mk h
  have HL := Aside0.mk (least_c h)
  have HM : Aside0 (minV S n now = if (leastV S n 8).2 then (leastV S n 8).1 else now) := ⟨rfl⟩
  clear h
  generalize leastV S n 8 = a at HL HM
  obtain ⟨m, b⟩ := a
  rw [HM.out]
  cases b with
  | true =>
    go_enter Try.func18, Try.ntmps18
    go_wp2_with fail
    refine HL.out.mono ?_
    rintro e w1 ⟨rfl, rfl⟩
    go_wp2_with fail
    go_ret
    exact ⟨rfl, rfl⟩
  | false =>
    go_enter Try.func18, Try.ntmps18
    go_wp2_with fail
    refine HL.out.mono ?_
    rintro e w1 ⟨rfl, rfl⟩
    go_wp2_with fail
    refine (now_c H.out).mono ?_
    rintro e w1 ⟨rfl, rfl⟩
    go_wp2_with fail
    go_ret
    exact ⟨rfl, rfl⟩
end

set_option maxHeartbeats 1000000 in
theorem new_c (n : Nat) (h0 : 1 ≤ n) (h1 : n ≤ 8) (w : World) :
    Calls Try.prog 8 #[.int .i64 n] w fun e w' => e = .returned (.pointer (some ⟨w.heap.size, 0, none⟩)) ∧ Ep w' w.heap.size 1 [0, 0, 0, 0, 0, 0, 0, 0] n (.slice none 0 0) ∧ Below w.heap.size w w' ∧ w'.heap.size = w.heap.size + 1 := by
  have a : ¬ ((n : Int) < 1) := by omega
  have b : ¬ (8 < (n : Int)) := by omega
  have HE : Aside0 (Ep (w.alloc (.cells #[.int .i64 0, .int .i64 0, .int .i64 0, .int .i64 0, .int .i64 0, .int .i64 0, .int .i64 0, .int .i64 0, .int .i64 0, .int .i64 n, .slice none 0 0] 49)) w.heap.size 0 [0, 0, 0, 0, 0, 0, 0, 0] n (.slice none 0 0)) :=
    ⟨rfl, h0, h1, heap_alloc_new w _⟩
  go_enter Try.func8, Try.ntmps8
  go_wp2_with fail
  refine (store_c HE.out.cnow (HE.out.frozen 0) 1).mono ?_
  rintro e w1 ⟨rfl, rfl⟩
  go_wp2_with fail
  go_ret
  exact ⟨rfl, ⟨rfl, h0, h1, heap_alloc_new w _⟩, (Below.refl _ _).alloc (Nat.le_refl _) _, by simp⟩
theorem new_nil (n : Int) (h : n < 1 ∨ 8 < n) (w : World) : Calls Try.prog 8 #[.int .i64 n] w fun e w' => e = .returned (.pointer none) ∧ w' = w := by
  by_cases a : n < 1
  · go_enter Try.func8, Try.ntmps8
    go_wp2_with fail
    go_ret
    exact ⟨rfl, rfl⟩
  · have b : 8 < n := by omega
    clear h
    go_enter Try.func8, Try.ntmps8
    go_wp2_with fail
    go_ret
    exact ⟨rfl, rfl⟩
end Go.Proofs.Ytpfeelcdbnldfaa
