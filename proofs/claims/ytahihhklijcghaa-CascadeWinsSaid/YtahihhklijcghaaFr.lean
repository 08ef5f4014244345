/-
  What a call leaves as it was; plain facts of blocks and cells.
-/
import Derived.Test.YtahihhklijcghaaWWords
import Derived.Test.YtahihhklijcghaaWKept
import Derived.Test.YtahihhklijcghaaWMore
import Derived.WalkKit
import Derived.ProofKit
import Derived.BigQuiet
import Derived.Deep.QuietTactic
import Derived.Deep.RegionWith
import Derived.StillTailTactics
namespace Go.Proofs.Ytahihhklijcghaa
open Go.RowKit Go.Proofs.YtahihhklijcghaaW.PrintWords
set_option linter.unusedVariables false
set_option linter.unusedSimpArgs false
/-- What a call leaves as it was: all but the blocks of S, and what is new. -/
structure Fr (S : Nat → Prop) (w w' : World) : Prop where
  os : w'.os = w.os
  tape : w'.tape = w.tape
  output : w'.output = w.output
  size : w.heap.size ≤ w'.heap.size
  block : ∀ k, k < w.heap.size → ¬ S k → w'.heap[k]? = w.heap[k]?
theorem Fr.refl (S : Nat → Prop) (w : World) : Fr S w w := ⟨rfl, rfl, rfl, Nat.le_refl _, fun _ _ _ => rfl⟩
theorem Fr.trans {S S2 : Nat → Prop} {a b c : World} (h : Fr S a b) (k : Fr S2 b c) (hs : ∀ i, S2 i → S i ∨ a.heap.size ≤ i) : Fr S a c :=
  ⟨k.os.trans h.os, k.tape.trans h.tape, k.output.trans h.output, Nat.le_trans h.size k.size, fun i hi hn =>
    (k.block i (Nat.lt_of_lt_of_le hi h.size) (fun h2 => (hs i h2).elim hn (fun h3 => by omega))).trans (h.block i hi hn)⟩
theorem Fr.mono {S S2 : Nat → Prop} {a b : World} (h : Fr S a b) (hs : ∀ i, S i → S2 i) : Fr S2 a b :=
  ⟨h.os, h.tape, h.output, h.size, fun i hi hn => h.block i hi (fun k => hn (hs i k))⟩
theorem Fr.of_below {a b : World} (h : Below a.heap.size a b) (S : Nat → Prop) : Fr S a b := ⟨h.os, h.tape, h.output, h.size, fun i hi _ => h.block i hi⟩
theorem Fr.below {S : Nat → Prop} {a b c : World} (h : Fr S a b) (k : Below b.heap.size b c) : Fr S a c := h.trans (Fr.of_below k (fun _ => False)) (fun _ hk => hk.elim)
theorem Fr.setCell {S : Nat → Prop} {a b : World} (h : Fr S a b) {p : Addr} (hp : S p.block ∨ a.heap.size ≤ p.block) (u : Value) : Fr S a (b.setCell p u) :=
  h.trans (S2 := fun k => k = p.block) ⟨rfl, rfl, rfl, by simp, fun i _ hn => Below.heap_setCell b p u i hn⟩ (fun i hi => by rw [hi]; exact hp)
theorem Fr.to_below {S : Nat → Prop} {a b : World} (h : Fr S a b) {B : Nat} (hb : B ≤ a.heap.size) (hs : ∀ i, S i → B ≤ i) : Below B a b :=
  ⟨h.os, h.tape, h.output, h.size, fun i hi => h.block i (by omega) (fun k => by have := hs i k; omega)⟩
theorem Fr.grown {S : Nat → Prop} {a b c : World} {row : Option Nat} (h : Fr S a b) (hg : b.grownBy c row) (hr : ∀ k, row = some k → S k ∨ a.heap.size ≤ k) : Fr S a c :=
  h.trans (S2 := fun k => row = some k) ⟨hg.os, hg.tape, hg.output, hg.size, fun i hi hn => hg.block i hi (fun e => hn e.symm)⟩ hr
theorem Fr.alloc {S : Nat → Prop} {a b : World} (h : Fr S a b) (o : Obj) : Fr S a (b.alloc o) := h.below ((Below.refl _ _).alloc (Nat.le_refl _) o)
theorem Fr.drewN {S : Nat → Prop} {a b : World} (h : Fr S a b) (n : Nat) : Fr S a (b.drewN n) := ⟨h.os, h.tape, h.output, h.size, h.block⟩
theorem set_block {W : World} {p : Nat} {cs : Array Value} {t : TypeId} (h : W.heap[p]? = some (.cells cs t (0, 0))) (i : Nat) (u : Value) : (W.setCell ⟨p, i, none⟩ u).heap[p]? = some (.cells (cs.setIfInBounds i u) t (0, 0)) :=
  heap_setCell_same W p i cs t u h
theorem still_tail {P : Program} {id : Nat} {Q : Exit → Act → World → Prop} {a : Act} {w : World} {l : List Oper} (n : Nat) (hm : P.follows .mixedOrders = true) (hB : Region.lexTailB .any l.toArray n = true)
    (h : wpStill P l.toArray w.drew (fun a' => wpList P l.toArray Q (l.drop n) a' w.drew) (l.take n) a) : (Code.region id l.toArray true).wp P Q a w :=
  wp_region_still_tail n hm hB h
theorem cell1 (W : World) (xs : Array Value) (t : TypeId) (i : Nat) : (W.alloc (.cells xs t)).cell? ⟨W.heap.size, i, none⟩ = xs[i]? :=
  cell_of_row _ _ i xs t (0, 0) (heap_alloc_new W (.cells xs t))
theorem cell2b (W : World) (o1 : Obj) (xs : Array Value) (t : TypeId) (i : Nat) : ((W.alloc o1).alloc (.cells xs t)).drew.cell? ⟨W.heap.size + 1, i, none⟩ = xs[i]? := by
  have h := heap_alloc_new (W.alloc o1) (.cells xs t)
  have e : (W.alloc o1).heap.size = W.heap.size + 1 := by simp
  rw [e] at h
  exact cell_of_row ((W.alloc o1).alloc (.cells xs t)) _ i xs t (0, 0) h
theorem cell2a (W : World) (xs : Array Value) (o2 : Obj) (t : TypeId) (i : Nat) : ((W.alloc (.cells xs t)).alloc o2).drew.cell? ⟨W.heap.size, i, none⟩ = xs[i]? := by
  have h := heap_alloc_new W (.cells xs t)
  have h2 : ((W.alloc (.cells xs t)).alloc o2).heap[W.heap.size]? = some (.cells xs t (0, 0)) := blk_alloc h o2
  exact cell_of_row ((W.alloc (.cells xs t)).alloc o2) _ i xs t (0, 0) h2
theorem below2 (W : World) (o1 o2 : Obj) : Below W.heap.size W ((W.alloc o1).alloc o2).drew :=
  below_drew (((Below.refl _ _).alloc (Nat.le_refl _) _).alloc (by simp) _)
theorem some_set {W : World} {a b : Addr} {v u : Value} (h : W.cell? b = some u) : ∃ x, (W.setCell a v).cell? b = some x := by
  by_cases e : a = b
  · subst e
    exact ⟨_, World.cell?_setCell_same _ _ _ h⟩
  · exact ⟨u, by rw [World.cell?_setCell_other _ _ _ _ e]; exact h⟩

end Go.Proofs.Ytahihhklijcghaa
