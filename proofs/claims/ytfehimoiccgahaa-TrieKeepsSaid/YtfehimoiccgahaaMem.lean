/-
  Tries in memory: a node's cells; which part of a number is which.
-/
import Derived.Test.YtfehimoiccgahaaNd
import Derived.Test.YtfehimoiccgahaaRows
import Derived.Test.YtfehimoiccgahaaWKept
import Derived.Test.YtfehimoiccgahaaWMore
import Derived.WalkKit
import Derived.ProofKit
import Derived.BigQuiet
import Derived.Deep.QuietTactic
import Derived.Laws.BitsLemmas
namespace Go.Proofs.Ytfehimoiccgahaa
open Go.RowKit Go.Proofs.YtfehimoiccgahaaW.PrintWords
set_option linter.unusedVariables false
set_option linter.unusedSimpArgs false
section
variable {V : Type}
def nptr : Nd V → Value
  | .nil => .pointer none
  | .node a _ _ _ => .pointer (some ⟨a, 0, none⟩)
def hptr : Option (Nat × V) → Value
  | none => .pointer none
  | some x => .pointer (some ⟨x.1, 0, none⟩)
def ncl (d : Nat → Nd V) (h : Nat → Option (Nat × V)) (s : Int) : List Value := (List.range 16).map (fun k => nptr (d k)) ++ ((List.range 16).map (fun k => hptr (h k)) ++ [.int .i64 s])
def nc (d : Nat → Nd V) (h : Nat → Option (Nat × V)) (s : Int) : Array Value := (ncl d h s).toArray
variable {d : Nat → Nd V} {h : Nat → Option (Nat × V)} {s : Int}
theorem nc_size : (nc d h s).size = 33 := by simp [nc, ncl]
theorem nc_down {k : Nat} (hk : k < 16) : (nc d h s)[k]? = some (nptr (d k)) := by
  unfold nc ncl
  rw [List.getElem?_toArray, List.getElem?_append_left (by simpa using hk)]
  simp [hk]
theorem nc_here {k : Nat} (hk : k < 16) : (nc d h s)[16 + k]? = some (hptr (h k)) := by
  unfold nc ncl
  rw [List.getElem?_toArray, List.getElem?_append_right (by simp), List.getElem?_append_left (by simp; omega)]
  simp [hk]
theorem nc_sz : (nc d h s)[32]? = some (.int .i64 s) := by
  unfold nc ncl
  rw [List.getElem?_toArray, List.getElem?_append_right (by simp), List.getElem?_append_right (by simp)]
  simp
theorem nc_ext {d' : Nat → Nd V} {h' : Nat → Option (Nat × V)} {s' : Int} {A : Array Value} (hs : A.size = 33) (h1 : ∀ k, k < 16 → A[k]? = some (nptr (d' k))) (h2 : ∀ k, k < 16 → A[16 + k]? = some (hptr (h' k))) (h3 : A[32]? = some (.int .i64 s')) : A = nc d' h' s' := by
  apply Array.ext_getElem?
  intro i
  by_cases a : i < 16
  · rw [h1 i a, nc_down a]
  · by_cases b : i < 32
    · obtain ⟨k, rfl⟩ : ∃ k, i = 16 + k := ⟨i - 16, by omega⟩
      rw [h2 k (by omega), nc_here (by omega)]
    · by_cases c : i = 32
      · subst c
        rw [h3, nc_sz]
      · rw [Array.getElem?_eq_none (by omega), Array.getElem?_eq_none (by rw [nc_size]; omega)]
theorem nc_set_down {k : Nat} (hk : k < 16) (u : Nd V) : (nc d h s).setIfInBounds k (nptr u) = nc (upd d k u) h s := by
  refine nc_ext (by simp [nc_size]) (fun i hi => ?_) (fun i hi => ?_) ?_
  · rw [Array.getElem?_setIfInBounds]
    by_cases e : k = i
    · subst e
      rw [if_pos rfl, if_pos (by rw [nc_size]; omega), upd_same]
    · rw [if_neg e, nc_down hi, upd_other _ _ (Ne.symm e)]
  · rw [Array.getElem?_setIfInBounds, if_neg (by omega), nc_here hi]
  · rw [Array.getElem?_setIfInBounds, if_neg (by omega), nc_sz]
theorem nc_set_here {k : Nat} (hk : k < 16) (u : Option (Nat × V)) : (nc d h s).setIfInBounds (16 + k) (hptr u) = nc d (upd h k u) s := by
  refine nc_ext (by simp [nc_size]) (fun i hi => ?_) (fun i hi => ?_) ?_
  · rw [Array.getElem?_setIfInBounds, if_neg (by omega), nc_down hi]
  · rw [Array.getElem?_setIfInBounds]
    by_cases e : k = i
    · subst e
      rw [if_pos rfl, if_pos (by rw [nc_size]; omega), upd_same]
    · rw [if_neg (by omega), nc_here hi, upd_other _ _ (Ne.symm e)]
  · rw [Array.getElem?_setIfInBounds, if_neg (by omega), nc_sz]
theorem nc_set_size (x : Int) : (nc d h s).setIfInBounds 32 (.int .i64 x) = nc d h x := by
  refine nc_ext (by simp [nc_size]) (fun i hi => ?_) (fun i hi => ?_) ?_
  · rw [Array.getElem?_setIfInBounds, if_neg (by omega), nc_down hi]
  · rw [Array.getElem?_setIfInBounds, if_neg (by omega), nc_here hi]
  · rw [Array.getElem?_setIfInBounds, if_pos rfl, if_pos (by rw [nc_size]; omega)]
theorem nc_one : (nc d h s).all (·.oneCell') = true := by
  rw [Array.all_eq_true]
  intro i hi
  rw [nc_size] at hi
  have hg : (nc d h s)[i]? = some (nc d h s)[i] := Array.getElem?_eq_getElem _
  by_cases a : i < 16
  · rw [nc_down a] at hg
    injection hg with hg
    show ((nc d h s)[i]).oneCell' = true
    simp only [← hg]
    cases d i <;> rfl
  · by_cases b : i < 32
    · obtain ⟨k, rfl⟩ : ∃ k, i = 16 + k := ⟨i - 16, by omega⟩
      rw [nc_here (by omega)] at hg
      injection hg with hg
      show ((nc d h s)[16 + k]).oneCell' = true
      simp only [← hg]
      cases h k <;> rfl
    · obtain rfl : i = 32 := by omega
      rw [nc_sz] at hg
      injection hg with hg
      show ((nc d h s)[32]).oneCell' = true
      simp only [← hg]
      rfl
/-- The node lies in memory, all of it in blocks of P. -/
def InMem (T TV : TypeId) (enc : V → Value) (W : World) (P : Nat → Prop) : Nd V → Prop
  | .nil => True
  | .node a d h s => P a ∧ W.heap[a]? = some (.cells (nc d h s) T (0, 0)) ∧ (∀ k, k < 16 → InMem T TV enc W P (d k)) ∧ (∀ k b x, k < 16 → h k = some (b, x) → P b ∧ W.heap[b]? = some (.cells #[enc x] TV (0, 0)))
variable {T TV : TypeId} {enc : V → Value} {W W' : World} {P Q : Nat → Prop}
theorem InMem.keep : ∀ {t : Nd V}, InMem T TV enc W P t → (∀ b, P b → W'.heap[b]? = W.heap[b]?) → InMem T TV enc W' P t
  | .nil, _, _ => trivial
  | .node a d h s, ⟨h1, h2, h3, h4⟩, hk => ⟨h1, (hk a h1).trans h2, fun k hk2 => (h3 k hk2).keep hk, fun k b x hk2 e => ⟨(h4 k b x hk2 e).1, (hk b (h4 k b x hk2 e).1).trans (h4 k b x hk2 e).2⟩⟩
theorem InMem.imp : ∀ {t : Nd V}, InMem T TV enc W P t → (∀ b, P b → Q b) → InMem T TV enc W Q t
  | .nil, _, _ => trivial
  | .node a d h s, ⟨h1, h2, h3, h4⟩, hk => ⟨hk a h1, h2, fun k hk2 => (h3 k hk2).imp hk, fun k b x hk2 e => ⟨hk b (h4 k b x hk2 e).1, (h4 k b x hk2 e).2⟩⟩
theorem InMem.lt : ∀ {t : Nd V}, InMem T TV enc W P t → InMem T TV enc W (fun b => P b ∧ b < W.heap.size) t
  | .nil, _ => trivial
  | .node a d h s, ⟨h1, h2, h3, h4⟩ => ⟨⟨h1, blk_lt h2⟩, h2, fun k hk2 => (h3 k hk2).lt, fun k b x hk2 e => ⟨⟨(h4 k b x hk2 e).1, blk_lt (h4 k b x hk2 e).2⟩, (h4 k b x hk2 e).2⟩⟩
theorem InMem.below {t : Nd V} (h : InMem T TV enc W P t) (hb : Below W.heap.size W W') : InMem T TV enc W' P t :=
  (h.lt.keep (fun b hb2 => hb.block b hb2.2)).imp (fun b hb2 => hb2.1)
theorem InMem.under {B : Nat} : ∀ {t : Nd V}, InMem T TV enc W P t → (∀ b, P b → b < B) → Nd.Under B t
  | .nil, _, _ => trivial
  | .node a d h s, ⟨h1, h2, h3, h4⟩, hk => ⟨hk a h1, fun k hk2 => (h3 k hk2).under hk⟩
theorem InMem.down {t : Nd V} (h : InMem T TV enc W P t) {k : Nat} (hk : k < 16) : InMem T TV enc W P (t.down k) := by
  cases t with
  | nil => trivial
  | node a d h2 s => exact h.2.2.1 k hk
theorem InMem.here {t : Nd V} (h : InMem T TV enc W P t) {k b : Nat} {x : V} (hk : k < 16) (e : t.here k = some (b, x)) : P b ∧ W.heap[b]? = some (.cells #[enc x] TV (0, 0)) := by
  cases t with
  | nil => cases e
  | node a d h2 s => exact h.2.2.2 k b x hk e
theorem InMem.mk {a : Nat} (h1 : P a) (h2 : W.heap[a]? = some (.cells (nc d h s) T (0, 0))) (h3 : ∀ k, k < 16 → InMem T TV enc W P (d k)) (h4 : ∀ k b x, k < 16 → h k = some (b, x) → P b ∧ W.heap[b]? = some (.cells #[enc x] TV (0, 0))) : InMem T TV enc W P (.node a d h s) := ⟨h1, h2, h3, h4⟩
end
set_option maxHeartbeats 1000000 in
theorem part_c (n r : Nat) (hr : r ≤ 4) (hn : n < 1048576) (W : World) : Calls Try.prog 32 #[.int .i64 n, .int .i64 (4 - (r : Int))] W fun e w' => e = .returned (.int .i64 (Nd.dig r n)) ∧ w' = W := by
  have h1 : (n : Int) < 1048576 := by omega
  have h0 : (0 : Int) ≤ n := by omega
  have hd : ∀ m : Nat, m < 1048576 → Go.bits .and .i64 (m : Int) 15 = ((m % 16 : Nat) : Int) := fun m hm => by
    have h := bits_mask .i64 63 (by decide) (fun n h0 h1 => Go.IntWalk.i64_in n ⟨by omega, by omega⟩) 4 (by decide) (m : Int) (by omega) (by omega)
    have e : ((2 : Int) ^ 4 - 1) = 15 := by decide
    have e2 : ((2 : Int) ^ 4) = 16 := by decide
    rw [e, e2] at h
    rw [h]
    omega
  have he : ∀ (q : Nat), 0 < q → Nd.dig r n = n / q % 16 → Go.bits .and .i64 ((n : Int) / (q : Int)) 15 = (Nd.dig r n : Int) := fun q hq h => by
    rw [h, ← hd (n / q) (Nat.lt_of_le_of_lt (Nat.div_le_self _ _) hn)]
    congr 1
  have HE := Aside0.mk he
  clear he hd
  obtain rfl | rfl | rfl | rfl | rfl : r = 0 ∨ r = 1 ∨ r = 2 ∨ r = 3 ∨ r = 4 := by omega
  · have h := HE.out 1 (by decide) (by rw [Nat.div_one]; simp [Nd.dig])
    rw [show (((1 : Nat) : Int)) = 1 from rfl, Int.ediv_one] at h
    have H := Aside0.mk h
    clear h
    go_enter Try.func32, Try.ntmps32
    go_wp2_with fail
    go_ret
    exact ⟨by rw [← H.out]; rfl, rfl⟩
  · have H := Aside0.mk (HE.out 16 (by decide) rfl)
    go_enter Try.func32, Try.ntmps32
    go_wp2_with fail
    go_ret
    exact ⟨by rw [← H.out]; rfl, rfl⟩
  · have H := Aside0.mk (HE.out 256 (by decide) rfl)
    go_enter Try.func32, Try.ntmps32
    go_wp2_with fail
    go_ret
    exact ⟨by rw [← H.out]; rfl, rfl⟩
  · have H := Aside0.mk (HE.out 4096 (by decide) rfl)
    go_enter Try.func32, Try.ntmps32
    go_wp2_with fail
    go_ret
    exact ⟨by rw [← H.out]; rfl, rfl⟩
  · have H := Aside0.mk (HE.out 65536 (by decide) rfl)
    go_enter Try.func32, Try.ntmps32
    go_wp2_with fail
    go_ret
    exact ⟨by rw [← H.out]; rfl, rfl⟩
end Go.Proofs.Ytfehimoiccgahaa
