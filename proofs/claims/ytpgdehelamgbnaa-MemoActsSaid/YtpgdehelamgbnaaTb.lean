/-
  The table in memory, what a call leaves as it was, and the atomic pointers.
-/
import Derived.Test.YtpgdehelamgbnaaPMemoActsx1
import Derived.Laws.LoneSync
import Derived.WalkSpells
namespace Go.Proofs.Ytpgdehelamgbnaa
open Go.RowKit Go.Proofs.YtpgdehelamgbnaaW.PrintWords PMemoActs
set_option linter.unusedVariables false
set_option linter.unusedSimpArgs false

/-- What a call leaves as it was: all but the blocks of S, and what is new. -/
structure Fr (S : Nat → Prop) (w w' : World) : Prop where
  os : w'.os = w.os
  tape : w'.tape = w.tape
  output : w'.output = w.output
  size : w.heap.size ≤ w'.heap.size
  block : ∀ k, k < w.heap.size → ¬ S k → w'.heap[k]? = w.heap[k]?
theorem Fr.refl (S : Nat → Prop) (w : World) : Fr S w w := ⟨rfl, rfl, rfl, Nat.le_refl _, fun _ _ _ => rfl⟩
theorem Fr.trans {S S2 : Nat → Prop} {a b c : World} (h : Fr S a b) (k : Fr S2 b c) (hs : ∀ i, S2 i → S i ∨ a.heap.size ≤ i) : Fr S a c :=
  ⟨k.os.trans h.os, k.tape.trans h.tape, k.output.trans h.output, Nat.le_trans h.size k.size, fun i hi hn =>
    (k.block i (Nat.lt_of_lt_of_le hi h.size) (fun h2 => (hs i h2).elim hn (fun h3 => by omega))).trans (h.block i hi hn)⟩
theorem Fr.mono {S S2 : Nat → Prop} {a b : World} (h : Fr S a b) (hs : ∀ i, S i → S2 i) : Fr S2 a b :=
  ⟨h.os, h.tape, h.output, h.size, fun i hi hn => h.block i hi (fun k => hn (hs i k))⟩
theorem Fr.of_below {a b : World} (h : Below a.heap.size a b) (S : Nat → Prop) : Fr S a b := ⟨h.os, h.tape, h.output, h.size, fun i hi _ => h.block i hi⟩
theorem Fr.below {S : Nat → Prop} {a b c : World} (h : Fr S a b) (k : Below b.heap.size b c) : Fr S a c := h.trans (Fr.of_below k (fun _ => False)) (fun _ hk => hk.elim)
theorem Fr.setCell {S : Nat → Prop} {a b : World} (h : Fr S a b) {p : Addr} (hp : S p.block ∨ a.heap.size ≤ p.block) (u : Value) : Fr S a (b.setCell p u) :=
  h.trans (S2 := fun k => k = p.block) ⟨rfl, rfl, rfl, by simp, fun i _ hn => Below.heap_setCell b p u i hn⟩ (fun i hi => by rw [hi]; exact hp)
theorem Fr.to_below {S : Nat → Prop} {a b : World} (h : Fr S a b) {B : Nat} (hb : B ≤ a.heap.size) (hs : ∀ i, S i → B ≤ i) : Below B a b :=
  ⟨h.os, h.tape, h.output, h.size, fun i hi => h.block i (by omega) (fun k => by have := hs i k; omega)⟩
theorem Fr.grown {S : Nat → Prop} {a b c : World} {row : Option Nat} (h : Fr S a b) (hg : b.grownBy c row) (hr : ∀ k, row = some k → S k ∨ a.heap.size ≤ k) : Fr S a c :=
  h.trans (S2 := fun k => row = some k) ⟨hg.os, hg.tape, hg.output, hg.size, fun i hi hn => hg.block i hi (fun e => hn e.symm)⟩ hr
theorem Fr.alloc {S : Nat → Prop} {a b : World} (h : Fr S a b) (o : Obj) : Fr S a (b.alloc o) := h.below ((Below.refl _ _).alloc (Nat.le_refl _) o)
theorem Fr.drewN {S : Nat → Prop} {a b : World} (h : Fr S a b) (n : Nat) : Fr S a (b.drewN n) := ⟨h.os, h.tape, h.output, h.size, h.block⟩

/-! ### texts -/
def strs (l : List ByteArray) : List Value := l.map Value.string
theorem strs_length (l : List ByteArray) : (strs l).length = l.length := by simp [strs]
theorem strs_one (l : List ByteArray) : ∀ u ∈ strs l, u.oneCell' = true := by
  intro u hu
  obtain ⟨x, _, rfl⟩ := List.mem_map.1 hu
  rfl
theorem strs_get (l : List ByteArray) (j : Nat) : (strs l)[j]? = l[j]?.map Value.string := by simp [strs]
theorem str_reads {w : World} {b : Nat} {v : Value} {ss : List ByteArray} (h : w.ownsRow b 9 1 v ss.length (strs ss)) : ∃ A c, v = .slice A ss.length c ∧ ss.length ≤ c ∧ Kd.C Kd.string w A ss.length ss :=
  OwnRow.reads (R := Kd.string.K w) (e := 9) (size := 1) (base := b) ⟨strs ss, h, by rw [strs_length, Nat.mul_one], fun j p hj => by
    show _ = [Value.string p]
    rw [Nat.mul_one]
    have hl : j < (strs ss).length := by rw [strs_length]; exact (List.getElem?_eq_some_iff.1 hj).1
    rw [List.drop_eq_getElem_cons hl, List.take_succ_cons, List.take_zero]
    congr 1
    have : (strs ss)[j]? = some (Value.string p) := by rw [strs_get, hj]; rfl
    rw [List.getElem?_eq_getElem hl] at this
    injection this⟩
theorem own_keep {w w' : World} {b e s n : Nat} {v : Value} {xs : List Value} (h : w.ownsRow b e s v n xs) {F : Nat → Prop} (hv : ∀ k, v.ownBlock = some k → F k) (hm : ∀ k, F k → k < w.heap.size → w'.heap[k]? = w.heap[k]?) : w'.ownsRow b e s v n xs :=
  own_move h (fun k hk => hm k (hv k hk) (own_lt h k hk))

/-! ### the entries, and the table -/
/-- An entry's own block. -/
def En (w : World) (F : Nat → Prop) (b : Nat) (x : S31) : Prop :=
  ∃ v, w.heap[b]? = some (.cells #[.int .i64 x.f0, .int .i64 x.f1, v] 31 (0, 0)) ∧ F b ∧ w.ownsRow 0 9 1 v x.f2.length (strs x.f2) ∧ ∀ k, v.ownBlock = some k → F k
def ptrv : Option (Nat × S31) → Option Addr
  | none => none
  | some y => some ⟨y.1, 0, none⟩
def cellv (y : Option (Nat × S31)) : Value := .pointer (ptrv y)
/-- The table that x leads to: its cells lie in block q. -/
def Tb (w : World) (F : Nat → Prop) (x : Option Addr) (q : Nat) (L : List (Option (Nat × S31))) : Prop :=
  L.length ≤ 65536 ∧ (∀ b y, some (b, y) ∈ L → En w F b y) ∧ ((x = none ∧ L = []) ∨ ∃ p A c is, x = some ⟨p, 0, none⟩ ∧ F p ∧ w.heap[p]? = some (.cells #[.slice A L.length c, .bool is] 60 (0, 0)) ∧
    (L ≠ [] → A = some ⟨q, 0, none⟩ ∧ L.length ≤ c ∧ F q ∧ w.heap[q]? = some (.cells (L.map cellv).toArray 76 (0, 0))))
section
variable {w w' : World} {F F' : Nat → Prop} {x : Option Addr} {q b : Nat} {L : List (Option (Nat × S31))} {y : S31}
theorem En.step (h : En w F b y) (hm : ∀ k, F k → k < w.heap.size → w'.heap[k]? = w.heap[k]?) (hF : ∀ k, F k → F' k) : En w' F' b y := by
  obtain ⟨v, hb, hf, ho, hv⟩ := h
  exact ⟨v, (hm b hf (blk_lt hb)).trans hb, hF b hf, own_keep ho hv hm, fun k hk => hF k (hv k hk)⟩
theorem Tb.step (h : Tb w F x q L) (hm : ∀ k, F k → k < w.heap.size → w'.heap[k]? = w.heap[k]?) (hF : ∀ k, F k → F' k) : Tb w' F' x q L := by
  obtain ⟨hl, he, h⟩ := h
  refine ⟨hl, fun b y hy => (he b y hy).step hm hF, ?_⟩
  rcases h with h | ⟨p, A, c, is, hx, hp, hb, hq⟩
  · exact .inl h
  · refine .inr ⟨p, A, c, is, hx, hF p hp, (hm p hp (blk_lt hb)).trans hb, fun hn => ?_⟩
    obtain ⟨h1, h2, h3, h4⟩ := hq hn
    exact ⟨h1, h2, hF q h3, (hm q h3 (blk_lt h4)).trans h4⟩
theorem Tb.below (h : Tb w F x q L) (hb : Below w.heap.size w w') : Tb w' F x q L := h.step (fun k _ hk => hb.block k hk) (fun _ hk => hk)
theorem Tb.fr {S : Nat → Prop} (h : Tb w F x q L) (hf : Fr S w w') (hs : ∀ k, F k → ¬ S k) : Tb w' F x q L := h.step (fun k hF hk => hf.block k hk (hs k hF)) (fun _ hk => hk)
theorem Tb.mono (h : Tb w F x q L) (hF : ∀ k, F k → F' k) : Tb w F' x q L := h.step (fun _ _ _ => rfl) hF
theorem Tb.len (h : Tb w F x q L) : L.length ≤ 65536 := h.1
/-- The pointer, where there are cells. -/
theorem Tb.open_ (h : Tb w F x q L) (hn : 0 < L.length) : ∃ p c, x = some ⟨p, 0, none⟩ ∧ L.length ≤ c ∧ F q ∧ w.cell? ⟨p, 0, none⟩ = some (.slice (some ⟨q, 0, none⟩) L.length c) ∧ w.heap[q]? = some (.cells (L.map cellv).toArray 76 (0, 0)) := by
  obtain ⟨hl, he, h⟩ := h
  rcases h with ⟨_, h⟩ | ⟨p, A, c, is, hx, hp, hb, hq⟩
  · subst h
    exact absurd hn (by simp)
  · obtain ⟨rfl, h2, h3, h4⟩ := hq (by rintro rfl; simp at hn)
    exact ⟨p, c, hx, h2, h3, (blk_cell hb 0).trans rfl, h4⟩
theorem cells_at {W : World} (h : W.heap[q]? = some (.cells (L.map cellv).toArray 76 (0, 0))) (i : Nat) (hi : i < L.length) : W.cell? ⟨q, i, none⟩ = some (cellv L[i]) := by
  rw [blk_cell h]
  simp [hi]
theorem Tb.q_ne (h : Tb w F x q L) (hn : 0 < L.length) : ∀ b y, some (b, y) ∈ L → b ≠ q ∧ ∀ v, w.heap[b]? = some (.cells #[.int .i64 y.f0, .int .i64 y.f1, v] 31 (0, 0)) → w.ownsRow 0 9 1 v y.f2.length (strs y.f2) → v.ownBlock ≠ some q := by
  obtain ⟨p, c, hx, hc, hq, h1, h2⟩ := h.open_ hn
  intro b y hy
  obtain ⟨v, hb, hf, ho, hv⟩ := h.2.1 b y hy
  exact ⟨blk_ne hb h2 (by decide), fun v _ ho => fun e => own_ne ho h2 (by decide) e.symm⟩
/-- A cell is written. -/
theorem Tb.set (h : Tb w F x q L) (i : Nat) (hi : i < L.length) (u : Option (Nat × S31)) (hu : ∀ b y, u = some (b, y) → En w F b y) : Tb (w.setCell ⟨q, i, none⟩ (cellv u)) F x q (L.set i u) := by
  have hn : 0 < L.length := by omega
  obtain ⟨p0, c0, hx0, hc0, hq0, h10, h20⟩ := h.open_ hn
  have far : ∀ {b : Nat} {y : S31}, En w F b y → En (w.setCell ⟨q, i, none⟩ (cellv u)) F b y := fun {b} {y} he => by
    obtain ⟨v, hb, hf, ho, hv⟩ := he
    exact ⟨v, blk_far hb (blk_ne hb h20 (by decide)) _, hf, own_setCell ho (own_ne ho h20 (by decide)) _, hv⟩
  obtain ⟨hl, he, h⟩ := h
  refine ⟨by rw [List.length_set]; exact hl, fun b y hy => ?_, ?_⟩
  · rcases List.mem_or_eq_of_mem_set hy with hy | hy
    · exact far (he b y hy)
    · exact far (hu b y hy.symm)
  · rcases h with ⟨_, h⟩ | ⟨p, A, c, is, hx, hp, hb, hq⟩
    · subst h
      simp at hn
    · obtain ⟨h1, h2, h3, h4⟩ := hq (by rintro rfl; simp at hn)
      refine .inr ⟨p, A, c, is, hx, hp, ?_, fun _ => ⟨h1, by rw [List.length_set]; exact h2, h3, ?_⟩⟩
      · rw [List.length_set]
        exact blk_far hb (blk_ne hb h4 (by decide)) _
      · rw [blk_set h4]
        congr 2
        apply Array.ext'
        simp [List.map_set]
end
end Go.Proofs.Ytpgdehelamgbnaa
