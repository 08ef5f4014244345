/-
  The document's table in memory.
-/
import Derived.Test.YtpgdehelamgbnaaFirstP
namespace Go.Proofs.Ytpgdehelamgbnaa
open Go.RowKit Go.Proofs.YtpgdehelamgbnaaW Go.Proofs.YtpgdehelamgbnaaW.PrintWords PMemoActs
set_option linter.unusedVariables false
set_option linter.unusedSimpArgs false
/-- A cell, and where its style lies. -/
abbrev CellR : Type := Option (S31 × Option Addr × Nat)
def cB (u : CellR) : Value := .bool u.isSome
def cE (u : CellR) : Value := .int .i64 ((u.map (·.1.f0)).getD 0)
def cN (u : CellR) : Value := .int .i64 ((u.map (·.1.f1)).getD 0)
def cS (u : CellR) : Value := match u with
  | none => .slice none 0 0
  | some e => .slice e.2.1 e.1.f2.length e.2.2
def f4 : List CellR → List Value
  | [] => []
  | u :: X => cB u :: cE u :: cN u :: cS u :: f4 X
def c4 (u : CellR) : List Value := [cB u, cE u, cN u, cS u]
theorem f4_length : ∀ X : List CellR, (f4 X).length = X.length * 4
  | [] => rfl
  | e :: X => by
    simp only [f4, List.length_cons, f4_length X]
    omega
theorem f4_get : ∀ (X : List CellR) (k : Nat) (u : CellR), X[k]? = some u → (f4 X)[k * 4]? = some (cB u) ∧ (f4 X)[k * 4 + 1]? = some (cE u) ∧ (f4 X)[k * 4 + 2]? = some (cN u) ∧ (f4 X)[k * 4 + 3]? = some (cS u)
  | x :: X, 0, e, h => by
    cases h
    exact ⟨rfl, rfl, rfl, rfl⟩
  | x :: X, k + 1, e, h => by
    have := f4_get X k e (by simpa using h)
    rw [show (k + 1) * 4 = k * 4 + 1 + 1 + 1 + 1 by omega]
    simp only [f4]
    refine ⟨?_, ?_, ?_, ?_⟩
    · simpa using this.1
    · simpa [List.getElem?_cons_succ] using this.2.1
    · simpa [List.getElem?_cons_succ] using this.2.2.1
    · simpa [List.getElem?_cons_succ] using this.2.2.2
theorem f4_set (u : CellR) : ∀ (X : List CellR) (k : Nat), k < X.length → ((((f4 X).set (k * 4) (cB u)).set (k * 4 + 1) (cE u)).set (k * 4 + 2) (cN u)).set (k * 4 + 3) (cS u) = f4 (X.set k u)
  | x :: X, 0, _ => by simp [f4]
  | x :: X, k + 1, h => by
    have := f4_set u X k (by simpa using h)
    rw [show (k + 1) * 4 = k * 4 + 1 + 1 + 1 + 1 by omega]
    simp only [f4, List.set_cons_succ]
    rw [← this]
theorem c4_one (u : CellR) : ∀ v ∈ c4 u, v.oneCell' = true := by
  intro v hv
  simp only [c4, List.mem_cons, List.not_mem_nil, or_false] at hv
  rcases hv with rfl | rfl | rfl | rfl
  · rfl
  · rfl
  · rfl
  · cases u <;> rfl
theorem f4_one : ∀ (X : List CellR), ∀ v ∈ f4 X, v.oneCell' = true
  | [], v, h => by cases h
  | u :: X, v, h => by
    have : f4 (u :: X) = c4 u ++ f4 X := rfl
    rw [this] at h
    rcases List.mem_append.1 h with h | h
    · exact c4_one u v h
    · exact f4_one X v h
/-- An entry's style, in its own row. -/
def Sty (w : World) (F : Nat → Prop) (e : S31 × Option Addr × Nat) : Prop := w.ownsRow 0 9 1 (.slice e.2.1 e.1.f2.length e.2.2) e.1.f2.length (strs e.1.f2) ∧ ∀ k, (Value.slice e.2.1 e.1.f2.length e.2.2).ownBlock = some k → F k
/-- The document's table at p, its cells in block g. -/
def Rt (w : World) (F : Nat → Prop) (p g cap : Nat) (X : List CellR) : Prop :=
  X.length ≤ 65536 ∧ F p ∧ F g ∧ w.heap[p]? = some (.cells #[.slice (some ⟨g, 0, none⟩) X.length cap] 56 (0, 0)) ∧ w.ownsRow 0 79 4 (.slice (some ⟨g, 0, none⟩) X.length cap) X.length (f4 X) ∧ ∀ e, some e ∈ X → Sty w F e
def absR (X : List CellR) : List (Option S31) := X.map (Option.map (·.1))
/-- The document's table by what it keeps. -/
def Rm (w : World) (F : Nat → Prop) (p : Nat) (T : List (Option S31)) : Prop := ∃ g cap X, absR X = T ∧ Rt w (fun k => F k ∧ k < w.heap.size) p g cap X
section
variable {w w' : World} {F F' : Nat → Prop} {p g cap : Nat} {X : List CellR} {T : List (Option S31)}
theorem Sty.step {e : S31 × Option Addr × Nat} (h : Sty w F e) (hm : ∀ k, F k → k < w.heap.size → w'.heap[k]? = w.heap[k]?) (hF : ∀ k, F k → F' k) : Sty w' F' e := ⟨own_keep h.1 h.2 hm, fun k hk => hF k (h.2 k hk)⟩
theorem Rt.step (h : Rt w F p g cap X) (hm : ∀ k, F k → k < w.heap.size → w'.heap[k]? = w.heap[k]?) (hF : ∀ k, F k → F' k) : Rt w' F' p g cap X := by
  obtain ⟨h1, h2, h3, h4, h5, h6⟩ := h
  exact ⟨h1, hF p h2, hF g h3, (hm p h2 (blk_lt h4)).trans h4, own_keep h5 (F := F) (fun k hk => by cases hk; exact h3) hm, fun e he => (h6 e he).step hm hF⟩
theorem Rt.bound (h : Rt w F p g cap X) : Rt w (fun k => F k ∧ k < w.heap.size) p g cap X := by
  obtain ⟨h1, h2, h3, h4, h5, h6⟩ := h
  exact ⟨h1, ⟨h2, blk_lt h4⟩, ⟨h3, own_lt h5 g rfl⟩, h4, h5, fun e he => ⟨(h6 e he).1, fun k hk => ⟨(h6 e he).2 k hk, own_lt (h6 e he).1 k hk⟩⟩⟩
theorem Rm.of (h : Rt w F p g cap X) : Rm w F p (absR X) := ⟨g, cap, X, rfl, h.bound⟩
theorem Rm.fr {S : Nat → Prop} (h : Rm w F p T) (hf : Fr S w w') (hs : ∀ k, F k → k < w.heap.size → ¬ S k) : Rm w' F p T := by
  obtain ⟨g, cap, X, hT, h⟩ := h
  exact ⟨g, cap, X, hT, h.step (fun k hk hl => hf.block k hl (hs k hk.1 hk.2)) (fun k hk => ⟨hk.1, Nat.lt_of_lt_of_le hk.2 hf.size⟩)⟩
theorem Rm.below (h : Rm w F p T) (hb : Below w.heap.size w w') : Rm w' F p T := h.fr (Fr.of_below hb (fun _ => False)) (fun _ _ _ h => h)
theorem Rm.mono (h : Rm w F p T) (hF : ∀ k, F k → k < w.heap.size → F' k) : Rm w F' p T := by
  obtain ⟨g, cap, X, hT, h⟩ := h
  exact ⟨g, cap, X, hT, h.step (fun _ _ _ => rfl) (fun k hk => ⟨hF k hk.1 hk.2, hk.2⟩)⟩
theorem Rm.len (h : Rm w F p T) : T.length ≤ 65536 := by
  obtain ⟨g, cap, X, rfl, h⟩ := h
  simpa [absR] using h.1
theorem absR_length (X : List CellR) : (absR X).length = X.length := by simp [absR]
theorem absR_set (X : List CellR) (i : Nat) (u : CellR) : absR (X.set i u) = (absR X).set i (u.map (·.1)) := by simp [absR, List.map_set]
/-- The slice's own cell. -/
theorem Rm.cell (h : Rm w F p T) : ∃ A c, w.cell? ⟨p, 0, none⟩ = some (.slice A T.length c) ∧ T.length ≤ c := by
  obtain ⟨g, cap, X, rfl, h⟩ := h
  rw [absR_length]
  exact ⟨_, _, (blk_cell h.2.2.2.1 0).trans rfl, own_le h.2.2.2.2.1⟩
theorem Rt.cells (h : Rt w F p g cap X) (k : Nat) (hk : k < X.length) : w.cell? ⟨g, k * 4, none⟩ = some (cB X[k]) ∧ w.cell? ⟨g, k * 4 + 1, none⟩ = some (cE X[k]) ∧ w.cell? ⟨g, k * 4 + 2, none⟩ = some (cN X[k]) ∧ w.cell? ⟨g, k * 4 + 3, none⟩ = some (cS X[k]) := by
  obtain ⟨e0, e1, e2, e3⟩ := f4_get X k X[k] (List.getElem?_eq_getElem hk)
  have ho := h.2.2.2.2.1
  exact ⟨(ho.cellAt _ (by omega)).trans e0, (ho.cellAt _ (by omega)).trans e1, (ho.cellAt _ (by omega)).trans e2, (ho.cellAt _ (by omega)).trans e3⟩
end
/-- What a cell's own words say. -/
theorem lookR {X : List CellR} (k : Nat) (hk : k < X.length) : lookT (absR X) (k : Int) = (X[k]).map (·.1) := by
  unfold lookT absR
  rw [if_neg (by omega), Int.toNat_natCast, List.getD_eq_getElem?_getD, List.getElem?_map, List.getElem?_eq_getElem hk]
  rfl
theorem lookT_out (T : List (Option S31)) (i : Int) (h : i < 0 ∨ (T.length : Int) ≤ i) : lookT T i = none := by
  unfold lookT
  split
  · rfl
  · rw [List.getD_eq_getElem?_getD, List.getElem?_eq_none (by omega)]
    rfl
theorem info79 : (Try.prog.info? 79).map (fun i => (i.zero, i.size, i.bytes)) = some (some (.agg #[.bool false, .int .i64 0, .int .i64 0, .slice none 0 0]), 4, 48) := by kernel_rfl
theorem made4 (n : Nat) : madeCells #[.bool false, .int .i64 0, .int .i64 0, .slice none 0 0] (n * 4) = (f4 (List.replicate n none)).toArray := by
  apply Array.ext_getElem?
  intro i
  by_cases hi : i < n * 4
  · obtain ⟨k, j, hj, rfl⟩ : ∃ k j, j < 4 ∧ i = k * 4 + j := ⟨i / 4, i % 4, by omega, by omega⟩
    have hk : k < n := by omega
    obtain ⟨e0, e1, e2, e3⟩ := f4_get (List.replicate n none) k none (by simp [hk])
    have hm : (madeCells #[.bool false, .int .i64 0, .int .i64 0, .slice none 0 0] (n * 4))[k * 4 + j]? = some (#[.bool false, .int .i64 0, .int .i64 0, .slice none 0 0][(k * 4 + j) % 4]!) := by
      unfold madeCells
      simp [hi]
    rw [hm, List.getElem?_toArray, show (k * 4 + j) % 4 = j by omega]
    match j, hj with
    | 0, _ => rw [Nat.add_zero, e0]; rfl
    | 1, _ => rw [e1]; rfl
    | 2, _ => rw [e2]; rfl
    | 3, _ => rw [e3]; rfl
  · rw [Array.getElem?_eq_none (by rw [size_madeCells]; omega), List.getElem?_toArray, List.getElem?_eq_none (by rw [f4_length, List.length_replicate]; omega)]
end Go.Proofs.Ytpgdehelamgbnaa
