/-
  MemoFirst: what was put, in memory.
-/
import Derived.Test.YtpgdehelamgbnaaFirstP
namespace Go.Proofs.Ytpgdehelamgbnaa
open Go.RowKit Go.Proofs.YtpgdehelamgbnaaW Go.Proofs.YtpgdehelamgbnaaW.PrintWords PMemoActs
set_option linter.unusedVariables false
set_option linter.unusedSimpArgs false
/-- An entry, and where its style lies. -/
abbrev EntR : Type := S31 × Option Addr × Nat
def ec (e : EntR) : List Value := [.int .i64 e.1.f0, .int .i64 e.1.f1, .slice e.2.1 e.1.f2.length e.2.2]
def fl : List EntR → List Value
  | [] => []
  | e :: X => .int .i64 e.1.f0 :: .int .i64 e.1.f1 :: .slice e.2.1 e.1.f2.length e.2.2 :: fl X
theorem fl_length : ∀ X : List EntR, (fl X).length = X.length * 3
  | [] => rfl
  | e :: X => by
    simp only [fl, List.length_cons, fl_length X]
    omega
theorem fl_snoc (e : EntR) : ∀ X : List EntR, fl (X ++ [e]) = fl X ++ ec e
  | [] => rfl
  | x :: X => by
    simp only [List.cons_append, fl, fl_snoc e X]
theorem fl_get : ∀ (X : List EntR) (k : Nat) (e : EntR), X[k]? = some e → (fl X)[k * 3]? = some (.int .i64 e.1.f0) ∧ (fl X)[k * 3 + 1]? = some (.int .i64 e.1.f1) ∧ (fl X)[k * 3 + 2]? = some (.slice e.2.1 e.1.f2.length e.2.2)
  | x :: X, 0, e, h => by
    cases h
    exact ⟨rfl, rfl, rfl⟩
  | x :: X, k + 1, e, h => by
    have := fl_get X k e (by simpa using h)
    rw [show (k + 1) * 3 = k * 3 + 1 + 1 + 1 by omega, show k * 3 + 1 + 1 + 1 + 1 = k * 3 + 1 + 1 + 1 + 1 from rfl]
    simp only [fl]
    refine ⟨?_, ?_, ?_⟩
    · simpa using this.1
    · simpa [List.getElem?_cons_succ] using this.2.1
    · simpa [List.getElem?_cons_succ] using this.2.2
theorem ec_one (e : EntR) : ∀ u ∈ ec e, u.oneCell' = true := by
  intro u hu
  simp [ec] at hu
  rcases hu with rfl | rfl | rfl <;> rfl
/-- An entry's style came in. -/
def Came (W : World) (e : EntR) : Prop := Kd.C Kd.string W e.2.1 e.1.f2.length e.1.f2 ∧ e.1.f2.length ≤ e.2.2 ∧ e.1.f2.length ≤ 8796093022200
/-- The law's state: the table, and the row of what was put; G: blocks that Put leaves alone. -/
def FS (W : World) (G : Nat → Prop) (w : World) (x : Option Addr) (v : Value) (X : List EntR) (T : List (Option S31)) : Prop :=
  (∃ F, Tm w F x T ∧ (∀ k, v.ownBlock = some k → ¬ F k) ∧ (∀ k, F k → W.heap.size ≤ k) ∧ (∀ k, F k → k < w.heap.size) ∧ ∀ k, G k → ¬ F k ∧ k < w.heap.size) ∧ w.ownsRow W.heap.size 31 3 v X.length (fl X) ∧ Below W.heap.size W w
section
variable {W w w' : World} {G : Nat → Prop} {x : Option Addr} {v : Value} {X : List EntR} {T : List (Option S31)}
theorem FS.below (h : FS W G w x v X T) (hb : Below w.heap.size w w') : FS W G w' x v X T := by
  obtain ⟨⟨F, h1, h2, h3, h4, hG⟩, h5, h6⟩ := h
  exact ⟨⟨F, h1.below hb, h2, h3, fun k hk => Nat.lt_of_lt_of_le (h4 k hk) hb.size, fun k hk => ⟨(hG k hk).1, Nat.lt_of_lt_of_le (hG k hk).2 hb.size⟩⟩, own_move h5 (fun k hk => hb.block k (own_lt h5 k hk)), below_step h6 hb⟩
theorem FS.guard (h : FS W G w x v X T) (hb : Below w.heap.size w w') : FS W (fun k => w.heap.size ≤ k ∧ k < w'.heap.size) w' x v X T := by
  obtain ⟨⟨F, h1, h2, h3, h4, hG⟩, h5, h6⟩ := h
  exact ⟨⟨F, h1.below hb, h2, h3, fun k hk => Nat.lt_of_lt_of_le (h4 k hk) hb.size, fun k hk => ⟨fun hF => by have := h4 k hF; omega, hk.2⟩⟩, own_move h5 (fun k hk => hb.block k (own_lt h5 k hk)), below_step h6 hb⟩
theorem FS.free (h : FS W G w x v X T) : FS W (fun _ => False) w x v X T := by
  obtain ⟨⟨F, h1, h2, h3, h4, hG⟩, h5, h6⟩ := h
  exact ⟨⟨F, h1, h2, h3, h4, fun k hk => hk.elim⟩, h5, h6⟩
theorem FS.bel (h : FS W G w x v X T) : Below W.heap.size W w := h.2.2
theorem FS.tm (h : FS W G w x v X T) : ∃ F, Tm w F x T := ⟨h.1.choose, h.1.choose_spec.1⟩
theorem FS.put_c (h : FS W G w x v X T) {y : S31} {A : Option Addr} {c : Nat} (hs : Kd.C Kd.string w A y.f2.length y.f2) (hn : y.f2.length ≤ 8796093022200) :
    Calls Try.prog 11 #[.pointer x, .agg #[.int .i64 y.f0, .int .i64 y.f1, .slice A y.f2.length c]] w fun e w' => e = .returned (.bool (putB T y)) ∧ FS W G w' x v X (putT T y) ∧ ∀ k, G k → w'.heap[k]? = w.heap[k]? := by
  obtain ⟨⟨F, h1, h2, h3, h4, hG⟩, h5, h6⟩ := h
  refine (h1.put_c hs hn).mono fun e w' ⟨he, ht, hf⟩ => ⟨he, ⟨⟨fun k => F k ∨ (w.heap.size ≤ k ∧ k < w'.heap.size), ht.mono (fun k h1 h2 => h1.imp id (fun h => ⟨h, h2⟩)), ?_, ?_, ?_, ?_⟩, ?_, ?_⟩, fun k hk => hf.block k (hG k hk).2 (hG k hk).1⟩
  · rintro k hk (h | h)
    · exact h2 k hk h
    · have := own_lt h5 k hk
      omega
  · rintro k (h | h)
    · exact h3 k h
    · exact Nat.le_trans h6.size h.1
  · rintro k (h | h)
    · exact Nat.lt_of_lt_of_le (h4 k h) hf.size
    · exact h.2
  · intro k hk
    refine ⟨?_, Nat.lt_of_lt_of_le (hG k hk).2 hf.size⟩
    rintro (h | h)
    · exact (hG k hk).1 h
    · have := (hG k hk).2
      omega
  · exact own_move h5 (fun k hk => hf.block k (own_lt h5 k hk) (h2 k hk))
  · exact h6.trans (hf.to_below h6.size h3)
/-- One entry more was put. -/
theorem FS.snoc (h : FS W G w x v X T) {e : EntR} {v1 : Value} {w1 : World} (ho : w1.ownsRow W.heap.size 31 3 v1 (X.length + 1) (fl X ++ ec e)) (hb : Below W.heap.size W w1) (hg : w.grownBy w1 v.ownBlock) (hv : v1.ownBlock = v.ownBlock ∨ ∃ b, v1.ownBlock = some b ∧ w.heap.size ≤ b) : FS W G w1 x v1 (X ++ [e]) T := by
  obtain ⟨⟨F, h1, h2, h3, h4, hG⟩, h5, h6⟩ := h
  refine ⟨⟨F, h1.fr (S := fun k => v.ownBlock = some k) ((Fr.refl _ w).grown hg (fun k hk => Or.inl hk)) (fun k hF _ hk => h2 k hk hF), ?_, h3, fun k hk => Nat.lt_of_lt_of_le (h4 k hk) hg.size, fun k hk => ⟨(hG k hk).1, Nat.lt_of_lt_of_le (hG k hk).2 hg.size⟩⟩, ?_, hb⟩
  · intro k hk hF
    rcases hv with e | ⟨b, e, hb⟩
    · rw [e] at hk
      exact h2 k hk hF
    · rw [e] at hk
      cases hk
      have := h4 _ hF
      omega
  · rw [fl_snoc, List.length_append]
    exact ho
theorem FS.at_ (h : FS W G w x v X T) (k : Nat) (hk : k < X.length) : ∃ g cap, v = .slice (some ⟨g, 0, none⟩) X.length cap ∧ w.cell? ⟨g, k * 3, none⟩ = some (.int .i64 (X[k]).1.f0) ∧ w.cell? ⟨g, k * 3 + 1, none⟩ = some (.int .i64 (X[k]).1.f1) ∧
    w.cell? ⟨g, k * 3 + 2, none⟩ = some (.slice (X[k]).2.1 (X[k]).1.f2.length (X[k]).2.2) := by
  obtain ⟨_, ho, _⟩ := h
  obtain ⟨g, cap, rfl⟩ : ∃ g cap, v = .slice (some ⟨g, 0, none⟩) X.length cap := by
    rcases ho.2 with ⟨h1, h2⟩ | ⟨g, cap, cur, h1, _⟩
    · omega
    · exact ⟨g, cap, h1⟩
  obtain ⟨e0, e1, e2⟩ := fl_get X k X[k] (List.getElem?_eq_getElem hk)
  exact ⟨g, cap, rfl, (ho.cellAt _ (by omega)).trans e0, (ho.cellAt _ (by omega)).trans e1, (ho.cellAt _ (by omega)).trans e2⟩
theorem FS.slice_ (h : FS W G w x v X T) : ∃ A c, v = .slice A X.length c := own_slice h.2.1
theorem FS.new {p : Nat} (ht : Tm w (fun k => W.heap.size ≤ k) (some ⟨p, 0, none⟩) T) (hb : Below W.heap.size W w) : FS W (fun _ => False) w (some ⟨p, 0, none⟩) (.slice none 0 0) [] T :=
  ⟨⟨fun k => W.heap.size ≤ k ∧ k < w.heap.size, ht.mono (fun k h1 h2 => ⟨h1, h2⟩), fun k hk => by simp [Value.ownBlock] at hk, fun k hk => hk.1, fun k hk => hk.2, fun k hk => hk.elim⟩, own_nil _ _ _ _, hb⟩
end
theorem hasK_snoc (ins : List S31) (y z : S31) : hasK (ins ++ [z]) y = (hasK ins y || keyed y.f0 y.f1 z) := by simp [hasK]
end Go.Proofs.Ytpgdehelamgbnaa
