/-
  MemoActs: both tables in one world.
-/
import Derived.Test.YtpgdehelamgbnaaRefP
import Derived.Test.YtpgdehelamgbnaaFirstP
import Derived.Deep.CutBlock
namespace Go.Proofs.Ytpgdehelamgbnaa
open Go.RowKit Go.Proofs.YtpgdehelamgbnaaW Go.Proofs.YtpgdehelamgbnaaW.PrintWords PMemoActs
set_option linter.unusedVariables false
set_option linter.unusedSimpArgs false
/-- Both tables, apart from one another and from the blocks of K. -/
def MS (W : World) (K : Nat → Prop) (w : World) (pt pr : Nat) (T R : List (Option S31)) : Prop :=
  (∃ F G, Tm w F (some ⟨pt, 0, none⟩) T ∧ Rm w G pr R ∧ (∀ k, F k → ¬ G k) ∧ (∀ k, F k → W.heap.size ≤ k ∧ k < w.heap.size) ∧ (∀ k, G k → W.heap.size ≤ k ∧ k < w.heap.size) ∧ ∀ k, K k → ¬ F k ∧ ¬ G k ∧ k < w.heap.size) ∧ Below W.heap.size W w
/-- What a call leaves of the blocks of K. -/
def Stay (K : Nat → Prop) (w w' : World) : Prop := ∀ k, K k → w'.heap[k]? = w.heap[k]?
section
variable {W w w' : World} {K : Nat → Prop} {pt pr : Nat} {T R : List (Option S31)} {y : S31} {A : Option Addr} {c : Nat}
theorem MS.below (h : MS W K w pt pr T R) (hb : Below w.heap.size w w') : MS W K w' pt pr T R := by
  obtain ⟨⟨F, G, h1, h2, h3, h4, h5, h6⟩, h7⟩ := h
  exact ⟨⟨F, G, h1.below hb, h2.below hb, h3, fun k hk => ⟨(h4 k hk).1, Nat.lt_of_lt_of_le (h4 k hk).2 hb.size⟩, fun k hk => ⟨(h5 k hk).1, Nat.lt_of_lt_of_le (h5 k hk).2 hb.size⟩,
    fun k hk => ⟨(h6 k hk).1, (h6 k hk).2.1, Nat.lt_of_lt_of_le (h6 k hk).2.2 hb.size⟩⟩, below_step h7 hb⟩
theorem MS.guard (h : MS W K w pt pr T R) (hb : Below w.heap.size w w') : MS W (fun k => w.heap.size ≤ k ∧ k < w'.heap.size) w' pt pr T R := by
  obtain ⟨⟨F, G, h1, h2, h3, h4, h5, h6⟩, h7⟩ := h
  exact ⟨⟨F, G, h1.below hb, h2.below hb, h3, fun k hk => ⟨(h4 k hk).1, Nat.lt_of_lt_of_le (h4 k hk).2 hb.size⟩, fun k hk => ⟨(h5 k hk).1, Nat.lt_of_lt_of_le (h5 k hk).2 hb.size⟩,
    fun k hk => ⟨fun hF => by have := (h4 k hF).2; omega, fun hG => by have := (h5 k hG).2; omega, hk.2⟩⟩, below_step h7 hb⟩
theorem MS.free (h : MS W K w pt pr T R) : MS W (fun _ => False) w pt pr T R := by
  obtain ⟨⟨F, G, h1, h2, h3, h4, h5, h6⟩, h7⟩ := h
  exact ⟨⟨F, G, h1, h2, h3, h4, h5, fun k hk => hk.elim⟩, h7⟩
theorem MS.bel (h : MS W K w pt pr T R) : Below W.heap.size W w := h.2
theorem MS.tm (h : MS W K w pt pr T R) : ∃ F, Tm w F (some ⟨pt, 0, none⟩) T := ⟨_, h.1.choose_spec.choose_spec.1⟩
theorem MS.rm (h : MS W K w pt pr T R) : ∃ G, Rm w G pr R := ⟨_, h.1.choose_spec.choose_spec.2.1⟩
/-- A call that writes to the one table alone. -/
theorem MS.move_t {T' : List (Option S31)} (F G : Nat → Prop) (h1 : Tm w F (some ⟨pt, 0, none⟩) T) (h2 : Rm w G pr R) (h3 : ∀ k, F k → ¬ G k) (h4 : ∀ k, F k → W.heap.size ≤ k ∧ k < w.heap.size) (h5 : ∀ k, G k → W.heap.size ≤ k ∧ k < w.heap.size) (h6 : ∀ k, K k → ¬ F k ∧ ¬ G k ∧ k < w.heap.size) (h7 : Below W.heap.size W w)
    (ht : Tm w' (fun k => F k ∨ w.heap.size ≤ k) (some ⟨pt, 0, none⟩) T') (hf : Fr F w w') : MS W K w' pt pr T' R ∧ Stay K w w' := by
  refine ⟨⟨⟨fun k => F k ∨ (w.heap.size ≤ k ∧ k < w'.heap.size), G, ht.mono (fun k a b => a.imp id (fun h => ⟨h, b⟩)), h2.fr hf (fun k hG _ hF => h3 k hF hG), ?_, ?_, ?_, ?_⟩, ?_⟩, ?_⟩
  · rintro k (h | h) hG
    · exact h3 k h hG
    · have := (h5 k hG).2
      omega
  · rintro k (h | h)
    · exact ⟨(h4 k h).1, Nat.lt_of_lt_of_le (h4 k h).2 hf.size⟩
    · exact ⟨Nat.le_trans h7.size h.1, h.2⟩
  · exact fun k hk => ⟨(h5 k hk).1, Nat.lt_of_lt_of_le (h5 k hk).2 hf.size⟩
  · intro k hk
    refine ⟨?_, (h6 k hk).2.1, Nat.lt_of_lt_of_le (h6 k hk).2.2 hf.size⟩
    rintro (h | h)
    · exact (h6 k hk).1 h
    · have := (h6 k hk).2.2
      omega
  · exact h7.trans (hf.to_below h7.size (fun k hk => (h4 k hk).1))
  · exact fun k hk => hf.block k (h6 k hk).2.2 (h6 k hk).1
theorem MS.move_r {R' : List (Option S31)} (F G : Nat → Prop) (h1 : Tm w F (some ⟨pt, 0, none⟩) T) (h2 : Rm w G pr R) (h3 : ∀ k, F k → ¬ G k) (h4 : ∀ k, F k → W.heap.size ≤ k ∧ k < w.heap.size) (h5 : ∀ k, G k → W.heap.size ≤ k ∧ k < w.heap.size) (h6 : ∀ k, K k → ¬ F k ∧ ¬ G k ∧ k < w.heap.size) (h7 : Below W.heap.size W w)
    (ht : Rm w' (fun k => G k ∨ w.heap.size ≤ k) pr R') (hf : Fr G w w') : MS W K w' pt pr T R' ∧ Stay K w w' := by
  refine ⟨⟨⟨F, fun k => G k ∨ (w.heap.size ≤ k ∧ k < w'.heap.size), h1.fr hf (fun k hF _ hG => h3 k hF hG), ht.mono (fun k a b => a.imp id (fun h => ⟨h, b⟩)), ?_, ?_, ?_, ?_⟩, ?_⟩, ?_⟩
  · rintro k hF (h | h)
    · exact h3 k hF h
    · have := (h4 k hF).2
      omega
  · exact fun k hk => ⟨(h4 k hk).1, Nat.lt_of_lt_of_le (h4 k hk).2 hf.size⟩
  · rintro k (h | h)
    · exact ⟨(h5 k h).1, Nat.lt_of_lt_of_le (h5 k h).2 hf.size⟩
    · exact ⟨Nat.le_trans h7.size h.1, h.2⟩
  · intro k hk
    refine ⟨(h6 k hk).1, ?_, Nat.lt_of_lt_of_le (h6 k hk).2.2 hf.size⟩
    rintro (h | h)
    · exact (h6 k hk).2.1 h
    · have := (h6 k hk).2.2
      omega
  · exact h7.trans (hf.to_below h7.size (fun k hk => (h5 k hk).1))
  · exact fun k hk => hf.block k (h6 k hk).2.2 (h6 k hk).2.1
theorem MS.put_t (h : MS W K w pt pr T R) (hs : Kd.C Kd.string w A y.f2.length y.f2) (hn : y.f2.length ≤ 8796093022200) :
    Calls Try.prog 11 #[.pointer (some ⟨pt, 0, none⟩), .agg #[.int .i64 y.f0, .int .i64 y.f1, .slice A y.f2.length c]] w fun e w' => e = .returned (.bool (putB T y)) ∧ MS W K w' pt pr (putT T y) R ∧ Stay K w w' := by
  obtain ⟨⟨F, G, h1, h2, h3, h4, h5, h6⟩, h7⟩ := h
  exact (h1.put_c hs hn).mono fun e w' ⟨he, ht, hf⟩ => ⟨he, MS.move_t F G h1 h2 h3 h4 h5 h6 h7 ht hf⟩
theorem MS.put_r (h : MS W K w pt pr T R) (hs : Kd.C Kd.string w A y.f2.length y.f2) (hn : y.f2.length ≤ 8796093022200) :
    Calls Try.prog 19 #[.pointer (some ⟨pr, 0, none⟩), .agg #[.int .i64 y.f0, .int .i64 y.f1, .slice A y.f2.length c]] w fun e w' => e = .returned (.bool (putB R y)) ∧ MS W K w' pt pr T (putT R y) ∧ Stay K w w' := by
  obtain ⟨⟨F, G, h1, h2, h3, h4, h5, h6⟩, h7⟩ := h
  exact (h2.put_c hs hn).mono fun e w' ⟨he, ht, hf⟩ => ⟨he, MS.move_r F G h1 h2 h3 h4 h5 h6 h7 ht hf⟩
theorem MS.cas_t (h : MS W K w pt pr T R) (i : Int) (hs : Kd.C Kd.string w A y.f2.length y.f2) (hn : y.f2.length ≤ 8796093022200) :
    Calls Try.prog 17 #[.pointer (some ⟨pt, 0, none⟩), .int .i64 i, .agg #[.int .i64 y.f0, .int .i64 y.f1, .slice A y.f2.length c]] w fun e w' => e = .returned (.bool (casB T i)) ∧ MS W K w' pt pr (casT T i y) R ∧ Stay K w w' := by
  obtain ⟨⟨F, G, h1, h2, h3, h4, h5, h6⟩, h7⟩ := h
  exact (h1.cas_c i hs hn).mono fun e w' ⟨he, ht, hf⟩ => ⟨he, MS.move_t F G h1 h2 h3 h4 h5 h6 h7 ht hf⟩
theorem MS.cas_r (h : MS W K w pt pr T R) (i : Int) (hs : Kd.C Kd.string w A y.f2.length y.f2) (hn : y.f2.length ≤ 8796093022200) :
    Calls Try.prog 21 #[.pointer (some ⟨pr, 0, none⟩), .int .i64 i, .agg #[.int .i64 y.f0, .int .i64 y.f1, .slice A y.f2.length c]] w fun e w' => e = .returned (.bool (casB R i)) ∧ MS W K w' pt pr T (casT R i y) ∧ Stay K w w' := by
  obtain ⟨⟨F, G, h1, h2, h3, h4, h5, h6⟩, h7⟩ := h
  exact (h2.cas_c i hs hn).mono fun e w' ⟨he, ht, hf⟩ => ⟨he, MS.move_r F G h1 h2 h3 h4 h5 h6 h7 ht hf⟩
theorem MS.clear_t (h : MS W K w pt pr T R) : Calls Try.prog 24 #[.pointer (some ⟨pt, 0, none⟩)] w fun e w' => e = .returned (.tuple #[]) ∧ MS W K w' pt pr (List.replicate T.length none) R ∧ Stay K w w' := by
  obtain ⟨⟨F, G, h1, h2, h3, h4, h5, h6⟩, h7⟩ := h
  exact (h1.clear_c).mono fun e w' ⟨he, ht, hf⟩ => ⟨he, MS.move_t F G h1 h2 h3 h4 h5 h6 h7 (ht.mono (fun k hk _ => Or.inl hk)) hf⟩
theorem MS.clear_r (h : MS W K w pt pr T R) : Calls Try.prog 25 #[.pointer (some ⟨pr, 0, none⟩)] w fun e w' => e = .returned (.tuple #[]) ∧ MS W K w' pt pr T (List.replicate R.length none) ∧ Stay K w w' := by
  obtain ⟨⟨F, G, h1, h2, h3, h4, h5, h6⟩, h7⟩ := h
  exact (h2.clear_c).mono fun e w' ⟨he, ht, hf⟩ => ⟨he, MS.move_r F G h1 h2 h3 h4 h5 h6 h7 ht hf⟩
end
theorem fits_put {T : List (Option S31)} {y : S31} (h : Fits T) (hy : y.f2.length ≤ 8796093022200) : Fits (putT T y) := by
  unfold putT
  split
  · intro z hz
    rcases List.mem_or_eq_of_mem_set hz with hz | hz
    · exact h z hz
    · cases hz
      exact hy
  · exact h
theorem fits_cas {T : List (Option S31)} {y : S31} {i : Int} (h : Fits T) (hy : y.f2.length ≤ 8796093022200) : Fits (casT T i y) := by
  unfold casT
  split
  · intro z hz
    rcases List.mem_or_eq_of_mem_set hz with hz | hz
    · exact h z hz
    · cases hz
      exact hy
  · exact h
theorem fits_none (n : Nat) : Fits (List.replicate n none) := fun z hz => by
  have := List.eq_of_mem_replicate hz
  cases this
theorem casT_length (T : List (Option S31)) (i : Int) (y : S31) : (casT T i y).length = T.length := by
  unfold casT
  split <;> simp
/-- An act's cells. -/
def ac (a : S33) (A : Option Addr) (c : Nat) : Array Value := #[.int .i64 a.f0, .int .i64 a.f1, .int .i64 a.f2.f0, .int .i64 a.f2.f1, .slice A a.f2.f2.length c]
theorem act_at {W : World} {A : Option Addr} {l : List S33} (h : Kd.C k33 W A l.length l) (k : Nat) (hk : k < l.length) : ∃ ad A4 c4, A = some ad ∧ W.cell? (ad.add (k * 5)) = some (.int .i64 (l[k]).f0) ∧ W.cell? ⟨(ad.add (k * 5)).block, (ad.add (k * 5)).off + 1, none⟩ = some (.int .i64 (l[k]).f1) ∧
    W.cell? ⟨(ad.add (k * 5)).block, (ad.add (k * 5)).off + 2, none⟩ = some (.int .i64 (l[k]).f2.f0) ∧ W.cell? ⟨(ad.add (k * 5)).block, (ad.add (k * 5)).off + 3, none⟩ = some (.int .i64 (l[k]).f2.f1) ∧
    W.cell? ⟨(ad.add (k * 5)).block, (ad.add (k * 5)).off + 4, none⟩ = some (.slice A4 (l[k]).f2.f2.length c4) ∧ (l[k]).f2.f2.length ≤ c4 ∧ Kd.C Kd.string W A4 (l[k]).f2.f2.length (l[k]).f2.f2 := by
  have := at_T33 h (k : Int) (by omega) (by omega)
  rw [rd33_at l k hk, Int.toNat_natCast] at this
  exact this
/-- The boxes of a round. -/
def BxS (w : World) (b8 b10 : Nat) (a : S33) (A : Option Addr) (c : Nat) : Prop := w.heap[b8]? = some (.cells (ac a A c) 33 (0, 0)) ∧ w.heap[b10]? = some (.cells #[.int .i64 a.f2.f0, .int .i64 a.f2.f1, .slice A a.f2.f2.length c] 48 (0, 0))
theorem BxS.stay {w w' : World} {K : Nat → Prop} {b8 b10 : Nat} {a : S33} {A : Option Addr} {c : Nat} (h : BxS w b8 b10 a A c) (hs : Stay K w w') (h8 : K b8) (h10 : K b10) : BxS w' b8 b10 a A c := ⟨(hs b8 h8).trans h.1, (hs b10 h10).trans h.2⟩
theorem BxS.below {w w' : World} {b8 b10 : Nat} {a : S33} {A : Option Addr} {c : Nat} (h : BxS w b8 b10 a A c) (hb : Below w.heap.size w w') : BxS w' b8 b10 a A c := ⟨(hb.block b8 (blk_lt h.1)).trans h.1, (hb.block b10 (blk_lt h.2)).trans h.2⟩
theorem range_mid {w : World} {b : Nat} {a : S33} {A : Option Addr} {c : Nat} (h : w.heap[b]? = some (.cells (ac a A c) 33 (0, 0))) : w.rangeAt b 2 [.int .i64 a.f2.f0, .int .i64 a.f2.f1, .slice A a.f2.f2.length c] := fun j v hj => by
  rw [blk_cell h]
  match j, hj with
  | 0, hj => exact hj
  | 1, hj => exact hj
  | 2, hj => exact hj
  | j + 3, hj => simp at hj
theorem getD_mem {T : List (Option S31)} {k : Nat} {z : S31} (h : T.getD k none = some z) : some z ∈ T := by
  rw [List.getD_eq_getElem?_getD] at h
  cases hk : T[k]? with
  | none => rw [hk] at h; cases h
  | some u =>
    rw [hk] at h
    have hu : u = some z := h
    subst hu
    exact List.mem_of_getElem? hk
theorem fits_look {T : List (Option S31)} (h : Fits T) {i : Int} {z : S31} (hz : lookT T i = some z) : z.f2.length ≤ 8796093022200 := by
  unfold lookT at hz
  split at hz
  · cases hz
  · exact h z (getD_mem hz)
theorem fits_get {T : List (Option S31)} (h : Fits T) {ep nd : Int} {z : S31} (hz : getT T ep nd = some z) : z.f2.length ≤ 8796093022200 := by
  unfold getT at hz
  cases hs : scan ep nd (line T (homeN T.length ep nd)) with
  | full => rw [hs] at hz; cases hz
  | free i => rw [hs] at hz; cases hz
  | hit i y =>
    rw [hs] at hz
    cases hz
    obtain ⟨c, hc, h1, h2⟩ := scan_hit_mem hs
    unfold line at hc
    obtain ⟨k, _, rfl⟩ := List.mem_map.1 hc
    exact h _ (getD_mem h1)
theorem BxS.facts {w : World} {b8 b10 : Nat} {a : S33} {A : Option Addr} {c : Nat} (h : BxS w b8 b10 a A c) : w.cell? ⟨b8, 0, none⟩ = some (.int .i64 a.f0) ∧ w.cell? ⟨b8, 1, none⟩ = some (.int .i64 a.f1) ∧ w.cell? ⟨b8, 2, none⟩ = some (.int .i64 a.f2.f0) ∧ w.cell? ⟨b8, 3, none⟩ = some (.int .i64 a.f2.f1) :=
  ⟨(blk_cell h.1 0).trans rfl, (blk_cell h.1 1).trans rfl, (blk_cell h.1 2).trans rfl, (blk_cell h.1 3).trans rfl⟩
/-- The round's end: boxes, tables, the document's own cell. -/
def EndS (W : World) (K : Nat → Prop) (w : World) (b8 b10 : Nat) (a : S33) (A : Option Addr) (c : Nat) (pt pr : Nat) (T : List (Option S31)) (A0 : Option Addr) (c0 : Nat) : Prop :=
  BxS w b8 b10 a A c ∧ MS W K w pt pr T T ∧ w.heap[pr]? = some (.cells #[.slice A0 T.length c0] 56 (0, 0))
theorem EndS.below {W w w' : World} {K : Nat → Prop} {b8 b10 : Nat} {a : S33} {A : Option Addr} {c : Nat} {pt pr : Nat} {T : List (Option S31)} {A0 : Option Addr} {c0 : Nat} (h : EndS W K w b8 b10 a A c pt pr T A0 c0) (hb : Below w.heap.size w w') : EndS W K w' b8 b10 a A c pt pr T A0 c0 :=
  ⟨h.1.below hb, h.2.1.below hb, (hb.block pr (blk_lt h.2.2)).trans h.2.2⟩
section
variable {W w : World} {K : Nat → Prop} {pt pr : Nat} {T R : List (Option S31)}
theorem MS.used_t (h : MS W K w pt pr T R) : Calls Try.prog 14 #[.pointer (some ⟨pt, 0, none⟩)] w fun e w' => e = .returned (.int .i64 (used T : Int)) ∧ Below w.heap.size w w' := by
  obtain ⟨F, h⟩ := h.tm
  exact h.used_c
theorem MS.used_r (h : MS W K w pt pr T R) : Calls Try.prog 26 #[.pointer (some ⟨pr, 0, none⟩)] w fun e w' => e = .returned (.int .i64 (used R : Int)) ∧ Below w.heap.size w w' := by
  obtain ⟨F, h⟩ := h.rm
  exact h.used_c
theorem MS.size_t (h : MS W K w pt pr T R) : Calls Try.prog 27 #[.pointer (some ⟨pt, 0, none⟩)] w fun e w' => e = .returned (.int .i64 (T.length : Int)) ∧ w = w' := by
  obtain ⟨F, h⟩ := h.tm
  exact h.size_c
theorem MS.home_t (h : MS W K w pt pr T R) (ep nd : Int) : Calls Try.prog 16 #[.pointer (some ⟨pt, 0, none⟩), .int .i64 ep, .int .i64 nd] w fun e w' => e = .returned (.int .i64 (homeN T.length ep nd : Int)) ∧ w = w' := by
  obtain ⟨F, h⟩ := h.tm
  exact h.home_c ep nd
theorem MS.home_r (h : MS W K w pt pr T R) (ep nd : Int) : Calls Try.prog 28 #[.pointer (some ⟨pr, 0, none⟩), .int .i64 ep, .int .i64 nd] w fun e w' => e = .returned (.int .i64 (homeN R.length ep nd : Int)) ∧ w = w' := by
  obtain ⟨F, h⟩ := h.rm
  exact h.home_c ep nd
theorem MS.get_t (h : MS W K w pt pr T R) (hf : Fits T) (ep nd : Int) : Calls Try.prog 12 #[.pointer (some ⟨pt, 0, none⟩), .int .i64 ep, .int .i64 nd] w (GetT w (getT T ep nd)) := by
  obtain ⟨F, h⟩ := h.tm
  exact h.get_c hf ep nd
theorem MS.get_r (h : MS W K w pt pr T R) (ep nd : Int) : Calls Try.prog 20 #[.pointer (some ⟨pr, 0, none⟩), .int .i64 ep, .int .i64 nd] w (RGet w (getT R ep nd)) := by
  obtain ⟨F, h⟩ := h.rm
  exact h.get_c ep nd
theorem MS.load_t (h : MS W K w pt pr T R) (hf : Fits T) (i : Int) : Calls Try.prog 15 #[.pointer (some ⟨pt, 0, none⟩), .int .i64 i] w (LoadT w (lookT T i)) := by
  obtain ⟨F, h⟩ := h.tm
  exact h.load_c hf i
theorem MS.load_r (h : MS W K w pt pr T R) (i : Int) : Calls Try.prog 22 #[.pointer (some ⟨pr, 0, none⟩), .int .i64 i] w (RLoad w (lookT R i)) := by
  obtain ⟨F, h⟩ := h.rm
  exact h.load_c i
end
end Go.Proofs.Ytpgdehelamgbnaa
