/-
  The table by what is kept in its cells: each call's contract.
-/
import Derived.Test.YtpgdehelamgbnaaUsed
namespace Go.Proofs.Ytpgdehelamgbnaa
open Go.RowKit Go.Proofs.YtpgdehelamgbnaaW Go.Proofs.YtpgdehelamgbnaaW.PrintWords PMemoActs
set_option linter.unusedVariables false
set_option linter.unusedSimpArgs false
/-- The table that x leads to keeps T; its blocks are among F. -/
def Tm (w : World) (F : Nat → Prop) (x : Option Addr) (T : List (Option S31)) : Prop := ∃ q L, absT L = T ∧ Tb w (fun k => F k ∧ k < w.heap.size) x q L
/-- Styles that a memory can hold. -/
def Fits (T : List (Option S31)) : Prop := ∀ y, some y ∈ T → y.f2.length ≤ 8796093022200
/-- Put: what is kept behind it. -/
def putT (T : List (Option S31)) (y : S31) : List (Option S31) := match scan y.f0 y.f1 (line T (homeN T.length y.f0 y.f1)) with
  | .free i => T.set i (some y)
  | _ => T
def putB (T : List (Option S31)) (y : S31) : Bool := match scan y.f0 y.f1 (line T (homeN T.length y.f0 y.f1)) with
  | .free _ => true
  | _ => false
/-- Get: what is told. -/
def getT (T : List (Option S31)) (ep nd : Int) : Option S31 := match scan ep nd (line T (homeN T.length ep nd)) with
  | .hit _ y => some y
  | _ => none
def lookT (T : List (Option S31)) (i : Int) : Option S31 := if i < 0 then none else T.getD i.toNat none
theorem look_abs (L : List (Option (Nat × S31))) (i : Int) : (look L i).map Prod.snd = lookT (absT L) i := by
  unfold look lookT absT
  split
  · rfl
  · rw [List.getD_eq_getElem?_getD, List.getD_eq_getElem?_getD, List.getElem?_map]
    cases L[i.toNat]? <;> rfl
theorem putT_length (T : List (Option S31)) (y : S31) : (putT T y).length = T.length := by
  unfold putT
  split <;> simp
theorem Tb.bound {w : World} {F : Nat → Prop} {x : Option Addr} {q : Nat} {L : List (Option (Nat × S31))} (h : Tb w F x q L) : Tb w (fun k => F k ∧ k < w.heap.size) x q L := by
  obtain ⟨hl, he, h⟩ := h
  refine ⟨hl, fun b y hy => ?_, ?_⟩
  · obtain ⟨v, hb, hf, ho, hv⟩ := he b y hy
    exact ⟨v, hb, ⟨hf, blk_lt hb⟩, ho, fun k hk => ⟨hv k hk, own_lt ho k hk⟩⟩
  · rcases h with h | ⟨p, A, c, is, hx, hp, hb, hq⟩
    · exact .inl h
    · refine .inr ⟨p, A, c, is, hx, ⟨hp, blk_lt hb⟩, hb, fun hn => ?_⟩
      obtain ⟨h1, h2, h3, h4⟩ := hq hn
      exact ⟨h1, h2, ⟨h3, blk_lt h4⟩, h4⟩
section
variable {w w' W : World} {F F' : Nat → Prop} {x : Option Addr} {T : List (Option S31)}
theorem Tm.of {q : Nat} {L : List (Option (Nat × S31))} (h : Tb w F x q L) : Tm w F x (absT L) := ⟨q, L, rfl, h.bound⟩
theorem Tm.fr {S : Nat → Prop} (h : Tm w F x T) (hf : Fr S w w') (hs : ∀ k, F k → k < w.heap.size → ¬ S k) : Tm w' F x T := by
  obtain ⟨q, L, hT, h⟩ := h
  exact ⟨q, L, hT, h.step (fun k hk hl => hf.block k hl (hs k hk.1 hk.2)) (fun k hk => ⟨hk.1, Nat.lt_of_lt_of_le hk.2 hf.size⟩)⟩
theorem Tm.below (h : Tm w F x T) (hb : Below w.heap.size w w') : Tm w' F x T := h.fr (Fr.of_below hb (fun _ => False)) (fun _ _ _ h => h)
theorem Tm.mono (h : Tm w F x T) (hF : ∀ k, F k → k < w.heap.size → F' k) : Tm w F' x T := by
  obtain ⟨q, L, hT, h⟩ := h
  exact ⟨q, L, hT, h.mono (fun k hk => ⟨hF k hk.1 hk.2, hk.2⟩)⟩
theorem Tm.len (h : Tm w F x T) : T.length ≤ 65536 := by
  obtain ⟨q, L, rfl, h⟩ := h
  rw [absT_length]
  exact h.1
theorem Tm.size_c (h : Tm W F x T) : Calls Try.prog 27 #[.pointer x] W fun e w' => e = .returned (.int .i64 (T.length : Int)) ∧ W = w' := by
  obtain ⟨q, L, rfl, h⟩ := h
  rw [absT_length]
  exact Ytpgdehelamgbnaa.size_c h
theorem Tm.home_c (h : Tm W F x T) (ep nd : Int) : Calls Try.prog 16 #[.pointer x, .int .i64 ep, .int .i64 nd] W fun e w' => e = .returned (.int .i64 (homeN T.length ep nd : Int)) ∧ W = w' := by
  obtain ⟨q, L, rfl, h⟩ := h
  rw [absT_length, ← (homeN_spec L.length ep nd h.1).1]
  exact Ytpgdehelamgbnaa.home_c h ep nd
theorem fits_of {L : List (Option (Nat × S31))} (h : Fits (absT L)) : ∀ b y, some (b, y) ∈ L → y.f2.length ≤ 8796093022200 := fun b y hy => h y (List.mem_map.2 ⟨some (b, y), hy, rfl⟩)
/-- What Load tells. -/
def LoadT (W : World) (u : Option S31) (e : Ending) (w' : World) : Prop := Below W.heap.size W w' ∧
  match u with
  | none => e = .returned (.tuple #[.agg #[.int .i64 0, .int .i64 0, .slice none 0 0], .bool false])
  | some y => ∃ v, e = .returned (.tuple #[.agg #[.int .i64 y.f0, .int .i64 y.f1, v], .bool true]) ∧ w'.ownsRow W.heap.size 9 1 v y.f2.length (strs y.f2)
theorem Tm.load_c (h : Tm W F x T) (hf : Fits T) (i : Int) : Calls Try.prog 15 #[.pointer x, .int .i64 i] W (LoadT W (lookT T i)) := by
  obtain ⟨q, L, rfl, h⟩ := h
  refine (Ytpgdehelamgbnaa.load_c h (fits_of hf) i).mono fun e w' ⟨hb, hp⟩ => ?_
  rw [← look_abs]
  refine ⟨hb, ?_⟩
  generalize look L i = u at *
  cases u <;> exact hp
/-- What Get tells. -/
def GetT (W : World) (u : Option S31) (e : Ending) (w' : World) : Prop := Below W.heap.size W w' ∧
  match u with
  | none => e = .returned (.tuple #[.slice none 0 0, .bool false])
  | some y => ∃ v, e = .returned (.tuple #[v, .bool true]) ∧ w'.ownsRow W.heap.size 9 1 v y.f2.length (strs y.f2)
theorem Tm.get_c (h : Tm W F x T) (hf : Fits T) (ep nd : Int) : Calls Try.prog 12 #[.pointer x, .int .i64 ep, .int .i64 nd] W (GetT W (getT T ep nd)) := by
  obtain ⟨q, L, rfl, h⟩ := h
  refine (Ytpgdehelamgbnaa.get_c h (fits_of hf) ep nd).mono fun e w' ⟨hb, hp⟩ => ?_
  unfold getT
  rw [absT_length]
  refine ⟨hb, ?_⟩
  generalize scan ep nd (line (absT L) (homeN L.length ep nd)) = r at *
  cases r <;> exact hp
theorem Tm.put_c (h : Tm W F x T) {y : S31} {A : Option Addr} {c : Nat} (hs : Kd.C Kd.string W A y.f2.length y.f2) (hn : y.f2.length ≤ 8796093022200) :
    Calls Try.prog 11 #[.pointer x, .agg #[.int .i64 y.f0, .int .i64 y.f1, .slice A y.f2.length c]] W fun e w' => e = .returned (.bool (putB T y)) ∧ Tm w' (fun k => F k ∨ W.heap.size ≤ k) x (putT T y) ∧ Fr F W w' := by
  obtain ⟨q, L, rfl, h⟩ := h
  refine (Ytpgdehelamgbnaa.put_c h hs hn).mono fun e w' hp => ?_
  unfold putB putT
  rw [absT_length]
  obtain ⟨r, hr⟩ : ∃ r, scan y.f0 y.f1 (line (absT L) (homeN L.length y.f0 y.f1)) = r := ⟨_, rfl⟩
  rw [hr] at hp ⊢
  cases r with
  | free i =>
    obtain ⟨he, ⟨g, ht⟩, hf⟩ := hp
    refine ⟨he, ?_, ?_⟩
    · have := Tm.of (ht.mono (F' := fun k => F k ∨ W.heap.size ≤ k) (fun k hk => hk.imp (fun h => h.1) id))
      rw [absT_set] at this
      exact this
    · by_cases h0 : 0 < L.length
      · obtain ⟨p, c, hx, hc, hq, h1, h2⟩ := h.open_ h0
        exact hf.mono (fun k hk => by subst hk; exact hq.1)
      · have : L = [] := List.eq_nil_of_length_eq_zero (by omega)
        subst this
        simp [absT, line, scan] at hr
  | full =>
    obtain ⟨he, hb⟩ := hp
    exact ⟨he, Tm.of (((h.below hb).mono (F' := fun k => F k ∨ W.heap.size ≤ k) (fun k hk => Or.inl hk.1))), Fr.of_below hb _⟩
  | hit i z =>
    obtain ⟨he, hb⟩ := hp
    exact ⟨he, Tm.of (((h.below hb).mono (F' := fun k => F k ∨ W.heap.size ≤ k) (fun k hk => Or.inl hk.1))), Fr.of_below hb _⟩
theorem Tm.used_c (h : Tm W F x T) : Calls Try.prog 14 #[.pointer x] W fun e w' => e = .returned (.int .i64 (used T : Int)) ∧ Below W.heap.size W w' := by
  obtain ⟨q, L, rfl, h⟩ := h
  exact Ytpgdehelamgbnaa.used_c h
theorem Tb.q_any {q q' : Nat} (h : Tb w F x q []) : Tb w F x q' [] := by
  obtain ⟨hl, he, h⟩ := h
  refine ⟨hl, he, ?_⟩
  rcases h with h | ⟨p, A, c, is, hx, hp, hb, hq⟩
  · exact .inl h
  · exact .inr ⟨p, A, c, is, hx, hp, hb, fun hn => absurd rfl hn⟩
theorem Tm.clear_c (h : Tm W F x T) : Calls Try.prog 24 #[.pointer x] W fun e w' => e = .returned (.tuple #[]) ∧ Tm w' F x (List.replicate T.length none) ∧ Fr F W w' := by
  obtain ⟨q, L, rfl, h⟩ := h
  by_cases h0 : 0 < L.length
  · refine (Ytpgdehelamgbnaa.clear_c h).mono fun e w' ⟨he, ht, hf⟩ => ⟨he, ?_, ?_⟩
    · have := Tm.of (ht.mono (F' := F) (fun k hk => hk.1))
      rw [absT_none] at this
      rw [absT_length]
      exact this
    · obtain ⟨p, c, hx, hc, hq, h1, h2⟩ := h.open_ h0
      exact hf.mono (fun k hk => by subst hk; exact hq.1)
  · have hL : L = [] := List.eq_nil_of_length_eq_zero (by omega)
    subst hL
    refine (Ytpgdehelamgbnaa.clear_c (Tb.q_any (q' := W.heap.size) h)).mono fun e w' ⟨he, ht, hf⟩ => ⟨he, ?_, ?_⟩
    · exact Tm.of (ht.mono (F' := F) (fun k hk => hk.1))
    · exact (Fr.refl F W).trans hf (fun i hi => Or.inr (by rw [hi]; exact Nat.le_refl _))
/-- Cas: what is kept behind it. -/
def casB (T : List (Option S31)) (i : Int) : Bool := decide (0 ≤ i) && (decide (i < (T.length : Int)) && (lookT T i).isNone)
def casT (T : List (Option S31)) (i : Int) (y : S31) : List (Option S31) := if casB T i = true then T.set i.toNat (some y) else T
theorem Tm.cas_c (h : Tm W F x T) (i : Int) {y : S31} {A : Option Addr} {c : Nat} (hs : Kd.C Kd.string W A y.f2.length y.f2) (hn : y.f2.length ≤ 8796093022200) :
    Calls Try.prog 17 #[.pointer x, .int .i64 i, .agg #[.int .i64 y.f0, .int .i64 y.f1, .slice A y.f2.length c]] W fun e w' => e = .returned (.bool (casB T i)) ∧ Tm w' (fun k => F k ∨ W.heap.size ≤ k) x (casT T i y) ∧ Fr F W w' := by
  obtain ⟨q, L, rfl, h⟩ := h
  by_cases hi : 0 ≤ i ∧ i < (L.length : Int)
  · obtain ⟨h0, h1⟩ := hi
    obtain ⟨k, rfl⟩ := Int.eq_ofNat_of_zero_le h0
    have hk : k < L.length := by omega
    have hlk : lookT (absT L) (k : Int) = (L[k]).map Prod.snd := by rw [← look_abs, look_nat L k hk]
    have hB : casB (absT L) (k : Int) = (ptrv L[k]).isNone := by
      unfold casB
      rw [hlk, absT_length, decide_eq_true h0, decide_eq_true h1]
      cases L[k] <;> rfl
    refine (cas_in (c := c) h k hk hs hn).mono fun e w' hp => ?_
    unfold casT
    rw [hB]
    cases hn1 : (ptrv L[k]).isNone with
    | true =>
      rw [hn1] at hp
      obtain ⟨he, ⟨g, ht⟩, hf⟩ := CasIn.put hk h hp
      obtain ⟨p, c, hx, hc, hq, h1, h2⟩ := h.open_ (by omega)
      refine ⟨he, ?_, hf.mono (fun k hk => by subst hk; exact hq.1)⟩
      have := Tm.of (ht.mono (F' := fun k => F k ∨ W.heap.size ≤ k) (fun k hk => hk.imp (fun h => h.1) id))
      rw [absT_set] at this
      rw [if_pos rfl]
      exact this
    | false =>
      rw [hn1] at hp
      obtain ⟨he, hb⟩ := CasIn.not hp
      rw [if_neg (by simp)]
      exact ⟨he, Tm.of (((h.below hb).mono (F' := fun k => F k ∨ W.heap.size ≤ k) (fun k hk => Or.inl hk.1))), Fr.of_below hb _⟩
  · have hB : casB (absT L) i = false := by
      unfold casB
      rw [absT_length]
      by_cases h0 : 0 ≤ i
      · rw [decide_eq_true h0, decide_eq_false (fun h1 => hi ⟨h0, h1⟩)]
        rfl
      · rw [decide_eq_false h0]
        rfl
    refine (cas_out (c := c) h i (by omega)).mono fun e w' ⟨he, hb⟩ => ?_
    unfold casT
    rw [hB, if_neg (by simp)]
    exact ⟨he, Tm.of (((h.below hb).mono (F' := fun k => F k ∨ W.heap.size ≤ k) (fun k hk => Or.inl hk.1))), Fr.of_below hb _⟩
end
theorem newT_c {W : World} (n : Nat) (h : n ≤ 65536) : Calls Try.prog 8 #[.int .i64 (n : Int)] W fun e w' => ∃ p, e = .returned (.pointer (some ⟨p, 0, none⟩)) ∧ Tm w' (fun k => W.heap.size ≤ k) (some ⟨p, 0, none⟩) (List.replicate n none) ∧ Below W.heap.size W w' :=
  (new_c n h).mono fun e w' ⟨p, q, he, ht, hb⟩ => ⟨p, he, by have := Tm.of ht; rw [absT_none] at this; exact this, hb⟩
end Go.Proofs.Ytpgdehelamgbnaa
