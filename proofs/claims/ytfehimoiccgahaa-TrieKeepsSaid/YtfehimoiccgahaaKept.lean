/-
  Tries and lists that are kept: what lies apart by its types.
-/
import Derived.Test.YtfehimoiccgahaaTrieK
import Derived.Test.YtfehimoiccgahaaActs
namespace Go.Proofs.Ytfehimoiccgahaa
open Go.RowKit Go.Proofs.YtfehimoiccgahaaW Go.Proofs.YtfehimoiccgahaaW.PrintWords PTrieActs
set_option linter.unusedVariables false
set_option linter.unusedSimpArgs false
/-- What was there is there, but for rows of pointers and rows of lists. -/
def Stays (w w' : World) : Prop := ∀ (b : Nat) (cells : Array Value) (T : TypeId), w.heap[b]? = some (.cells cells T (0, 0)) → T ≠ 36 → T ≠ 38 → w'.heap[b]? = some (.cells cells T (0, 0))
theorem Stays.of_below {w w' : World} (hb : Below w.heap.size w w') : Stays w w' := fun b cells T h _ _ => (hb.block b (blk_lt h)).trans h
theorem Stays.of_grown {w w' : World} {row : Option Nat} (hg : w.grownBy w' row) (hr : ∀ k, row = some k → ∃ cells T, w.heap[k]? = some (.cells cells T (0, 0)) ∧ (T = 36 ∨ T = 38)) : Stays w w' := fun b cells T h h1 h2 => by
  refine (hg.block b (blk_lt h) (fun e => ?_)).trans h
  obtain ⟨c2, T2, hb, ht⟩ := hr b e.symm
  rw [h] at hb
  injection hb with hb
  injection hb with _ hb
  subst hb
  rcases ht with e | e
  · exact h1 e
  · exact h2 e
theorem InMem.stays {V : Type} {enc : V → Value} {W W' : World} {P : Nat → Prop} (hs : Stays W W') : ∀ {t : Nd V}, InMem 76 9 enc W P t → InMem 76 9 enc W' P t
  | .nil, _ => trivial
  | .node a d h s, ⟨h1, h2, h3, h4⟩ => ⟨h1, hs _ _ _ h2 (by decide) (by decide), fun k hk => InMem.stays hs (h3 k hk), fun k b x hk e => ⟨(h4 k b x hk e).1, hs _ _ _ (h4 k b x hk e).2 (by decide) (by decide)⟩⟩
theorem S.TrK.stays {W W' : World} {p : Nat} {t : Nd ByteArray} (h : S.TrK W p t) (hs : Stays W W') (hz : W.heap.size ≤ W'.heap.size) : S.TrK W' p t := by
  have hb := hs _ _ _ h.2 (by decide) (by decide)
  exact ⟨⟨(blk_cell hb 0).trans rfl, h.1.2.1, h.1.2.2.1, (InMem.stays hs h.1.2.2.2).imp (fun b hb => Nat.lt_of_lt_of_le hb hz)⟩, hb⟩
theorem list_stays {W W' : World} {B : Nat} {v : Value} {l : List S79} (h : Kd.R k79 79 W B (fun _ => True) v l) (hs : Stays W W') : Kd.R k79 79 W' B (fun _ => True) v l :=
  Kd.R_mono (Kd.R_move (Kd.R_bound h) (fun k hk => by
    obtain ⟨_, _, _, q, hq, cells, hc⟩ := hk
    have : q = 79 := by simpa [k79, Kd.iso, Kd.pair, Kd.int, Kd.string, Kd.scalar] using hq
    subst this
    rw [hc]
    exact hs _ _ _ hc (by decide) (by decide))) (fun _ hk => hk.1)
/-- A row of pointers, a row of lists. -/
abbrev kp : Kd Nat := Kd.scalar (fun p => .pointer (some ⟨p, 0, none⟩)) (fun _ => rfl)
abbrev kl : Kd (Option Addr × Nat × Nat) := Kd.scalar (fun x => .slice x.1 x.2.1 x.2.2) (fun _ => rfl)
theorem row_grown {α : Type} {enc : α → Value} {h1 : ∀ x, (enc x).oneCell' = true} {e e2 : Nat} {w w' : World} {B : Nat} {v v2 : Value} {xs : List α} {row : Option Nat} (h : (Kd.scalar enc h1).R e w B (fun _ => True) v xs) (hg : w.grownBy w' row)
    (hr : ∀ k, row = some k → ∃ cells, w.heap[k]? = some (.cells cells e2 (0, 0))) (hne : e ≠ e2) : (Kd.scalar enc h1).R e w' B (fun _ => True) v xs :=
  Kd.R_mono (Kd.R_move (Kd.R_bound h) (fun k hk => by
    obtain ⟨_, _, hlt, q, hq, cells, hc⟩ := hk
    have : q = e := by simpa [Kd.scalar] using hq
    subst this
    refine hg.block k hlt (fun e => ?_)
    obtain ⟨c2, hb⟩ := hr k e.symm
    rw [hc] at hb
    injection hb with hb
    injection hb with _ hb
    exact hne hb)) (fun _ hk => hk.1)
theorem row_typed {α : Type} {d : Kd α} {e : Nat} {w : World} {B : Nat} {ok : Nat → Prop} {v : Value} {xs : List α} (h : d.R e w B ok v xs) : ∀ k, v.ownBlock = some k → ∃ cells, w.heap[k]? = some (.cells cells e (0, 0)) := by
  obtain ⟨_, inner, ho, _⟩ := h
  exact fun k hk => own_typed ho k hk
theorem sc_at {α : Type} {enc : α → Value} {h1 : ∀ x, (enc x).oneCell' = true} {w : World} {A : Option Addr} {n : Nat} {xs : List α} (h : (Kd.scalar enc h1).C w A n xs) {k : Nat} (hk : k < xs.length) (hn : k < n) : ∃ ad, A = some ad ∧ w.cell? (ad.add k) = some (enc xs[k]) := by
  obtain ⟨ad, c, e, hl, hK, hc⟩ := Kd.C_get h xs[k] (k : Int) (by omega) (by omega)
  have hg : xs.getD (k : Int).toNat xs[k] = xs[k] := by
    rw [Int.toNat_natCast, List.getD_eq_getElem?_getD, List.getElem?_eq_getElem hk]
    rfl
  rw [hg] at hK
  have hK2 : c = [enc xs[k]] := hK
  subst hK2
  have := hc 0 _ rfl
  refine ⟨ad, e, ?_⟩
  simpa [Kd.scalar] using this
/-- One that ever was: the trie t at p, its pairs L. -/
structure En where
  p : Nat
  t : Nd ByteArray
  A : Option Addr
  c : Nat
  L : List S79
def En.v (x : En) : Option Addr × Nat × Nat := (x.A, x.L.length, x.c)
structure Gd (B : Nat) (w : World) (x : En) (m : Int) : Prop where
  tr : S.TrK w x.p x.t
  rd : Kd.R k79 79 w B (fun _ => True) (.slice x.A x.L.length x.c) x.L
  pr : Prs x.L x.t
  sz : x.t.size ≤ m
theorem Gd.stays {B : Nat} {w w' : World} {x : En} {m m' : Int} (h : Gd B w x m) (hs : Stays w w') (hz : w.heap.size ≤ w'.heap.size) (hm : m ≤ m') : Gd B w' x m' := ⟨h.tr.stays hs hz, list_stays h.rd hs, h.pr, Int.le_trans h.sz hm⟩
/-- All that ever were. -/
structure Ks (W w : World) (va vl : Value) (xs : List En) (m : Int) : Prop where
  bel : Below W.heap.size W w
  ra : kp.R 36 w W.heap.size (fun _ => True) va (xs.map En.p)
  rl : kl.R 38 w W.heap.size (fun _ => True) vl (xs.map En.v)
  gd : ∀ x ∈ xs, Gd W.heap.size w x m
theorem Ks.below {W w w' : World} {va vl : Value} {xs : List En} {m : Int} (h : Ks W w va vl xs m) (hb : Below w.heap.size w w') : Ks W w' va vl xs m :=
  ⟨below_step h.bel hb, Kd.R_below h.ra hb, Kd.R_below h.rl hb, fun x hx => (h.gd x hx).stays (Stays.of_below hb) hb.size (Int.le_refl _)⟩
/-- The same, while one more trie is there and its pairs are not. -/
structure Kh (W w : World) (va vl : Value) (xs : List En) (m : Int) (p : Nat) (u : Nd ByteArray) : Prop where
  bel : Below W.heap.size W w
  ra : kp.R 36 w W.heap.size (fun _ => True) va (xs.map En.p ++ [p])
  rl : kl.R 38 w W.heap.size (fun _ => True) vl (xs.map En.v)
  gd : ∀ x ∈ xs, Gd W.heap.size w x m
  tr : S.TrK w p u
theorem Kh.below {W w w' : World} {va vl : Value} {xs : List En} {m : Int} {p : Nat} {u : Nd ByteArray} (h : Kh W w va vl xs m p u) (hb : Below w.heap.size w w') : Kh W w' va vl xs m p u :=
  ⟨below_step h.bel hb, Kd.R_below h.ra hb, Kd.R_below h.rl hb, fun x hx => (h.gd x hx).stays (Stays.of_below hb) hb.size (Int.le_refl _), h.tr.below hb⟩
theorem Ks.half {W w w1 : World} {va vl v1 : Value} {xs : List En} {m : Int} {p : Nat} {u : Nd ByteArray} (h : Ks W w va vl xs m) (ht : S.TrK w p u) (hr : kp.R 36 w1 W.heap.size (fun _ => True) v1 (xs.map En.p ++ [p])) (hb : Below W.heap.size W w1) (hg : w.grownBy w1 va.ownBlock) (hz : w.heap.size ≤ w1.heap.size) : Kh W w1 v1 vl xs m p u :=
  have hs : Stays w w1 := Stays.of_grown hg (fun k e => by obtain ⟨c, hc⟩ := row_typed h.ra k e; exact ⟨c, 36, hc, .inl rfl⟩)
  ⟨hb, hr, row_grown (v2 := va) h.rl hg (row_typed h.ra) (by decide), fun x hx => (h.gd x hx).stays hs hz (Int.le_refl _), ht.stays hs hz⟩
theorem Kh.whole {W w w1 : World} {va vl v1 : Value} {xs : List En} {m : Int} {p : Nat} {u : Nd ByteArray} {A : Option Addr} {c : Nat} {L : List S79} (h : Kh W w va vl xs m p u) (hL : Kd.R k79 79 w W.heap.size (fun _ => True) (.slice A L.length c) L) (hp : Prs L u) (hsz : u.size ≤ m + 1)
    (hr : kl.R 38 w1 W.heap.size (fun _ => True) v1 (xs.map En.v ++ [(A, L.length, c)])) (hb : Below W.heap.size W w1) (hg : w.grownBy w1 vl.ownBlock) (hz : w.heap.size ≤ w1.heap.size) : Ks W w1 va v1 (xs ++ [⟨p, u, A, c, L⟩]) (m + 1) :=
  have hs : Stays w w1 := Stays.of_grown hg (fun k e => by obtain ⟨c, hc⟩ := row_typed h.rl k e; exact ⟨c, 38, hc, .inr rfl⟩)
  ⟨hb, by rw [List.map_append]; exact row_grown (v2 := vl) h.ra hg (row_typed h.rl) (by decide), by rw [List.map_append]; exact hr, fun x hx => by
    rcases List.mem_append.1 hx with hx | hx
    · exact (h.gd x hx).stays hs hz (by omega)
    · obtain rfl := List.mem_singleton.1 hx
      exact ⟨h.tr.stays hs hz, list_stays hL hs, hp, hsz⟩⟩
/-! ### the document's lists, as own rows -/
def ToldK (W : World) (B : Nat) (r : List S79) (e : Ending) (w' : World) : Prop := ∃ A c, e = .returned (.slice A r.length c) ∧ Kd.R k79 79 w' B (fun _ => True) (.slice A r.length c) r ∧ Below W.heap.size W w'
section
variable {W : World} {A : Option Addr} {B c : Nat} {l : List S79}
theorem told_of {w' : World} {v : Value} {r : List S79} (hR : Kd.R k79 79 w' W.heap.size (fun _ => True) v r) (hB : Below W.heap.size W w') (hz : B ≤ W.heap.size) : ToldK W B r (.returned v) w' := by
  obtain ⟨A', c', rfl⟩ := Kd.R_slice hR
  exact ⟨A', c', rfl, Kd.R_lower hR hz, hB⟩
theorem drop_o (n : Int) (hR : Kd.R k79 79 W B (fun _ => True) (.slice A l.length c) l) (hz : B ≤ W.heap.size) (hn : l.length ≤ 1000000000) : Calls Try.prog 19 #[.slice A l.length c, .int .i64 n] W (ToldK W B (dropL n l)) := by
  obtain ⟨A2, c2, he, hc, hC⟩ := Kd.R_reads hR
  injection he with e1 e2 e3
  subst e1 e3
  obtain ⟨k, hk⟩ := drop_f n l (by omega)
  refine (gouacheref06_Drop.calls k A c l n _ W hC hc hk).mono ?_
  rintro e w' ⟨v, rfl, hR, hB⟩
  exact told_of hR hB hz
theorem put_o (n : Int) (v : ByteArray) (hR : Kd.R k79 79 W B (fun _ => True) (.slice A l.length c) l) (hz : B ≤ W.heap.size) (hn : l.length ≤ 1000000000) : Calls Try.prog 21 #[.slice A l.length c, .int .i64 n, .string v] W (ToldK W B (putL n v l)) := by
  by_cases hin : 0 ≤ n ∧ n < 1048576
  · obtain ⟨A2, c2, he, hc, hC⟩ := Kd.R_reads hR
    injection he with e1 e2 e3
    subst e1 e3
    obtain ⟨k, hk⟩ := put_f n v l (by omega)
    refine (put_in k (fun _ => True) A c l n v _ W hC hc hin.1 hin.2 hk).mono ?_
    rintro e w' ⟨v, rfl, hR, hB, _⟩
    exact told_of (Kd.R_mono hR (fun _ _ => trivial)) hB hz
  · have hp : putL n v l = l := if_neg hin
    have HP := Aside0.mk hp
    have HR := Aside0.mk hR
    clear hp hR
    by_cases h0 : n < 0
    · clear hin
      go_enter Try.func21, Try.ntmps21
      go_wp2_with fail
      go_ret
      rw [HP.out]
      exact ⟨A, c, rfl, HR.out, Below.refl _ _⟩
    · have h1 : 1048576 ≤ n := by omega
      clear hin
      go_enter Try.func21, Try.ntmps21
      go_wp2_with fail
      go_ret
      rw [HP.out]
      exact ⟨A, c, rfl, HR.out, Below.refl _ _⟩
end
/-- A row that is built of one value. -/
theorem row_one {α : Type} {enc : α → Value} {h1 : ∀ x, (enc x).oneCell' = true} {e : Nat} {w : World} {B g : Nat} {x : α} (hg : B ≤ g) (h : w.heap[g]? = some (.cells #[enc x] e (0, 0))) : (Kd.scalar enc h1).R e w B (fun _ => True) (.slice (some ⟨g, 0, none⟩) 1 1) [x] :=
  Kd.R_of_own ⟨by simp [encs], .inr ⟨g, 1, #[enc x], rfl, hg, h, Nat.le_refl _, by simp [maxLen], by simp, by simp [encs]⟩⟩ (fun _ _ => trivial)
end Go.Proofs.Ytfehimoiccgahaa
