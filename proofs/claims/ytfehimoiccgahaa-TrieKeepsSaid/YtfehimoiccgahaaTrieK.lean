/-
  Tries of texts whose own block is told too: what New, Put and Drop leave.
-/
import Derived.Test.YtfehimoiccgahaaRefU
namespace Go.Proofs.Ytfehimoiccgahaa.S
open Go.RowKit Go.Proofs.YtfehimoiccgahaaW.PrintWords Go.Proofs.Ytfehimoiccgahaa
set_option linter.unusedVariables false
set_option linter.unusedSimpArgs false
/-- The trie lies at p, alone in its block. -/
def TrK (W : World) (p : Nat) (t : Nd ByteArray) : Prop := Tr W p t ∧ W.heap[p]? = some (.cells #[nptr t] 55 (0, 0))
section
variable {W W' : World} {p : Nat} {t : Nd ByteArray}
theorem TrK.below (h : TrK W p t) (hb : Below W.heap.size W W') : TrK W' p t := ⟨h.1.below hb, (hb.block p (blk_lt h.2)).trans h.2⟩
theorem new_ck (w : World) : Calls Try.prog 17 #[] w fun e w' => e = .returned (.pointer (some ⟨w.heap.size + 1, 0, none⟩)) ∧ TrK w' (w.heap.size + 1) (.node w.heap.size (fun _ => .nil) (fun _ => none) 0) ∧ Below w.heap.size w w' := by
  go_enter Try.func17, Try.ntmps17
  go_wp2_with fail
  go_ret
  refine ⟨rfl, ⟨⟨?_, (fun e => by cases e), ⟨fun _ => rfl, fun _ => ⟨Nd.good_nil _, Or.inl rfl⟩, (sum_zero 16 (fun _ _ => rfl)).symm⟩, ?_⟩, ?_⟩, ((Below.refl _ _).alloc (Nat.le_refl _) _).alloc (by simp) _⟩
  · have := heap_alloc2_new w (.cells #[.pointer none, .pointer none, .pointer none, .pointer none, .pointer none, .pointer none, .pointer none, .pointer none, .pointer none, .pointer none, .pointer none, .pointer none, .pointer none, .pointer none, .pointer none, .pointer none, .pointer none, .pointer none, .pointer none, .pointer none, .pointer none, .pointer none, .pointer none, .pointer none, .pointer none, .pointer none, .pointer none, .pointer none, .pointer none, .pointer none, .pointer none, .pointer none, .int .i64 0] 76) (.cells #[.pointer (some ⟨w.heap.size, 0, none⟩)] 55)
    exact blk_cell this 0
  · have h2 := heap_alloc2_old w (.cells #[.pointer none, .pointer none, .pointer none, .pointer none, .pointer none, .pointer none, .pointer none, .pointer none, .pointer none, .pointer none, .pointer none, .pointer none, .pointer none, .pointer none, .pointer none, .pointer none, .pointer none, .pointer none, .pointer none, .pointer none, .pointer none, .pointer none, .pointer none, .pointer none, .pointer none, .pointer none, .pointer none, .pointer none, .pointer none, .pointer none, .pointer none, .pointer none, .int .i64 0] 76) (.cells #[.pointer (some ⟨w.heap.size, 0, none⟩)] 55)
    refine InMem.mk (by simp; omega) h2 (fun _ _ => trivial) (fun k b x hk e => by cases e)
  · exact heap_alloc2_new w (.cells #[.pointer none, .pointer none, .pointer none, .pointer none, .pointer none, .pointer none, .pointer none, .pointer none, .pointer none, .pointer none, .pointer none, .pointer none, .pointer none, .pointer none, .pointer none, .pointer none, .pointer none, .pointer none, .pointer none, .pointer none, .pointer none, .pointer none, .pointer none, .pointer none, .pointer none, .pointer none, .pointer none, .pointer none, .pointer none, .pointer none, .pointer none, .pointer none, .int .i64 0] 76) (.cells #[.pointer (some ⟨w.heap.size, 0, none⟩)] 55)
set_option maxHeartbeats 1000000 in
set_option maxRecDepth 100000 in
theorem put_ck (h : Tr W p t) (hs : t.size ≤ 1000000) (n : Nat) (hn : n < 1048576) (v : ByteArray) : Calls Try.prog 20 #[.pointer (some ⟨p, 0, none⟩), .int .i64 n, Value.string v] W fun e w' => ∃ p' u b, e = .returned (.pointer (some ⟨p', 0, none⟩)) ∧ (Tw W t n (some (b, v)) p' u w' ∧ w'.heap[p']? = some (.cells #[nptr u] 55 (0, 0))) ∧ Below W.heap.size W w' := by
  have hB := (Below.refl W.heap.size W).alloc (Nat.le_refl _) (.cells #[Value.string v] 9)
  have hb := heap_alloc_new W (.cells #[Value.string v] 9)
  have hT := h.below hB
  have HT := Aside0.mk hT
  have HB := Aside0.mk hB
  have HBK := Aside0.mk hb
  have hsz : (W.alloc (.cells #[Value.string v] 9)).heap.size = W.heap.size + 1 := by simp
  have HSZ : Aside0 (W.heap.size < (W.alloc (.cells #[Value.string v] 9)).heap.size) := ⟨by omega⟩
  have HN := Aside0.mk hn
  have HS := Aside0.mk hs
  clear hB hb hT h hsz hn hs
  obtain ⟨N, hN⟩ : ∃ N : Int, N = n := ⟨_, rfl⟩
  rw [← hN]
  have g0 : 0 ≤ N := by omega
  have g1 : N < 1048576 := by have := HN.out; omega
  have HNN := Aside0.mk hN
  clear hN
  have HG : Aside0 (getV t N = (Nd.look 4 t n).map Prod.snd) := ⟨by unfold getV; rw [if_pos ⟨g0, g1⟩, HNN.out, Int.toNat_natCast]⟩
  have HWC : Aside0 (∀ (more : Int), -1 ≤ more → more ≤ 1 → ∀ (W1 : World), Below (W.heap.size + 1) (W.alloc (.cells #[Value.string v] 9)) W1 → Calls Try.prog 33 #[nptr t, .int .i64 N, .int .i64 0, .pointer (some ⟨W.heap.size, 0, none⟩), .int .i64 more] W1 fun e w' => ∃ u, e = .returned (nptr u) ∧ Nd.With W1.heap.size n (some (W.heap.size, v)) more 4 t u ∧ In w' (fun b => b < W1.heap.size ∨ W1.heap.size ≤ b) u ∧ Below W1.heap.size W1 w') := ⟨fun more m0 m1 W1 hb => by
    rw [HNN.out]
    have hsz : (W.alloc (.cells #[Value.string v] 9)).heap.size = W.heap.size + 1 := by simp
    have hT1 := HT.out.below (by rw [hsz]; exact hb)
    exact with_c (some (W.heap.size, v)) (some ⟨W.heap.size, 0, none⟩) ⟨rfl⟩ more n HN.out ⟨m0, m1⟩ 4 (Nat.le_refl _) 0 ⟨rfl⟩ t W1 _ hT1.2.2.1 HS.out hT1.2.2.2 (fun b x e => by
      injection e with e
      injection e with e1 e2
      subst e1 e2
      exact ⟨by have := hb.size; omega, (hb.block _ (by omega)).trans HBK.out⟩)⟩
  have HRT := Aside0.mk (fun (W1 : World) (hb : Below (W.heap.size + 1) (W.alloc (.cells #[Value.string v] 9)) W1) => (HT.out.below (W' := W1) (by simpa using hb)).1)
  obtain ⟨ta, hta⟩ := nptr_ptr t
  cases hl : Nd.look 4 t n with
  | none =>
    have HG2 : Aside0 (retG (getV t N) = .tuple #[(.string ⟨#[]⟩), .bool false]) := ⟨by rw [HG.out, hl]; rfl⟩
    have HL := Aside0.mk hl
    clear hl hta
    go_enter Try.func20, Try.ntmps20
    go_wp2_with fail
    refine (made_c HT.out).mono ?_
    rintro e w1 ⟨rfl, rfl⟩
    go_wp2_with fail
    refine (get_c HT.out N).mono ?_
    rintro e w2 ⟨rfl, hB2⟩
    have HB2 := Aside0.mk (show Below (W.heap.size + 1) (W.alloc (.cells #[Value.string v] 9)) w2 by simpa using hB2)
    clear hB2
    rw [HG2.out]
    have hr := HRT.out w2 HB2.out
    go_wp2_with fail
    refine (HWC.out 1 (by decide) (by decide) w2 HB2.out).mono ?_
    rintro e w3 ⟨u, rfl, hw, hI, hb3⟩
    have HW3 := Aside0.mk hw
    have HI3 := Aside0.mk hI
    have HB3 := Aside0.mk ((HB.out.trans (HB2.out.mono (Nat.le_succ _))).trans (hb3.mono (by have := HB2.out.size; have := HB.out.size; omega)))
    obtain ⟨pu, hpu⟩ := nptr_ptr u
    rw [hpu]
    have HPU := Aside0.mk hpu
    clear hw hI hb3 hpu
    go_wp2_with fail
    go_ret
    have hTw := Tw.mk (W := W) (HT.out.below (by simpa using HB2.out)) (by have := HB2.out.size; have := HB.out.size; omega) (by rw [HL.out]; rfl) HW3.out HI3.out
    rw [HPU.out] at hTw
    exact ⟨_, u, W.heap.size, rfl, ⟨hTw, by rw [HPU.out]; exact heap_alloc_new _ _⟩, HB3.out.alloc HB3.out.size _⟩
  | some x =>
    have HG2 : Aside0 (retG (getV t N) = .tuple #[Value.string x.2, .bool true]) := ⟨by rw [HG.out, hl]; rfl⟩
    have HL := Aside0.mk hl
    clear hl hta
    go_enter Try.func20, Try.ntmps20
    go_wp2_with fail
    refine (made_c HT.out).mono ?_
    rintro e w1 ⟨rfl, rfl⟩
    go_wp2_with fail
    refine (get_c HT.out N).mono ?_
    rintro e w2 ⟨rfl, hB2⟩
    have HB2 := Aside0.mk (show Below (W.heap.size + 1) (W.alloc (.cells #[Value.string v] 9)) w2 by simpa using hB2)
    clear hB2
    rw [HG2.out]
    have hr := HRT.out w2 HB2.out
    go_wp2_with fail
    refine (HWC.out 0 (by decide) (by decide) w2 HB2.out).mono ?_
    rintro e w3 ⟨u, rfl, hw, hI, hb3⟩
    have HW3 := Aside0.mk hw
    have HI3 := Aside0.mk hI
    have HB3 := Aside0.mk ((HB.out.trans (HB2.out.mono (Nat.le_succ _))).trans (hb3.mono (by have := HB2.out.size; have := HB.out.size; omega)))
    obtain ⟨pu, hpu⟩ := nptr_ptr u
    rw [hpu]
    have HPU := Aside0.mk hpu
    clear hw hI hb3 hpu
    go_wp2_with fail
    go_ret
    have hTw := Tw.mk (W := W) (HT.out.below (by simpa using HB2.out)) (by have := HB2.out.size; have := HB.out.size; omega) (by rw [HL.out]; rfl) HW3.out HI3.out
    rw [HPU.out] at hTw
    exact ⟨_, u, W.heap.size, rfl, ⟨hTw, by rw [HPU.out]; exact heap_alloc_new _ _⟩, HB3.out.alloc HB3.out.size _⟩

def DrpK (W : World) (p : Nat) (t : Nd ByteArray) (n : Int) (e : Ending) (w' : World) : Prop := (getV t n = none ∧ e = .returned (.pointer (some ⟨p, 0, none⟩)) ∧ Below W.heap.size W w') ∨
    (getV t n ≠ none ∧ ∃ p' u, e = .returned (.pointer (some ⟨p', 0, none⟩)) ∧ (Tw W t n.toNat none p' u w' ∧ w'.heap[p']? = some (.cells #[nptr u] 55 (0, 0))) ∧ Below W.heap.size W w')
set_option maxHeartbeats 1000000 in
set_option maxRecDepth 100000 in
theorem drop_ck (h : Tr W p t) (hs : t.size ≤ 1000000) (n : Int) : Calls Try.prog 18 #[.pointer (some ⟨p, 0, none⟩), .int .i64 n] W (DrpK W p t n) := by
  have HT := Aside0.mk h
  have HS := Aside0.mk hs
  clear h hs
  cases hg : getV t n with
  | none =>
    have HG : Aside0 (retG (getV t n) = .tuple #[(.string ⟨#[]⟩), .bool false]) := ⟨by rw [hg]; rfl⟩
    have HGV := Aside0.mk hg
    clear hg
    go_enter Try.func18, Try.ntmps18
    go_wp2_with fail
    refine (get_c HT.out n).mono ?_
    rintro e w2 ⟨rfl, hB2⟩
    have HB2 := Aside0.mk hB2
    clear hB2
    rw [HG.out]
    go_wp2_with fail
    go_ret
    exact Or.inl ⟨HGV.out, rfl, HB2.out⟩
  | some x =>
    have HG : Aside0 (retG (getV t n) = .tuple #[Value.string x, .bool true]) := ⟨by rw [hg]; rfl⟩
    obtain ⟨hn0, hn1, y, hy⟩ : 0 ≤ n ∧ n < 1048576 ∧ ∃ y, Nd.look 4 t n.toNat = some y := by
      unfold getV at hg
      by_cases hr : 0 ≤ n ∧ n < 1048576
      · rw [if_pos hr] at hg
        obtain ⟨y, hy, _⟩ := Option.map_eq_some_iff.1 hg
        exact ⟨hr.1, hr.2, y, hy⟩
      · rw [if_neg hr] at hg
        cases hg
    have HY := Aside0.mk hy
    have HGV := Aside0.mk hg
    have HN : Aside0 (0 ≤ n ∧ n < 1048576) := ⟨hn0, hn1⟩
    clear hg hy hn0 hn1
    have HWC : Aside0 (∀ (W1 : World), Below W.heap.size W W1 → Calls Try.prog 33 #[nptr t, .int .i64 n, .int .i64 0, .pointer none, .int .i64 (-1)] W1 fun e w' => ∃ u, e = .returned (nptr u) ∧ Nd.With W1.heap.size n.toNat (none : Option (Nat × ByteArray)) (-1) 4 t u ∧ In w' (fun b => b < W1.heap.size ∨ W1.heap.size ≤ b) u ∧ Below W1.heap.size W1 w') := ⟨fun W1 hb => by
      have hT1 := HT.out.below hb
      have := with_c (none : Option (Nat × ByteArray)) none ⟨rfl⟩ (-1) n.toNat (by have := HN.out; omega) ⟨by decide, by decide⟩ 4 (Nat.le_refl _) 0 ⟨rfl⟩ t W1 _ hT1.2.2.1 HS.out hT1.2.2.2 (fun b x e => by cases e)
      rwa [show ((n.toNat : Nat) : Int) = n by have := HN.out; omega] at this⟩
    go_enter Try.func18, Try.ntmps18
    go_wp2_with fail
    refine (get_c HT.out n).mono ?_
    rintro e w2 ⟨rfl, hB2⟩
    have HB2 := Aside0.mk hB2
    have hr := (HT.out.below hB2).1
    clear hB2
    rw [HG.out]
    go_wp2_with fail
    refine (HWC.out w2 HB2.out).mono ?_
    rintro e w3 ⟨u, rfl, hw, hI, hb3⟩
    have HW3 := Aside0.mk hw
    have HI3 := Aside0.mk hI
    have HB3 := Aside0.mk (below_step HB2.out hb3)
    obtain ⟨pu, hpu⟩ := nptr_ptr u
    rw [hpu]
    have HPU := Aside0.mk hpu
    clear hw hI hb3 hpu
    go_wp2_with fail
    go_ret
    have hTw := Tw.mk (W := W) (HT.out.below HB2.out) HB2.out.size (by rw [HY.out]; rfl) HW3.out HI3.out
    rw [HPU.out] at hTw
    exact Or.inr ⟨(by rw [HGV.out]; exact (fun e => by cases e)), _, u, rfl, ⟨hTw, by rw [HPU.out]; exact heap_alloc_new _ _⟩, HB3.out.alloc HB3.out.size _⟩

/-- What Put leaves. -/
def PtK (W : World) (t : Nd ByteArray) (f : Nat → Option ByteArray) (s : Int) (e : Ending) (w' : World) : Prop :=
  ∃ p' u, e = .returned (.pointer (some ⟨p', 0, none⟩)) ∧ TrK w' p' u ∧ (∀ m, m < 1048576 → u.val m = f m) ∧ u.size ≤ s ∧ Below W.heap.size W w'
theorem put_k (h : TrK W p t) (hs : t.size ≤ 1000000) (x : Int) (v : ByteArray) : Calls Try.prog 20 #[.pointer (some ⟨p, 0, none⟩), .int .i64 x, Value.string v] W (PtK W t (fun m => if (m : Int) = x then some v else t.val m) (t.size + 1)) := by
  by_cases hx : 0 ≤ x ∧ x < 1048576
  · obtain ⟨n, rfl⟩ : ∃ n : Nat, x = n := ⟨x.toNat, by omega⟩
    have hn : n < 1048576 := by omega
    refine (put_ck h.1 hs n hn v).mono ?_
    rintro e w' ⟨p', u, b, rfl, ⟨hT, hblk⟩, hB⟩
    obtain ⟨_, _, h3, _, _⟩ := hT.2.spec h.1.2.2.1 (Nat.le_refl _) rfl
    have h1 : (Nd.one (some (b, v)) : Int) = 1 := rfl
    have h0 := Nd.one_nonneg (Nd.look 4 t n)
    refine ⟨p', u, rfl, ⟨hT.1, hblk⟩, fun m hm => ?_, by rw [h3, h1]; omega, hB⟩
    show u.val m = if (m : Int) = (n : Int) then some v else t.val m
    rw [hT.2.val h.1.2.2.1 hn hm]
    by_cases e : m = n
    · subst e
      rw [if_pos rfl, if_pos rfl]
      rfl
    · rw [if_neg e, if_neg (by omega)]
  · refine (put_out h.1 x (by omega) v).mono ?_
    rintro e w' ⟨rfl, hB⟩
    refine ⟨p, t, rfl, h.below hB, fun m hm => ?_, by omega, hB⟩
    show t.val m = if (m : Int) = x then some v else t.val m
    rw [if_neg (by omega)]
theorem drop_k (h : TrK W p t) (hs : t.size ≤ 1000000) (x : Int) : Calls Try.prog 18 #[.pointer (some ⟨p, 0, none⟩), .int .i64 x] W (PtK W t (fun m => if (m : Int) = x then none else t.val m) (t.size + 1)) := by
  refine (drop_ck h.1 hs x).mono ?_
  rintro e w' (⟨hg, rfl, hB⟩ | ⟨hg, p', u, rfl, ⟨hT, hblk⟩, hB⟩)
  · refine ⟨p, t, rfl, h.below hB, fun m hm => ?_, by omega, hB⟩
    show t.val m = if (m : Int) = x then none else t.val m
    by_cases e : (m : Int) = x
    · subst e
      rw [getV_val, if_pos ⟨by omega, by omega⟩, Int.toNat_natCast] at hg
      rw [if_pos rfl, hg]
    · rw [if_neg e]
  · have hx : 0 ≤ x ∧ x < 1048576 := by
      rw [getV_val] at hg
      by_cases k : 0 ≤ x ∧ x < 1048576
      · exact k
      · rw [if_neg k] at hg
        exact absurd rfl hg
    obtain ⟨n, rfl⟩ : ∃ n : Nat, x = n := ⟨x.toNat, by omega⟩
    have hn : n < 1048576 := by omega
    rw [Int.toNat_natCast] at hT
    obtain ⟨_, _, h3, _, _⟩ := hT.2.spec h.1.2.2.1 (Nat.le_refl _) rfl
    have h1 : (Nd.one (none : Option (Nat × ByteArray)) : Int) = 0 := rfl
    have h0 := Nd.one_nonneg (Nd.look 4 t n)
    refine ⟨p', u, rfl, ⟨hT.1, hblk⟩, fun m hm => ?_, by rw [h3, h1]; omega, hB⟩
    show u.val m = if (m : Int) = (n : Int) then none else t.val m
    rw [hT.2.val h.1.2.2.1 hn hm]
    by_cases e : m = n
    · subst e
      rw [if_pos rfl, if_pos rfl]
      rfl
    · rw [if_neg e, if_neg (by omega)]
end
end Go.Proofs.Ytfehimoiccgahaa.S
