/-
  Both epochs side by side: what the methods of either answer.
-/
import Derived.Test.YtpfeelcdbnldfaaJt
namespace Go.Proofs.Ytpfeelcdbnldfaa
open Go.RowKit Go.Proofs.YtpfeelcdbnldfaaW Go.Proofs.YtpfeelcdbnldfaaW.PrintWords
set_option linter.unusedVariables false
set_option linter.unusedSimpArgs false
theorem ints_of {w : World} {A : Option Addr} {n : Nat} {xs : List Int} (h : kS.C w A n xs) : ReadsInt w .i64 A n xs := ⟨h.1, h.2.1, fun h0 => by
  obtain ⟨ad, e, hc⟩ := h.2.2 h0
  refine ⟨ad, e, fun j hj => ?_⟩
  have hjx : j < xs.length := by rw [h.1]; exact hj
  obtain ⟨c, _, hK, hc1⟩ := hc j xs[j] (List.getElem?_eq_getElem hjx)
  have hK : c = [Value.int .i64 xs[j]] := hK
  subst hK
  have := hc1 0 _ rfl
  have e1 : j * kS.sz + 0 = j := by show j * 1 + 0 = j; omega
  rw [e1] at this
  rw [this, List.getD_eq_getElem?_getD, List.getElem?_eq_getElem hjx]
  rfl⟩
theorem blk_lt' {w : World} {b : Nat} {ob : Obj} (h : w.heap[b]? = some ob) : b < w.heap.size := (Array.getElem?_eq_some_iff.1 h).1
section
variable {W w w' : World} {p r n : Nat} {now now' : Int} {S S' : List Int} {L L' : List It}
theorem Jh.docK {K : Nat → Prop} {now2 : Int} {S2 : List Int} {L2 : List It} (h : Jh W p r now' S' L' now S n L w) (hR : Rf w K r now (S.take n) (sortV L)) (hK : ∀ k, K k → ¬ Ow w p k ∧ k < w.heap.size ∧ W.heap.size ≤ k) (hx : RX w K r now2 (S2.take n) (sortV L2) w') : Jh W p r now' S' L' now2 S2 n L2 w' := by
  obtain ⟨hR2, hf⟩ := hx
  obtain ⟨hs, ho⟩ := h.st.fr hf (fun k hk e => by subst e; exact (hK k hR.1).1 hk)
  refine ⟨hs, ⟨_, hR2, fun k hk => ⟨fun e => ?_, ?_, ?_⟩⟩, fun k hk => h.og k ((ho k).1 hk), ?_⟩
  · have e := (ho k).1 e
    rcases hk with hk | hk
    · exact (hK k hk).1 e
    · have := h.st.ow_lt k e
      omega
  · rcases hk with hk | hk
    · exact Nat.lt_of_lt_of_le (hK k hk).2.1 hf.size
    · exact hk.2
  · rcases hk with hk | hk
    · exact (hK k hk).2.2
    · exact Nat.le_trans h.bel.size hk.1
  · exact h.bel.trans (hf.to_below h.bel.size (fun i hi => by subst hi; exact (hK _ hR.1).2.2))
theorem take_zeros (h8 : n ≤ 8) : ([0, 0, 0, 0, 0, 0, 0, 0] : List Int).take n = List.replicate n 0 := by
  match n, h8 with
  | 0, _ | 1, _ | 2, _ | 3, _ | 4, _ | 5, _ | 6, _ | 7, _ | 8, _ => rfl
theorem sortV_nil : sortV [] = [] := by
  have := (sortV_perm ([] : List It)).length_eq
  exact List.eq_nil_of_length_eq_zero this
theorem Js.start {w1 w2 : World} (h8 : n ≤ 8) (hs : St w1 w.heap.size 1 [0, 0, 0, 0, 0, 0, 0, 0] n []) (hb : Below w.heap.size w w1) (ho : ∀ k, Ow w1 w.heap.size k → k = w.heap.size)
    (hr : Rf w2 (fun k => w1.heap.size ≤ k ∧ k < w2.heap.size) (w1.heap.size + 1) 1 (List.replicate n 0) []) (hb2 : Below w1.heap.size w1 w2) : Jh w w.heap.size (w1.heap.size + 1) 1 [0, 0, 0, 0, 0, 0, 0, 0] [] 1 [0, 0, 0, 0, 0, 0, 0, 0] n [] w2 := by
  obtain ⟨hs2, ho2⟩ := hs.below hb2 (Nat.le_refl _)
  refine ⟨hs2, ⟨(fun k => w1.heap.size ≤ k ∧ k < w2.heap.size), by rw [take_zeros h8, sortV_nil]; exact hr, fun k hk => ⟨fun e => ?_, hk.2, Nat.le_trans hb.size hk.1⟩⟩, fun k hk => by rw [ho k ((ho2 k).1 hk)]; exact Nat.le_refl _, below_step hb hb2⟩
  have h1 := hs.ow_lt k ((ho2 k).1 e)
  have h2 := hk.1
  omega
theorem nowD (h : Jh W p r now' S' L' now S n L w) : w.cell? ⟨r, 0, none⟩ = some (.int .i64 now) := by
  obtain ⟨K, hR, hK⟩ := h.rf
  exact hR.read.1
theorem listD (h : Jh W p r now' S' L' now S n L w) : ∃ B d, w.cell? ⟨r, 2, none⟩ = some (.slice B L.length d) ∧ kI.C w B L.length (sortV L) := by
  obtain ⟨K, hR, hK⟩ := h.rf
  obtain ⟨_, _, B, d, hc, _, hC⟩ := hR.read
  rw [(sortV_perm L).length_eq] at hc hC
  exact ⟨B, d, hc, hC⟩
theorem pinnedD (h : Jh W p r now' S' L' now S n L w) (hl : S.length = 8 ∧ 1 ≤ n ∧ n ≤ 8) (s : Int) : Calls Try.prog 27 #[.pointer (some ⟨r, 0, none⟩), .int .i64 s] w fun e w' => e = .returned (.int .i64 (pinnedV S n s)) ∧ w' = w := by
  obtain ⟨K, hR, hK⟩ := h.rf
  have h1 := pinned_r hR (by rw [len_take hl]; exact hl.2.2) s
  rw [len_take hl, pinned_take] at h1
  exact h1
theorem minD (h : Jh W p r now' S' L' now S n L w) (hl : S.length = 8 ∧ 1 ≤ n ∧ n ≤ 8) : Calls Try.prog 26 #[.pointer (some ⟨r, 0, none⟩)] w fun e w' => e = .returned (.int .i64 (minV S n now)) ∧ w' = w := by
  obtain ⟨K, hR, hK⟩ := h.rf
  have h1 := min_r hR (by rw [len_take hl]; exact hl.2.2)
  rw [len_take hl, min_take] at h1
  exact h1
theorem publishD (h : Jh W p r now' S' L' now S n L w) (h0 : 0 ≤ now) (h1 : now ≤ 1000000) : Calls Try.prog 20 #[.pointer (some ⟨r, 0, none⟩)] w fun e w' => e = .returned (.int .i64 (now + 1)) ∧ Jh W p r now' S' L' (now + 1) S n L w' ∧ Fr (fun k => k = r) w w' := by
  obtain ⟨K, hR, hK⟩ := h.rf
  refine (publish_r hR h0 h1).mono ?_
  rintro e w' ⟨rfl, hx⟩
  exact ⟨rfl, h.docK hR hK hx, hx.2⟩
theorem pinD_some (h : Jh W p r now' S' L' now S n L w) (hl : S.length = 8 ∧ 1 ≤ n ∧ n ≤ 8) {i : Nat} (hi : i < n) (h0 : S.getD i 0 = 0) (hm : ∀ j, j < i → S.getD j 0 ≠ 0) :
    Calls Try.prog 21 #[.pointer (some ⟨r, 0, none⟩)] w fun e w' => e = .returned (.tuple #[.int .i64 i, .int .i64 0]) ∧ Jh W p r now' S' L' now (S.set i now) n L w' ∧ Fr (fun k => k = r) w w' := by
  obtain ⟨K, hR, hK⟩ := h.rf
  refine (pin_r hR (by rw [len_take hl]; exact hl.2.2)).mono ?_
  rintro e w' (⟨j, hj, hz, hn, rfl, hx⟩ | ⟨hn, _⟩)
  · rw [len_take hl] at hj
    obtain rfl : j = i := by
      rcases Nat.lt_trichotomy j i with e | e | e
      · rw [getD_take hj] at hz
        exact absurd hz (hm j e)
      · exact e
      · have := hn i e
        rw [getD_take hi] at this
        exact absurd h0 this
    exact ⟨rfl, h.docK hR hK (by rw [set_take]; exact hx), hx.2⟩
  · have := hn i (by rw [len_take hl]; exact hi)
    rw [getD_take hi] at this
    exact absurd h0 this
theorem pinD_none (h : Jh W p r now' S' L' now S n L w) (hl : S.length = 8 ∧ 1 ≤ n ∧ n ≤ 8) (hm : ∀ j, j < n → S.getD j 0 ≠ 0) :
    Calls Try.prog 21 #[.pointer (some ⟨r, 0, none⟩)] w fun e w' => e = .returned (.tuple #[.int .i64 0, .int .i64 6]) ∧ Jh W p r now' S' L' now S n L w' ∧ Fr (fun k => k = r) w w' := by
  obtain ⟨K, hR, hK⟩ := h.rf
  refine (pin_r hR (by rw [len_take hl]; exact hl.2.2)).mono ?_
  rintro e w' (⟨j, hj, hz, hn, rfl, hx⟩ | ⟨hn, rfl, rfl⟩)
  · rw [len_take hl] at hj
    rw [getD_take hj] at hz
    exact absurd hz (hm j hj)
  · exact ⟨rfl, h, Fr.refl _ _⟩
theorem unpinD_none (h : Jh W p r now' S' L' now S n L w) (hl : S.length = 8 ∧ 1 ≤ n ∧ n ≤ 8) (s : Int) (h0 : pinnedV S n s = 0) :
    Calls Try.prog 22 #[.pointer (some ⟨r, 0, none⟩), .int .i64 s] w fun e w' => e = .returned (.int .i64 3) ∧ Jh W p r now' S' L' now S n L w' ∧ Fr (fun k => k = r) w w' := by
  obtain ⟨K, hR, hK⟩ := h.rf
  refine (unpin_r hR (by rw [len_take hl]; exact hl.2.2) s).mono ?_
  rintro e w' (⟨_, rfl, rfl⟩ | ⟨h1, _⟩)
  · exact ⟨rfl, h, Fr.refl _ _⟩
  · rw [len_take hl, pinned_take] at h1
    exact absurd h0 h1
theorem unpinD_some (h : Jh W p r now' S' L' now S n L w) (hl : S.length = 8 ∧ 1 ≤ n ∧ n ≤ 8) (s : Int) (h0 : pinnedV S n s ≠ 0) :
    Calls Try.prog 22 #[.pointer (some ⟨r, 0, none⟩), .int .i64 s] w fun e w' => e = .returned (.int .i64 0) ∧ Jh W p r now' S' L' now (S.set s.toNat 0) n L w' ∧ Fr (fun k => k = r) w w' := by
  obtain ⟨K, hR, hK⟩ := h.rf
  refine (unpin_r hR (by rw [len_take hl]; exact hl.2.2) s).mono ?_
  rintro e w' (⟨h1, _⟩ | ⟨_, rfl, hx⟩)
  · rw [len_take hl, pinned_take] at h1
    exact absurd h1 h0
  · exact ⟨rfl, h.docK hR hK (by rw [set_take]; exact hx), hx.2⟩
theorem retireD (h : Jh W p r now' S' L' now S n L w) (hl : L.length ≤ 100000) (id : Int) : Calls Try.prog 23 #[.pointer (some ⟨r, 0, none⟩), .int .i64 id] w fun e w' => e = .returned (.tuple #[]) ∧ Jh W p r now' S' L' now S n ((id, now) :: L) w' ∧ Fr (fun k => k = r) w w' := by
  obtain ⟨K, hR, hK⟩ := h.rf
  refine (retire_r hR (fun k hk => (hK k hk).2.1) (by rw [(sortV_perm L).length_eq]; exact hl) id).mono ?_
  rintro e w' ⟨rfl, hx⟩
  rw [insE_sortV] at hx
  exact ⟨rfl, h.docK hR hK hx, hx.2⟩
theorem reclaimD {I M : List It} (h : Jh W p r now' S' L' now S n L w) (hs : S.length = 8 ∧ 1 ≤ n ∧ n ≤ 8) (hl : L.length ≤ 100000)
    (hI : (sortV L).filter (goesV (S.take n) now) = I) (hM : (sortV L).filter (fun x => !goesV (S.take n) now x) = sortV M) :
    Calls Try.prog 25 #[.pointer (some ⟨r, 0, none⟩)] w fun e w' => ∃ A c, e = .returned (.slice A (I.map Prod.fst).length c) ∧ ReadsInt w' .i64 A (I.map Prod.fst).length (I.map Prod.fst) ∧ Jh W p r now' S' L' now S n M w' ∧ Fr (fun k => k = r) w w' := by
  obtain ⟨K, hR, hK⟩ := h.rf
  refine (reclaim_r hR (fun k hk => (hK k hk).2.1) (by rw [len_take hs]; exact hs.2.2) (by rw [(sortV_perm L).length_eq]; exact hl)).mono ?_
  rintro e w' ⟨v, rfl, hi, hx⟩
  rw [hI] at hi
  rw [hM] at hx
  obtain ⟨A, c, rfl, _, hC⟩ := Kd.R_reads hi
  exact ⟨A, c, rfl, ints_of hC, h.docK hR hK hx, hx.2⟩
/-- The act's own block. -/
structure Bx (p r b : Nat) (ob : Obj) (w : World) : Prop where
  at_ : w.heap[b]? = some ob
  ow : ¬ Ow w p b
  ne : b ≠ r
theorem Bx.start {o : Obj} (h : Jh W p r now' S' L' now S n L w) : Bx p r w.heap.size o (w.alloc o) := by
  obtain ⟨K, hR, hK⟩ := h.rf
  refine ⟨heap_alloc_new w o, fun e => ?_, fun e => ?_⟩
  · have h2 := (h.st.below ((Below.refl _ _).alloc (Nat.le_refl _) o) (Nat.le_refl _)).2
    have := h.st.ow_lt _ ((h2 _).1 e)
    omega
  · have := hR.lt
    omega
theorem Bx.epo {b : Nat} {ob : Obj} {now2 : Int} {S2 : List Int} {L2 : List It} (h : Bx p r b ob w) (hx : Nx w p now2 S2 n L2 w') : Bx p r b ob w' := by
  refine ⟨(hx.fr.block b (blk_lt' h.at_) h.ow).trans h.at_, fun e => ?_, h.ne⟩
  rcases hx.ow b e with e | e
  · exact h.ow e
  · have := blk_lt' h.at_
    omega
theorem Bx.doc {b : Nat} {ob : Obj} (h : Bx p r b ob w) (hj : Jh W p r now' S' L' now S n L w) (hf : Fr (fun k => k = r) w w') : Bx p r b ob w' := by
  obtain ⟨K, hR, hK⟩ := hj.rf
  obtain ⟨hs, ho⟩ := hj.st.fr hf (fun k hk e => by subst e; exact (hK k hR.1).1 hk)
  exact ⟨(hf.block b (blk_lt' h.at_) h.ne).trans h.at_, fun e => h.ow ((ho b).1 e), h.ne⟩
theorem Bx.below {b : Nat} {ob : Obj} (h : Bx p r b ob w) (hj : Jh W p r now' S' L' now S n L w) (hb : Below w.heap.size w w') : Bx p r b ob w' := by
  exact ⟨(hb.block b (blk_lt' h.at_)).trans h.at_, fun e => h.ow (((hj.st.below hb (Nat.le_refl _)).2 b).1 e), h.ne⟩
end
end Go.Proofs.Ytpfeelcdbnldfaa
