/-
  Tries of texts in memory: with.
-/
import Derived.Test.YtfehimoiccgahaaMem
import Derived.Deep.WholeRow
import Derived.Deep.CutRange
import Derived.Deep.DeepCutAuto

namespace Go.Proofs.Ytfehimoiccgahaa.S
open Go.RowKit Go.Proofs.YtfehimoiccgahaaW.PrintWords Go.Proofs.Ytfehimoiccgahaa
set_option linter.unusedVariables false
set_option linter.unusedSimpArgs false
abbrev In (W : World) (P : Nat → Prop) (t : Nd ByteArray) : Prop := InMem 76 9 Value.string W P t
theorem infoT : (Try.prog.info? 76).map (·.size) = some 33 := by kernel_rfl
/-- The new node, as it lies while its parts are laid. -/
structure New (W w1 : World) (d : Nat → Nd ByteArray) (h : Nat → Option (Nat × ByteArray)) (s : Int) : Prop where
  blk : w1.heap[W.heap.size]? = some (.cells (nc d h s) 76 (0, 0))
  below : Below W.heap.size W w1
section
variable {W w1 : World} {d : Nat → Nd ByteArray} {h : Nat → Option (Nat × ByteArray)} {s : Int} {P : Nat → Prop} {hv : Option (Nat × ByteArray)}
theorem New.frozen (k : New W w1 d h s) (i : Nat) : w1.frozen? ⟨W.heap.size, i, none⟩ = false := blk_frozen k.blk i
theorem New.csize (k : New W w1 d h s) : w1.cell? ⟨W.heap.size, 32, none⟩ = some (.int .i64 s) := by rw [blk_cell k.blk, nc_sz]
theorem New.cdown (k : New W w1 d h s) {i : Nat} (hi : i < 16) : w1.cell? ⟨W.heap.size, i, none⟩ = some (nptr (d i)) := by rw [blk_cell k.blk, nc_down hi]
theorem New.chere (k : New W w1 d h s) {i : Nat} (hi : i < 16) : w1.cell? ⟨W.heap.size, 16 + i, none⟩ = some (hptr (h i)) := by rw [blk_cell k.blk, nc_here hi]
theorem New.lt (k : New W w1 d h s) : W.heap.size + 1 ≤ w1.heap.size := blk_lt k.blk
theorem New.set_size (k : New W w1 d h s) (x : Int) : New W (w1.setCell ⟨W.heap.size, 32, none⟩ (.int .i64 x)) d h x :=
  ⟨by rw [blk_set k.blk, nc_set_size], k.below.setCell (Nat.le_refl _) _⟩
theorem New.set_here (k : New W w1 d h s) {i : Nat} (hi : i < 16) (u : Option (Nat × ByteArray)) : New W (w1.setCell ⟨W.heap.size, 16 + i, none⟩ (hptr u)) d (upd h i u) s :=
  ⟨by rw [blk_set k.blk, nc_set_here hi], k.below.setCell (Nat.le_refl _) _⟩
theorem New.set_down (k : New W w1 d h s) {i : Nat} (hi : i < 16) (u : Nd ByteArray) : New W (w1.setCell ⟨W.heap.size, i, none⟩ (nptr u)) (upd d i u) h s :=
  ⟨by rw [blk_set k.blk, nc_set_down hi], k.below.setCell (Nat.le_refl _) _⟩
theorem New.then (k : New W w1 d h s) {w2 : World} (hb : Below w1.heap.size w1 w2) : New W w2 d h s :=
  ⟨(hb.block _ (blk_lt k.blk)).trans k.blk, k.below.trans (hb.mono k.below.size)⟩
theorem New.start (W : World) : New W (W.alloc (.cells #[.pointer none, .pointer none, .pointer none, .pointer none, .pointer none, .pointer none, .pointer none, .pointer none, .pointer none, .pointer none, .pointer none, .pointer none, .pointer none, .pointer none, .pointer none, .pointer none, .pointer none, .pointer none, .pointer none, .pointer none, .pointer none, .pointer none, .pointer none, .pointer none, .pointer none, .pointer none, .pointer none, .pointer none, .pointer none, .pointer none, .pointer none, .pointer none, .int .i64 0] 76)) (fun _ => .nil) (fun _ => none) 0 :=
  ⟨heap_alloc_new W _, (Below.refl _ _).alloc (Nat.le_refl _) _⟩
theorem New.copy (W : World) (d : Nat → Nd ByteArray) (h : Nat → Option (Nat × ByteArray)) (s : Int) : New W (W.alloc (.cells (nc d h s) 76)) d h s :=
  ⟨heap_alloc_new W _, (Below.refl _ _).alloc (Nat.le_refl _) _⟩
theorem New.leaf {t : Nd ByteArray} {n : Nat} (k : New W w1 t.down (upd t.here (Nd.dig 0 n) hv) s) (hI : In W P t) (hh : ∀ b x, hv = some (b, x) → P b ∧ W.heap[b]? = some (.cells #[Value.string x] 9 (0, 0))) :
    In w1 (fun b => P b ∨ W.heap.size ≤ b) (.node W.heap.size t.down (upd t.here (Nd.dig 0 n) hv) s) := by
  have h2 := hI.below k.below
  refine InMem.mk (Or.inr (Nat.le_refl _)) k.blk (fun i hi => (h2.down hi).imp (fun b hb => Or.inl hb)) (fun i b x hi e => ?_)
  by_cases e2 : i = Nd.dig 0 n
  · subst e2
    rw [upd_same] at e
    obtain ⟨a1, a2⟩ := hh b x e
    exact ⟨Or.inl a1, (k.below.block b (blk_lt a2)).trans a2⟩
  · rw [upd_other _ _ e2] at e
    obtain ⟨a1, a2⟩ := h2.here hi e
    exact ⟨Or.inl a1, a2⟩
theorem New.inner {t u : Nd ByteArray} {n r : Nat} {w2 w3 : World} (k2 : New W w2 t.down t.here s) (hI : In W P t) (hu : In w3 (fun b => (P b ∧ b < W.heap.size) ∨ w2.heap.size ≤ b) u) (hb : Below w2.heap.size w2 w3) :
    In (w3.setCell ⟨W.heap.size, Nd.dig r n, none⟩ (nptr u)) (fun b => P b ∨ W.heap.size ≤ b) (.node W.heap.size (upd t.down (Nd.dig r n) u) t.here s) ∧ Below W.heap.size W (w3.setCell ⟨W.heap.size, Nd.dig r n, none⟩ (nptr u)) := by
  have k4 := (k2.then hb).set_down (Nd.dig_lt r n) u
  have h2 := hI.below k4.below
  have hlt := k2.lt
  refine ⟨InMem.mk (Or.inr (Nat.le_refl _)) k4.blk (fun i hi => ?_) (fun i b x hi e => ?_), k4.below⟩
  · by_cases e2 : i = Nd.dig r n
    · subst e2
      rw [upd_same]
      refine (hu.keep (fun b hb => heap_setCell_other _ _ _ _ ?_)).imp (fun b hb => hb.imp (fun h => h.1) (fun h => by omega))
      show b ≠ W.heap.size
      rcases hb with hb | hb <;> omega
    · rw [upd_other _ _ e2]
      exact (h2.down hi).imp (fun b hb => Or.inl hb)
  · obtain ⟨a1, a2⟩ := h2.here hi e
    exact ⟨Or.inl a1, a2⟩
end
theorem nptr_ptr (u : Nd ByteArray) : ∃ p, nptr u = .pointer p := by cases u <;> exact ⟨_, rfl⟩
theorem part_c' (n r : Nat) (dp : Int) (hr : r ≤ 4) (hd : dp = 4 - (r : Int)) (hn : n < 1048576) (W : World) : Calls Try.prog 32 #[.int .i64 n, .int .i64 dp] W fun e w' => e = .returned (.int .i64 (Nd.dig r n)) ∧ w' = W := by
  subst hd
  exact part_c n r hr hn W
set_option maxHeartbeats 2000000 in
set_option maxRecDepth 100000 in
theorem with_c (hv : Option (Nat × ByteArray)) (q : Option Addr) (hq : Aside0 (.pointer q = hptr hv)) (more : Int) (n : Nat) (hn : n < 1048576) (hm : -1 ≤ more ∧ more ≤ 1) : ∀ (r : Nat) (hr : r ≤ 4) (dp : Int) (hdp : Aside0 (dp = 4 - (r : Int))) (t : Nd ByteArray) (W : World) (P : Nat → Prop) (hg : Nd.Good r t) (hs : t.size ≤ 1000000) (hI : In W P t)
    (hh : ∀ b x, hv = some (b, x) → P b ∧ W.heap[b]? = some (.cells #[Value.string x] 9 (0, 0))),
    Calls Try.prog 33 #[nptr t, .int .i64 n, .int .i64 dp, .pointer q, .int .i64 more] W fun e w' => ∃ u, e = .returned (nptr u) ∧ Nd.With W.heap.size n hv more r t u ∧ In w' (fun b => P b ∨ W.heap.size ≤ b) u ∧ Below W.heap.size W w'
  | 0, hr, dp, hdp, t, W, P, hg, hs, hI, hh => by
    have hdp4 : dp = 4 := by have := hdp.out; omega
    subst hdp4
    clear hdp
    obtain ⟨hm1, hm2⟩ := hm
    have hs0 := hg.nonneg
    cases t with
    | nil =>
      show Calls Try.prog 33 #[.pointer none, .int .i64 n, .int .i64 4, .pointer q, .int .i64 more] W _
      clear hs hs0
      go_enter Try.func33, Try.ntmps33
      go_upto_region 4 with (fail)
      have HN := Aside0.mk (New.start W)
      generalize W.alloc (.cells #[.pointer none, .pointer none, .pointer none, .pointer none, .pointer none, .pointer none, .pointer none, .pointer none, .pointer none, .pointer none, .pointer none, .pointer none, .pointer none, .pointer none, .pointer none, .pointer none, .pointer none, .pointer none, .pointer none, .pointer none, .pointer none, .pointer none, .pointer none, .pointer none, .pointer none, .pointer none, .pointer none, .pointer none, .pointer none, .pointer none, .pointer none, .pointer none, .int .i64 0] 76) = w1 at HN ⊢
      have HSM : Aside0 ((Nd.nil : Nd ByteArray).size + more = more) := ⟨by first | rfl | exact Int.zero_add more⟩
      have c32 := HN.out.csize
      have f32 := HN.out.frozen 32
      go_upto_region 5 with (fail)
      have HN2 := Aside0.mk (HN.out.set_size (more))
      clear c32 f32 HN
      generalize w1.setCell ⟨W.heap.size, 32, none⟩ (.int .i64 more) = w2 at HN2 ⊢
      have c32 := HN2.out.csize
      by_cases h0 : more = 0
      · have H0 : Aside0 ((Nd.nil : Nd ByteArray).size + more = 0) := ⟨by rw [HSM.out]; exact h0⟩
        have hd0 : decide (more = 0) = true := decide_eq_true h0
        have hb0 : (more == 0) = true := by simpa using h0
        rw [h0] at c32
        clear h0 hd0 hb0
        go_wp2_with fail
        go_ret
        exact ⟨.nil, rfl, Or.inl ⟨H0.out, rfl⟩, trivial, HN2.out.below⟩
      · have H0 : Aside0 ((Nd.nil : Nd ByteArray).size + more ≠ 0) := ⟨by rw [HSM.out]; exact h0⟩
        have hb0 : (more == 0) = false := by simpa using h0
        have ck := HN2.out.chere (Nd.dig_lt 0 n)
        have fk := HN2.out.frozen (16 + Nd.dig 0 n)
        have hk16 : Nd.dig 0 n < 16 := Nd.dig_lt 0 n
        have HPT := Aside0.mk (part_c n 0 (by omega) hn w2)
        have HQ := Aside0.mk (HN2.out.set_here (Nd.dig_lt 0 n) hv)
        rw [← hq.out] at HQ
        generalize hkk : Nd.dig 0 n = kk at ck fk hk16 HPT HQ
        have HKK := Aside0.mk hkk
        clear hkk
        go_wp2_with fail
        refine HPT.out.mono ?_
        rintro e w3 ⟨rfl, rfl⟩
        go_wp2_with fail
        go_ret
        have HK := HQ.out
        rw [← HKK.out] at HK ⊢
        exact ⟨.node W.heap.size (Nd.nil : Nd ByteArray).down (upd (Nd.nil : Nd ByteArray).here (Nd.dig 0 n) hv) more, rfl, Or.inr ⟨H0.out, _, Nat.le_refl _, by rw [HSM.out]⟩, HK.leaf hI hh, HK.below⟩
    | node a d h s =>
      show Calls Try.prog 33 #[.pointer (some ⟨a, 0, none⟩), .int .i64 n, .int .i64 4, .pointer q, .int .i64 more] W _
      have hs1 : s ≤ 1000000 := hs
      have hs2 : 0 ≤ s := hs0
      clear hs hs0
      have HB := Aside0.mk hI.2.1
      go_enter Try.func33, Try.ntmps33
      go_upto_region 3 with (fail)
      go_upto_region 4 with (first | (refine wpList_load_row (o := ⟨some 17, _, _, _, _, _⟩) rfl 76 (.tmp 16) rfl a rfl 76 (nc d h s) (0, 0) _ ((Below.heap_alloc W _ a (blk_lt HB.out)).trans HB.out) Try.underlying76 rfl (by rw [nc_size]; exact infoT) ?_) | (refine wpList_store_row (o := ⟨none, _, _, _, _, _⟩) rfl 76 (.tmp 11) (.tmp 17) rfl W.heap.size (nc d h s) rfl rfl 76 _ (heap_alloc_new _ _) (by rw [nc_size]; exact infoT) (by rw [nc_size]; rfl) nc_one ?_; rw [World.setRow_alloc_new]))
      have HN := Aside0.mk (New.copy W d h s)
      generalize W.alloc (.cells (nc d h s) 76) = w1 at HN ⊢
      have HSM : Aside0 ((Nd.node a d h s).size + more = s + more) := ⟨by first | rfl | exact Int.zero_add more⟩
      have c32 := HN.out.csize
      have f32 := HN.out.frozen 32
      go_upto_region 5 with (fail)
      have HN2 := Aside0.mk (HN.out.set_size (s + more))
      clear c32 f32 HN
      generalize w1.setCell ⟨W.heap.size, 32, none⟩ (.int .i64 (s + more)) = w2 at HN2 ⊢
      have c32 := HN2.out.csize
      by_cases h0 : s + more = 0
      · have H0 : Aside0 ((Nd.node a d h s).size + more = 0) := ⟨by rw [HSM.out]; exact h0⟩
        have hd0 : decide (s + more = 0) = true := decide_eq_true h0
        have hb0 : (s + more == 0) = true := by simpa using h0
        rw [h0] at c32
        clear h0 hd0 hb0
        go_wp2_with fail
        go_ret
        exact ⟨.nil, rfl, Or.inl ⟨H0.out, rfl⟩, trivial, HN2.out.below⟩
      · have H0 : Aside0 ((Nd.node a d h s).size + more ≠ 0) := ⟨by rw [HSM.out]; exact h0⟩
        have hb0 : (s + more == 0) = false := by simpa using h0
        have ck := HN2.out.chere (Nd.dig_lt 0 n)
        have fk := HN2.out.frozen (16 + Nd.dig 0 n)
        have hk16 : Nd.dig 0 n < 16 := Nd.dig_lt 0 n
        have HPT := Aside0.mk (part_c n 0 (by omega) hn w2)
        have HQ := Aside0.mk (HN2.out.set_here (Nd.dig_lt 0 n) hv)
        rw [← hq.out] at HQ
        generalize hkk : Nd.dig 0 n = kk at ck fk hk16 HPT HQ
        have HKK := Aside0.mk hkk
        clear hkk
        go_wp2_with fail
        refine HPT.out.mono ?_
        rintro e w3 ⟨rfl, rfl⟩
        go_wp2_with fail
        go_ret
        have HK := HQ.out
        rw [← HKK.out] at HK ⊢
        exact ⟨.node W.heap.size (Nd.node a d h s).down (upd (Nd.node a d h s).here (Nd.dig 0 n) hv) (s + more), rfl, Or.inr ⟨H0.out, _, Nat.le_refl _, by rw [HSM.out]⟩, HK.leaf hI hh, HK.below⟩
  | r + 1, hr, dp, hdp, t, W, P, hg, hs, hI, hh => by
    have hd0 : 0 ≤ dp := by have := hdp.out; omega
    have hd4 : dp ≤ 3 := by have := hdp.out; omega
    have hs0 := hg.nonneg
    have hm1 := hm.1
    have hm2 := hm.2
    cases t with
    | nil =>
      show Calls Try.prog 33 #[.pointer none, .int .i64 n, .int .i64 dp, .pointer q, .int .i64 more] W _
      clear hs0
      go_enter Try.func33, Try.ntmps33
      go_upto_region 4 with (fail)
      have HN := Aside0.mk (New.start W)
      generalize W.alloc (.cells #[.pointer none, .pointer none, .pointer none, .pointer none, .pointer none, .pointer none, .pointer none, .pointer none, .pointer none, .pointer none, .pointer none, .pointer none, .pointer none, .pointer none, .pointer none, .pointer none, .pointer none, .pointer none, .pointer none, .pointer none, .pointer none, .pointer none, .pointer none, .pointer none, .pointer none, .pointer none, .pointer none, .pointer none, .pointer none, .pointer none, .pointer none, .pointer none, .int .i64 0] 76) = w1 at HN ⊢
      have HSM : Aside0 ((Nd.nil : Nd ByteArray).size + more = more) := ⟨by first | rfl | exact Int.zero_add more⟩
      have c32 := HN.out.csize
      have f32 := HN.out.frozen 32
      go_upto_region 5 with (fail)
      have HN2 := Aside0.mk (HN.out.set_size (more))
      clear c32 f32 HN
      generalize w1.setCell ⟨W.heap.size, 32, none⟩ (.int .i64 more) = w2 at HN2 ⊢
      have c32 := HN2.out.csize
      by_cases h0 : more = 0
      · have H0 : Aside0 ((Nd.nil : Nd ByteArray).size + more = 0) := ⟨by rw [HSM.out]; exact h0⟩
        have hb0 : (more == 0) = true := by simpa using h0
        rw [h0] at c32
        clear h0 hb0
        by_cases hd : 0 < dp
        · have H4 : Aside0 (r + 1 < 4) := ⟨by have := hdp.out; omega⟩
          go_wp2_with fail
          go_ret
          exact ⟨.nil, rfl, Or.inl ⟨H0.out, H4.out, rfl⟩, trivial, HN2.out.below⟩
        · have H4 : Aside0 ((Nd.nil : Nd ByteArray).size + more ≠ 0 ∨ 4 ≤ r + 1) := ⟨Or.inr (by have := hdp.out; omega)⟩
          have ck := HN2.out.cdown (Nd.dig_lt (r + 1) n)
          have hk16 : Nd.dig (r + 1) n < 16 := Nd.dig_lt (r + 1) n
          have h44 : (dp == 4) = false := by
            have := hdp.out
            simp only [beq_eq_false_iff_ne, ne_eq]
            omega
          have HPT := Aside0.mk (part_c' n (r + 1) dp hr hdp.out hn w2)
          have hlt2 := HN2.out.lt
          have HIH := Aside0.mk (with_c hv q hq more n hn hm r (by omega) (dp + 1) ⟨by have := hdp.out; omega⟩ ((Nd.nil : Nd ByteArray).down (Nd.dig (r + 1) n)) w2 (fun b => P b ∧ b < W.heap.size) (hg.2.1 _).1 (by have := hg.child (Nd.dig_lt (r + 1) n); omega)
            ((hI.down (Nd.dig_lt (r + 1) n)).lt.keep (fun b hb => HN2.out.below.block b hb.2)) (fun b x e => ⟨⟨(hh b x e).1, blk_lt (hh b x e).2⟩, (HN2.out.below.block b (blk_lt (hh b x e).2)).trans (hh b x e).2⟩))
          have HFIN : Aside0 (∀ (u : Nd ByteArray) (w3 : World), In w3 (fun b => (P b ∧ b < W.heap.size) ∨ w2.heap.size ≤ b) u → Below w2.heap.size w2 w3 → In (w3.setCell ⟨W.heap.size, Nd.dig (r + 1) n, none⟩ (nptr u)) (fun b => P b ∨ W.heap.size ≤ b) (.node W.heap.size (upd (Nd.nil : Nd ByteArray).down (Nd.dig (r + 1) n) u) (Nd.nil : Nd ByteArray).here more) ∧ Below W.heap.size W (w3.setCell ⟨W.heap.size, Nd.dig (r + 1) n, none⟩ (nptr u))) := ⟨fun u w3 hu hb => New.inner HN2.out hI hu hb⟩
          have HCD := Aside0.mk (fun (w3 : World) (hb : Below w2.heap.size w2 w3) => ((HN2.out.then hb).cdown (Nd.dig_lt (r + 1) n)))
          have HFZ := Aside0.mk (fun (w3 : World) (hb : Below w2.heap.size w2 w3) => ((HN2.out.then hb).frozen (Nd.dig (r + 1) n)))
          generalize hkk : Nd.dig (r + 1) n = kk at ck hk16 HPT HIH HFIN HCD HFZ
          have HKK := Aside0.mk hkk
          clear hkk
          go_wp2_with fail
          refine HPT.out.mono ?_
          rintro e w3 ⟨rfl, rfl⟩
          go_wp2_with fail
          refine HIH.out.mono ?_
          rintro e w4 ⟨u, rfl, hW, hu, hb⟩
          obtain ⟨pu, hpu⟩ := nptr_ptr u
          rw [hpu]
          have HPU := Aside0.mk hpu
          clear hpu
          have HW := Aside0.mk hW
          have HU := Aside0.mk hu
          have HB4 := Aside0.mk hb
          have c4 := HCD.out w4 hb
          have f4 := HFZ.out w4 hb
          clear hW hu hb
          go_wp2_with fail
          go_ret
          obtain ⟨a1, a2⟩ := HFIN.out u w4 HU.out HB4.out
          rw [HPU.out] at a1 a2
          refine ⟨.node W.heap.size (upd (Nd.nil : Nd ByteArray).down kk u) (Nd.nil : Nd ByteArray).here more, rfl, Or.inr ⟨H4.out, _, u, Nat.le_refl _, ?_, by rw [HKK.out, HSM.out]⟩, a1, a2⟩
          rw [HKK.out]
          exact HW.out.mono (by omega)
      · have H4 : Aside0 ((Nd.nil : Nd ByteArray).size + more ≠ 0 ∨ 4 ≤ r + 1) := ⟨Or.inl (by rw [HSM.out]; exact h0)⟩
        have hb0 : (more == 0) = false := by simpa using h0
        have ck := HN2.out.cdown (Nd.dig_lt (r + 1) n)
        have hk16 : Nd.dig (r + 1) n < 16 := Nd.dig_lt (r + 1) n
        have h44 : (dp == 4) = false := by
          have := hdp.out
          simp only [beq_eq_false_iff_ne, ne_eq]
          omega
        have HPT := Aside0.mk (part_c' n (r + 1) dp hr hdp.out hn w2)
        have hlt2 := HN2.out.lt
        have HIH := Aside0.mk (with_c hv q hq more n hn hm r (by omega) (dp + 1) ⟨by have := hdp.out; omega⟩ ((Nd.nil : Nd ByteArray).down (Nd.dig (r + 1) n)) w2 (fun b => P b ∧ b < W.heap.size) (hg.2.1 _).1 (by have := hg.child (Nd.dig_lt (r + 1) n); omega)
          ((hI.down (Nd.dig_lt (r + 1) n)).lt.keep (fun b hb => HN2.out.below.block b hb.2)) (fun b x e => ⟨⟨(hh b x e).1, blk_lt (hh b x e).2⟩, (HN2.out.below.block b (blk_lt (hh b x e).2)).trans (hh b x e).2⟩))
        have HFIN : Aside0 (∀ (u : Nd ByteArray) (w3 : World), In w3 (fun b => (P b ∧ b < W.heap.size) ∨ w2.heap.size ≤ b) u → Below w2.heap.size w2 w3 → In (w3.setCell ⟨W.heap.size, Nd.dig (r + 1) n, none⟩ (nptr u)) (fun b => P b ∨ W.heap.size ≤ b) (.node W.heap.size (upd (Nd.nil : Nd ByteArray).down (Nd.dig (r + 1) n) u) (Nd.nil : Nd ByteArray).here more) ∧ Below W.heap.size W (w3.setCell ⟨W.heap.size, Nd.dig (r + 1) n, none⟩ (nptr u))) := ⟨fun u w3 hu hb => New.inner HN2.out hI hu hb⟩
        have HCD := Aside0.mk (fun (w3 : World) (hb : Below w2.heap.size w2 w3) => ((HN2.out.then hb).cdown (Nd.dig_lt (r + 1) n)))
        have HFZ := Aside0.mk (fun (w3 : World) (hb : Below w2.heap.size w2 w3) => ((HN2.out.then hb).frozen (Nd.dig (r + 1) n)))
        generalize hkk : Nd.dig (r + 1) n = kk at ck hk16 HPT HIH HFIN HCD HFZ
        have HKK := Aside0.mk hkk
        clear hkk
        go_wp2_with fail
        refine HPT.out.mono ?_
        rintro e w3 ⟨rfl, rfl⟩
        go_wp2_with fail
        refine HIH.out.mono ?_
        rintro e w4 ⟨u, rfl, hW, hu, hb⟩
        obtain ⟨pu, hpu⟩ := nptr_ptr u
        rw [hpu]
        have HPU := Aside0.mk hpu
        clear hpu
        have HW := Aside0.mk hW
        have HU := Aside0.mk hu
        have HB4 := Aside0.mk hb
        have c4 := HCD.out w4 hb
        have f4 := HFZ.out w4 hb
        clear hW hu hb
        go_wp2_with fail
        go_ret
        obtain ⟨a1, a2⟩ := HFIN.out u w4 HU.out HB4.out
        rw [HPU.out] at a1 a2
        refine ⟨.node W.heap.size (upd (Nd.nil : Nd ByteArray).down kk u) (Nd.nil : Nd ByteArray).here more, rfl, Or.inr ⟨H4.out, _, u, Nat.le_refl _, ?_, by rw [HKK.out, HSM.out]⟩, a1, a2⟩
        rw [HKK.out]
        exact HW.out.mono (by omega)
    | node a d h s =>
      show Calls Try.prog 33 #[.pointer (some ⟨a, 0, none⟩), .int .i64 n, .int .i64 dp, .pointer q, .int .i64 more] W _
      have hs1 : s ≤ 1000000 := hs
      have hs2 : 0 ≤ s := hs0
      clear hs0
      have HB := Aside0.mk hI.2.1
      go_enter Try.func33, Try.ntmps33
      go_upto_region 3 with (fail)
      go_upto_region 4 with (first | (refine wpList_load_row (o := ⟨some 17, _, _, _, _, _⟩) rfl 76 (.tmp 16) rfl a rfl 76 (nc d h s) (0, 0) _ ((Below.heap_alloc W _ a (blk_lt HB.out)).trans HB.out) Try.underlying76 rfl (by rw [nc_size]; exact infoT) ?_) | (refine wpList_store_row (o := ⟨none, _, _, _, _, _⟩) rfl 76 (.tmp 11) (.tmp 17) rfl W.heap.size (nc d h s) rfl rfl 76 _ (heap_alloc_new _ _) (by rw [nc_size]; exact infoT) (by rw [nc_size]; rfl) nc_one ?_; rw [World.setRow_alloc_new]))
      have HN := Aside0.mk (New.copy W d h s)
      generalize W.alloc (.cells (nc d h s) 76) = w1 at HN ⊢
      have HSM : Aside0 ((Nd.node a d h s).size + more = s + more) := ⟨by first | rfl | exact Int.zero_add more⟩
      have c32 := HN.out.csize
      have f32 := HN.out.frozen 32
      go_upto_region 5 with (fail)
      have HN2 := Aside0.mk (HN.out.set_size (s + more))
      clear c32 f32 HN
      generalize w1.setCell ⟨W.heap.size, 32, none⟩ (.int .i64 (s + more)) = w2 at HN2 ⊢
      have c32 := HN2.out.csize
      by_cases h0 : s + more = 0
      · have H0 : Aside0 ((Nd.node a d h s).size + more = 0) := ⟨by rw [HSM.out]; exact h0⟩
        have hb0 : (s + more == 0) = true := by simpa using h0
        rw [h0] at c32
        clear h0 hb0
        by_cases hd : 0 < dp
        · have H4 : Aside0 (r + 1 < 4) := ⟨by have := hdp.out; omega⟩
          go_wp2_with fail
          go_ret
          exact ⟨.nil, rfl, Or.inl ⟨H0.out, H4.out, rfl⟩, trivial, HN2.out.below⟩
        · have H4 : Aside0 ((Nd.node a d h s).size + more ≠ 0 ∨ 4 ≤ r + 1) := ⟨Or.inr (by have := hdp.out; omega)⟩
          have ck := HN2.out.cdown (Nd.dig_lt (r + 1) n)
          have hk16 : Nd.dig (r + 1) n < 16 := Nd.dig_lt (r + 1) n
          have h44 : (dp == 4) = false := by
            have := hdp.out
            simp only [beq_eq_false_iff_ne, ne_eq]
            omega
          have HPT := Aside0.mk (part_c' n (r + 1) dp hr hdp.out hn w2)
          have hlt2 := HN2.out.lt
          have HIH := Aside0.mk (with_c hv q hq more n hn hm r (by omega) (dp + 1) ⟨by have := hdp.out; omega⟩ ((Nd.node a d h s).down (Nd.dig (r + 1) n)) w2 (fun b => P b ∧ b < W.heap.size) (hg.2.1 _).1 (by have := hg.child (Nd.dig_lt (r + 1) n); omega)
            ((hI.down (Nd.dig_lt (r + 1) n)).lt.keep (fun b hb => HN2.out.below.block b hb.2)) (fun b x e => ⟨⟨(hh b x e).1, blk_lt (hh b x e).2⟩, (HN2.out.below.block b (blk_lt (hh b x e).2)).trans (hh b x e).2⟩))
          have HFIN : Aside0 (∀ (u : Nd ByteArray) (w3 : World), In w3 (fun b => (P b ∧ b < W.heap.size) ∨ w2.heap.size ≤ b) u → Below w2.heap.size w2 w3 → In (w3.setCell ⟨W.heap.size, Nd.dig (r + 1) n, none⟩ (nptr u)) (fun b => P b ∨ W.heap.size ≤ b) (.node W.heap.size (upd (Nd.node a d h s).down (Nd.dig (r + 1) n) u) (Nd.node a d h s).here (s + more)) ∧ Below W.heap.size W (w3.setCell ⟨W.heap.size, Nd.dig (r + 1) n, none⟩ (nptr u))) := ⟨fun u w3 hu hb => New.inner HN2.out hI hu hb⟩
          have HCD := Aside0.mk (fun (w3 : World) (hb : Below w2.heap.size w2 w3) => ((HN2.out.then hb).cdown (Nd.dig_lt (r + 1) n)))
          have HFZ := Aside0.mk (fun (w3 : World) (hb : Below w2.heap.size w2 w3) => ((HN2.out.then hb).frozen (Nd.dig (r + 1) n)))
          generalize hkk : Nd.dig (r + 1) n = kk at ck hk16 HPT HIH HFIN HCD HFZ
          have HKK := Aside0.mk hkk
          clear hkk
          go_wp2_with fail
          refine HPT.out.mono ?_
          rintro e w3 ⟨rfl, rfl⟩
          go_wp2_with fail
          refine HIH.out.mono ?_
          rintro e w4 ⟨u, rfl, hW, hu, hb⟩
          obtain ⟨pu, hpu⟩ := nptr_ptr u
          rw [hpu]
          have HPU := Aside0.mk hpu
          clear hpu
          have HW := Aside0.mk hW
          have HU := Aside0.mk hu
          have HB4 := Aside0.mk hb
          have c4 := HCD.out w4 hb
          have f4 := HFZ.out w4 hb
          clear hW hu hb
          go_wp2_with fail
          go_ret
          obtain ⟨a1, a2⟩ := HFIN.out u w4 HU.out HB4.out
          rw [HPU.out] at a1 a2
          refine ⟨.node W.heap.size (upd (Nd.node a d h s).down kk u) (Nd.node a d h s).here (s + more), rfl, Or.inr ⟨H4.out, _, u, Nat.le_refl _, ?_, by rw [HKK.out, HSM.out]⟩, a1, a2⟩
          rw [HKK.out]
          exact HW.out.mono (by omega)
      · have H4 : Aside0 ((Nd.node a d h s).size + more ≠ 0 ∨ 4 ≤ r + 1) := ⟨Or.inl (by rw [HSM.out]; exact h0)⟩
        have hb0 : (s + more == 0) = false := by simpa using h0
        have ck := HN2.out.cdown (Nd.dig_lt (r + 1) n)
        have hk16 : Nd.dig (r + 1) n < 16 := Nd.dig_lt (r + 1) n
        have h44 : (dp == 4) = false := by
          have := hdp.out
          simp only [beq_eq_false_iff_ne, ne_eq]
          omega
        have HPT := Aside0.mk (part_c' n (r + 1) dp hr hdp.out hn w2)
        have hlt2 := HN2.out.lt
        have HIH := Aside0.mk (with_c hv q hq more n hn hm r (by omega) (dp + 1) ⟨by have := hdp.out; omega⟩ ((Nd.node a d h s).down (Nd.dig (r + 1) n)) w2 (fun b => P b ∧ b < W.heap.size) (hg.2.1 _).1 (by have := hg.child (Nd.dig_lt (r + 1) n); omega)
          ((hI.down (Nd.dig_lt (r + 1) n)).lt.keep (fun b hb => HN2.out.below.block b hb.2)) (fun b x e => ⟨⟨(hh b x e).1, blk_lt (hh b x e).2⟩, (HN2.out.below.block b (blk_lt (hh b x e).2)).trans (hh b x e).2⟩))
        have HFIN : Aside0 (∀ (u : Nd ByteArray) (w3 : World), In w3 (fun b => (P b ∧ b < W.heap.size) ∨ w2.heap.size ≤ b) u → Below w2.heap.size w2 w3 → In (w3.setCell ⟨W.heap.size, Nd.dig (r + 1) n, none⟩ (nptr u)) (fun b => P b ∨ W.heap.size ≤ b) (.node W.heap.size (upd (Nd.node a d h s).down (Nd.dig (r + 1) n) u) (Nd.node a d h s).here (s + more)) ∧ Below W.heap.size W (w3.setCell ⟨W.heap.size, Nd.dig (r + 1) n, none⟩ (nptr u))) := ⟨fun u w3 hu hb => New.inner HN2.out hI hu hb⟩
        have HCD := Aside0.mk (fun (w3 : World) (hb : Below w2.heap.size w2 w3) => ((HN2.out.then hb).cdown (Nd.dig_lt (r + 1) n)))
        have HFZ := Aside0.mk (fun (w3 : World) (hb : Below w2.heap.size w2 w3) => ((HN2.out.then hb).frozen (Nd.dig (r + 1) n)))
        generalize hkk : Nd.dig (r + 1) n = kk at ck hk16 HPT HIH HFIN HCD HFZ
        have HKK := Aside0.mk hkk
        clear hkk
        go_wp2_with fail
        refine HPT.out.mono ?_
        rintro e w3 ⟨rfl, rfl⟩
        go_wp2_with fail
        refine HIH.out.mono ?_
        rintro e w4 ⟨u, rfl, hW, hu, hb⟩
        obtain ⟨pu, hpu⟩ := nptr_ptr u
        rw [hpu]
        have HPU := Aside0.mk hpu
        clear hpu
        have HW := Aside0.mk hW
        have HU := Aside0.mk hu
        have HB4 := Aside0.mk hb
        have c4 := HCD.out w4 hb
        have f4 := HFZ.out w4 hb
        clear hW hu hb
        go_wp2_with fail
        go_ret
        obtain ⟨a1, a2⟩ := HFIN.out u w4 HU.out HB4.out
        rw [HPU.out] at a1 a2
        refine ⟨.node W.heap.size (upd (Nd.node a d h s).down kk u) (Nd.node a d h s).here (s + more), rfl, Or.inr ⟨H4.out, _, u, Nat.le_refl _, ?_, by rw [HKK.out, HSM.out]⟩, a1, a2⟩
        rw [HKK.out]
        exact HW.out.mono (by omega)
end Go.Proofs.Ytfehimoiccgahaa.S
