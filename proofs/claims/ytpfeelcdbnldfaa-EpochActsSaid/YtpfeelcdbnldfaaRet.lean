/-
  The document's epochs in memory: Retire.
-/
import Derived.Test.YtpfeelcdbnldfaaIns
import Derived.BigRegion
namespace Go.Proofs.Ytpfeelcdbnldfaa
open Go.RowKit Go.Proofs.YtpfeelcdbnldfaaW Go.Proofs.YtpfeelcdbnldfaaW.PrintWords
set_option linter.unusedVariables false
set_option linter.unusedSimpArgs false
theorem info64 : (Try.prog.info? 64).map (fun i => (i.zero, i.size, i.bytes)) = some (some (.agg #[.int .i64 0, .int .i64 0]), 2, 16) := by kernel_rfl
theorem less_iff (a b c d : Int) : lessV (a, b) (c, d) = true ↔ b < d ∨ (b = d ∧ a < c) := by
  unfold lessV orV cmpV
  simp only [decide_eq_true_eq]
  by_cases h1 : b < d
  · simp [h1]
  · by_cases h2 : d < b
    · simp [h1, h2]
      omega
    · have : b = d := by omega
      subst this
      by_cases h3 : a < c
      · simp [h3]
      · by_cases h4 : c < a
        · simp [h3, h4]
        · simp [h3, h4]
theorem size64 : (Try.prog.info? 64).map (·.size) = some 2 := by kernel_rfl
/-- While both appends are under way. -/
structure RS (w0 : World) (K : Nat → Prop) (r : Nat) (now : Int) (S : List Int) (L : List It) (vL : Value) (w : World) : Prop where
  kr : K r
  at_ : ∃ vs, w.heap[r]? = some (.cells #[.int .i64 now, vs, vL] 61 (0, 0)) ∧ kS.R 3 w 0 K vs S
  row : kI.R 64 w 0 K vL L
  bel : Below w0.heap.size w0 w
section
variable {w0 w w' : World} {K : Nat → Prop} {r : Nat} {now : Int} {S : List Int} {L : List It} {vL : Value}
theorem RS.step (h : RS w0 K r now S L vL w) (hm : ∀ k, K k → k < w.heap.size → w'.heap[k]? = w.heap[k]?) (hb : Below w0.heap.size w0 w') : RS w0 K r now S L vL w' := by
  obtain ⟨vs, h1, h2⟩ := h.at_
  exact ⟨h.kr, ⟨vs, (hm r h.kr (blk_lt h1)).trans h1, Kd.R_step h2 hm⟩, Kd.R_step h.row hm, hb⟩
theorem RS.below (h : RS w0 K r now S L vL w) (hb : Below w.heap.size w w') : RS w0 K r now S L vL w' := h.step (fun k _ hk => hb.block k hk) (below_step h.bel hb)
theorem RS.grown {row : Option Nat} (h : RS w0 K r now S L vL w) (hk : ∀ k, K k → k < w0.heap.size) (hg : w.grownBy w' row) (hr : ∀ k, row = some k → w0.heap.size ≤ k) (hb : Below w0.heap.size w0 w') : RS w0 K r now S L vL w' :=
  h.step (fun k hK hlt => hg.block k hlt (fun e => by have := hr k e.symm; have := hk k hK; omega)) hb
theorem RS.rf (h : RS w0 K r now S L vL w) : Rf w K r now S L := by
  obtain ⟨vs, h1, h2⟩ := h.at_
  exact ⟨h.kr, vs, vL, h1, h2, h.row⟩
theorem RS.cnow (h : RS w0 K r now S L vL w) : w.cell? ⟨r, 0, none⟩ = some (.int .i64 now) := h.rf.read.1
theorem RS.list (h : RS w0 K r now S L vL w) : w.cell? ⟨r, 2, none⟩ = some vL := by
  obtain ⟨vs, h1, h2⟩ := h.at_
  exact (blk_cell h1 2).trans rfl
end
/-- What the appends' orders leave. -/
def RJ (w0 : World) (K : Nat → Prop) (r : Nat) (now : Int) (S : List Int) (L : List It) (vL : Value) (id : Int) (v1 : Value) (b : Nat) (w : World) : Prop :=
  RS w0 K r now S L vL w ∧ kI.R 64 w w0.heap.size (fun k => w0.heap.size ≤ k ∧ k ≠ b) v1 L ∧ w.heap[b]? = some (.cells #[.int .i64 id, .int .i64 now] 64 (0, 0)) ∧ w0.heap.size ≤ b
theorem Nd_keep {w w' : World} {b : Nat} {ob : Obj} {row : Option Nat} (h : w.heap[b]? = some ob) (hg : w.grownBy w' row) (hne : some b ≠ row) : w'.heap[b]? = some ob := (hg.block b (blk_lt h) hne).trans h
theorem row_apart {base : Nat} {w : World} {v : Value} {L : List It} {b : Nat} (h : kI.R 64 w base (fun k => base ≤ k) v L) (hb : w.heap.size ≤ b) : kI.R 64 w base (fun k => base ≤ k ∧ k ≠ b) v L :=
  Kd.R_mono (Kd.R_bound h) (fun k hk => ⟨hk.1, by have := hk.2.2.1; omega⟩)
theorem box_reads {w : World} {b : Nat} {x y : Int} (h : w.heap[b]? = some (.cells #[.int .i64 x, .int .i64 y] 64 (0, 0))) : kI.C w (some ⟨b, 0, none⟩) 1 [((x, y) : It)] := by
  refine ⟨rfl, by simp [maxLen], fun _ => ⟨_, rfl, fun j p hj => ?_⟩⟩
  obtain ⟨hl, hp⟩ := List.getElem?_eq_some_iff.1 hj
  have h0 : j = 0 := by simpa using hl
  subst h0
  have hp : ((x, y) : It) = p := by simpa using hp
  subst hp
  refine ⟨[.int .i64 x, .int .i64 y], rfl, kI_mk w 0 (fun _ => True) (x, y), fun i u hu => ?_⟩
  show w.cell? ((⟨b, 0, none⟩ : Addr).add (0 * 2 + i)) = some u
  rw [Addr.add_lit, Nat.zero_mul, Nat.zero_add, Nat.zero_add, blk_cell h i]
  simpa using hu
set_option maxHeartbeats 0 in
set_option maxRecDepth 100000 in
theorem retire_r {w : World} {K : Nat → Prop} {r : Nat} {now : Int} {S : List Int} {L : List It} (h : Rf w K r now S L) (hK : ∀ k, K k → k < w.heap.size) (hl : L.length ≤ 100000) (id : Int) :
    Calls Try.prog 23 #[.pointer (some ⟨r, 0, none⟩), .int .i64 id] w fun e w' => e = .returned (.tuple #[]) ∧ RX w K r now S (insE (id, now) L) w' := by
  have H := Aside0.mk h
  have HK := Aside0.mk hK
  have HL := Aside0.mk hl
  obtain ⟨A, c, hs0⟩ : ∃ A c, RS w K r now S L (.slice A L.length c) w := by
    obtain ⟨h0, vs, vL, h1, h2, h3⟩ := h
    obtain ⟨B, d, rfl, _, _⟩ := Kd.R_reads h3
    exact ⟨B, d, h0, ⟨vs, h1, h2⟩, h3, Below.refl _ _⟩
  have HS0 := Aside0.mk hs0
  clear h hK hl hs0
  go_enter Try.func23, Try.ntmps23
  go_upto_region 0 with fail
  refine PrintLast.start_ (n := 15) (S := RS w K r now S L (.slice A L.length c)) (ds := [13]) #[false, false, false, false, false, false, false, false, false, false, false, false, false, false, false] (by kernel_rfl) rfl rfl (HS0.out.below (below_drew (Below.refl _ _))) (fun hHeld => ?_)
  clear HS0
  generalize w.drew = w4 at *
  refine PrintLast.pure_ (i := 1) (N := some 7) (v := ?_) (a' := ?_) #[false, true, false, false, false, false, false, false, false, false, false, false, false, false, false] rfl rfl (by kernel_rfl) (fun _ _ _ h => h) (Or.inl ⟨by rfl, ?_⟩) ?_ ?_
  rotate_left
  · intro w'
    go_simp
    with_reducible rfl
  rotate_left
  · simp only [Act.put, List.setIfInBounds_toArray, List.set_cons_zero, List.set_cons_succ]
    rfl
  refine PrintLast.pure_ (i := 2) (N := some 8) (v := ?_) (a' := ?_) #[false, true, true, false, false, false, false, false, false, false, false, false, false, false, false] rfl rfl (by kernel_rfl) (fun _ _ _ h => h) (Or.inl ⟨by rfl, ?_⟩) ?_ ?_
  rotate_left
  · intro w'
    go_simp
    with_reducible rfl
  rotate_left
  · simp only [Act.put, List.setIfInBounds_toArray, List.set_cons_zero, List.set_cons_succ]
    rfl
  refine PrintLast.pure_ (i := 3) (N := some 9) (v := ?_) (a' := ?_) #[false, true, true, true, false, false, false, false, false, false, false, false, false, false, false] rfl rfl (by kernel_rfl) (fun _ _ _ h => h) (Or.inl ⟨by rfl, ?_⟩) ?_ ?_
  rotate_left
  · intro w'
    go_simp
    with_reducible rfl
  rotate_left
  · simp only [Act.put, List.setIfInBounds_toArray, List.set_cons_zero, List.set_cons_succ]
    rfl
  refine PrintLast.take_ (i := 4) (N := some 10) (v := .slice A L.length c) (a' := ?_) #[false, true, true, true, true, false, false, false, false, false, false, false, false, false, false] rfl rfl (by kernel_rfl) (fun _ _ _ h => h) (Or.inl ⟨by rfl, ?_⟩) hHeld ?_ ?_
  · intro w' hS
    have hc2 := hS.list
    go_simp
  rotate_left
  · simp only [Act.put, List.setIfInBounds_toArray, List.set_cons_zero, List.set_cons_succ]
    rfl
  refine PrintLast.pure_ (i := 6) (N := some 12) (v := ?_) (a' := ?_) #[false, true, true, true, true, false, true, false, false, false, false, false, false, false, false] rfl rfl (by kernel_rfl) (fun _ _ _ h => h) (Or.inl ⟨by rfl, ?_⟩) ?_ ?_
  rotate_left
  · intro w'
    go_simp
    with_reducible rfl
  rotate_left
  · simp only [Act.put, List.setIfInBounds_toArray, List.set_cons_zero, List.set_cons_succ]
    rfl
  refine PrintLast.pure_ (i := 7) (N := some 13) (v := ?_) (a' := ?_) #[false, true, true, true, true, false, true, true, false, false, false, false, false, false, false] rfl rfl (by kernel_rfl) (fun _ _ _ h => h) (Or.inl ⟨by rfl, ?_⟩) ?_ ?_
  rotate_left
  · intro w'
    go_simp
    with_reducible rfl
  rotate_left
  · simp only [Act.put, List.setIfInBounds_toArray, List.set_cons_zero, List.set_cons_succ]
    rfl
  refine PrintLast.pure_ (i := 8) (N := some 14) (v := ?_) (a' := ?_) #[false, true, true, true, true, false, true, true, true, false, false, false, false, false, false] rfl rfl (by kernel_rfl) (fun _ _ _ h => h) (Or.inl ⟨by rfl, ?_⟩) ?_ ?_
  rotate_left
  · intro w'
    go_simp
    with_reducible rfl
  rotate_left
  · simp only [Act.put, List.setIfInBounds_toArray, List.set_cons_zero, List.set_cons_succ]
    rfl
  refine PrintLast.pure_ (i := 9) (N := some 15) (v := ?_) (a' := ?_) #[false, true, true, true, true, false, true, true, true, true, false, false, false, false, false] rfl rfl (by kernel_rfl) (fun _ _ _ h => h) (Or.inl ⟨by rfl, ?_⟩) ?_ ?_
  rotate_left
  · intro w'
    go_simp
    with_reducible rfl
  rotate_left
  · simp only [Act.put, List.setIfInBounds_toArray, List.set_cons_zero, List.set_cons_succ]
    rfl
  refine PrintLast.take_ (i := 10) (N := some 16) (v := .int .i64 now) (a' := ?_) #[false, true, true, true, true, false, true, true, true, true, true, false, false, false, false] rfl rfl (by kernel_rfl) (fun _ _ _ h => h) (Or.inl ⟨by rfl, ?_⟩) hHeld ?_ ?_
  · intro w' hS
    have hc2 := hS.cnow
    go_simp
  rotate_left
  · simp only [Act.put, List.setIfInBounds_toArray, List.set_cons_zero, List.set_cons_succ]
    rfl
  refine PrintLast.pure_ (i := 11) (N := some 17) (v := ?_) (a' := ?_) #[false, true, true, true, true, false, true, true, true, true, true, true, false, false, false] rfl rfl (by kernel_rfl) (fun _ _ _ h => h) (Or.inl ⟨by rfl, ?_⟩) ?_ ?_
  rotate_left
  · intro w'
    go_simp
    with_reducible rfl
  rotate_left
  · simp only [Act.put, List.setIfInBounds_toArray, List.set_cons_zero, List.set_cons_succ]
    rfl
  refine PrintLast.join_ (σ := Nat × Value × Nat) 2 #[true, true, true, true, true, true, true, true, true, true, true, true, true, false, false] (fun s_ => [(6, .slice (some ⟨s_.1, 0, none⟩) 0 0), (11, s_.2.1), (18, .slice (some ⟨s_.2.2, 0, none⟩) 1 1)]) (fun s_ w' => RJ w K r now S L (.slice A L.length c) id s_.2.1 s_.2.2 w') ?_ ?_
  rotate_left
  · intro hCont
    refine PrintLast.two_ (i := 0) (j := 12) (Ni := some 6) (Nj := some 18) #[true, true, true, true, true, false, true, true, true, true, true, true, false, false, false] #[false, true, true, true, true, false, true, true, true, true, true, true, true, false, false] rfl rfl rfl rfl (by kernel_rfl) (by decide) (by decide) (fun K hK => ?_) (fun K hK => ?_)
    · skip
      refine PrintLast.value_ (v := .slice (some ⟨w4.heap.size, 0, none⟩) 0 0) (w1 := w4.alloc (.cells #[] 64)) (by rfl) rfl ?_ ?_
      · go_simp
      have hr0 : kI.R 64 (w4.alloc (.cells #[] 64)) w.heap.size (fun k => w.heap.size ≤ k) (.slice (some ⟨w4.heap.size, 0, none⟩) 0 0) [] := ⟨fun k hk => by have := hHeld.bel.size; simp [Value.ownBlock] at hk; omega, [], World.ownsRow_made w4 #[] 0 hHeld.bel.size (by decide) rfl, Reps.none _ _⟩
      have HR0 := Aside0.mk hr0
      clear hr0
      have hab : Below w4.heap.size w4 (w4.alloc (.cells #[] 64)) := (Below.refl _ _).alloc (Nat.le_refl _) _
      refine hK.out _ _ (hHeld.below hab) (fun hHeld => ?_)
      clear hK K hab
      refine PrintLast.norm_ (a' := ?_) ?_ ?_
      rotate_left
      · show Act.put _ (some 6) _ = _
        simp only [Act.put, List.setIfInBounds_toArray, List.set_cons_zero, List.set_cons_succ]
        rfl
      generalize hg0 : w4.heap.size = g0 at *
      generalize w4.alloc (.cells #[] 64) = w5 at *
      refine PrintLast.two_ (i := 5) (j := 12) (Ni := some 11) (Nj := some 18) #[true, true, true, true, true, true, true, true, true, true, true, true, false, false, false] #[true, true, true, true, true, false, true, true, true, true, true, true, true, false, false] rfl rfl rfl rfl (by kernel_rfl) (by decide) (by decide) (fun K hK => ?_) (fun K hK => ?_)
      · skip
        refine Kd.R_append_rows_step kI (w0 := w) w.heap.size (by rfl) (.tmp 6) (.tmp 10) 59 64 (.agg #[.int .i64 0, .int .i64 0]) 16 rfl Try.underlying59 info64 rfl (by decide) (by decide) (.slice (some ⟨g0, 0, none⟩) 0 0) [] L A L.length c (fun k => w.heap.size ≤ k) (fun _ => False) rfl rfl HR0.out (Kd.R_reads' hHeld.row).2.2 (fun _ _ h => h) (fun _ hk => hk.elim) (fun k hk => Nat.le_trans hHeld.bel.size hk) hHeld.bel hHeld.bel.size (by have := HL.out; simp; omega) (fun v1 w9 hr hb9 hg hat => ?_)
        have HR1 := Aside0.mk hr
        have hs9 := hHeld.grown HK.out hg (fun k e => by have h0 := (HR0.out).1 k e; first | exact h0 | exact h0.1) hb9

        refine hK.out _ _ hs9 (fun hHeld => ?_)
        clear hK K hr hb9 hg hat hs9
        refine PrintLast.norm_ (a' := ?_) ?_ ?_
        rotate_left
        · show Act.put _ (some 11) _ = _
          simp only [Act.put, List.setIfInBounds_toArray, List.set_cons_zero, List.set_cons_succ]
          rfl
        refine PrintLast.one_ (i := 12) (N := some 18) #[true, true, true, true, true, true, true, true, true, true, true, true, true, false, false] rfl rfl (by kernel_rfl) (by decide) (fun K hK => ?_)
        refine PrintLast.value_ (v := .slice (some ⟨w9.heap.size, 0, none⟩) 1 1) (w1 := w9.alloc (.cells #[.int .i64 id, .int .i64 now] 64)) (by rfl) rfl ?_ ?_
        · go_simp
        have hab : Below w9.heap.size w9 (w9.alloc (.cells #[.int .i64 id, .int .i64 now] 64)) := (Below.refl _ _).alloc (Nat.le_refl _) _
        have HBX := Aside0.mk (heap_alloc_new w9 (.cells #[.int .i64 id, .int .i64 now] 64))
        have HBZ := Aside0.mk hHeld.bel.size
        have HR2 := Aside0.mk (Kd.R_below (row_apart (b := w9.heap.size) HR1.out (Nat.le_refl _)) hab)
        refine hK.out _ _ (hHeld.below hab) (fun hHeld => ?_)
        clear hK K hab
        refine PrintLast.norm_ (a' := ?_) ?_ ?_
        rotate_left
        · show Act.put _ (some 18) _ = _
          simp only [Act.put, List.setIfInBounds_toArray, List.set_cons_zero, List.set_cons_succ]
          rfl
        generalize w9.heap.size = b at *
        generalize w9.alloc (.cells #[.int .i64 id, .int .i64 now] 64) = w10 at *
        exact PrintLast.norm_ (by simp only [PrintLast.putAll, Act.put, List.setIfInBounds_toArray, List.set_cons_zero, List.set_cons_succ]) (hCont (g0, v1, b) _ ⟨hHeld, HR2.out, HBX.out, HBZ.out⟩)
      · skip
        refine PrintLast.value_ (v := .slice (some ⟨w5.heap.size, 0, none⟩) 1 1) (w1 := w5.alloc (.cells #[.int .i64 id, .int .i64 now] 64)) (by rfl) rfl ?_ ?_
        · go_simp
        have hab : Below w5.heap.size w5 (w5.alloc (.cells #[.int .i64 id, .int .i64 now] 64)) := (Below.refl _ _).alloc (Nat.le_refl _) _
        have HBX := Aside0.mk (heap_alloc_new w5 (.cells #[.int .i64 id, .int .i64 now] 64))
        have HBZ := Aside0.mk hHeld.bel.size
        have HR3 := Aside0.mk (Kd.R_below (row_apart (b := w5.heap.size) HR0.out (Nat.le_refl _)) hab)
        refine hK.out _ _ (hHeld.below hab) (fun hHeld => ?_)
        clear hK K hab
        refine PrintLast.norm_ (a' := ?_) ?_ ?_
        rotate_left
        · show Act.put _ (some 18) _ = _
          simp only [Act.put, List.setIfInBounds_toArray, List.set_cons_zero, List.set_cons_succ]
          rfl
        generalize w5.heap.size = b at *
        generalize w5.alloc (.cells #[.int .i64 id, .int .i64 now] 64) = w6 at *
        refine PrintLast.one_ (i := 5) (N := some 11) #[true, true, true, true, true, true, true, true, true, true, true, true, true, false, false] rfl rfl (by kernel_rfl) (by decide) (fun K hK => ?_)
        refine Kd.R_append_rows_step kI (w0 := w) w.heap.size (by rfl) (.tmp 6) (.tmp 10) 59 64 (.agg #[.int .i64 0, .int .i64 0]) 16 rfl Try.underlying59 info64 rfl (by decide) (by decide) (.slice (some ⟨g0, 0, none⟩) 0 0) [] L A L.length c (fun k => w.heap.size ≤ k ∧ k ≠ b) (fun _ => False) rfl rfl HR3.out (Kd.R_reads' hHeld.row).2.2 (fun _ _ h => h) (fun _ hk => hk.elim) (fun k hk => ⟨Nat.le_trans hHeld.bel.size hk, by have := blk_lt HBX.out; omega⟩) hHeld.bel hHeld.bel.size (by have := HL.out; simp; omega) (fun v1 w9 hr hb9 hg hat => ?_)
        have HR1 := Aside0.mk hr
        have hs9 := hHeld.grown HK.out hg (fun k e => by have h0 := (HR3.out).1 k e; first | exact h0 | exact h0.1) hb9

        have HBX2 := Aside0.mk (Nd_keep HBX.out hg (fun e => (HR3.out.1 b e.symm).2 rfl))
        refine hK.out _ _ hs9 (fun hHeld => ?_)
        clear hK K hr hb9 hg hat hs9 HBX
        have HBX := HBX2
        have HR2 := HR1
        refine PrintLast.norm_ (a' := ?_) ?_ ?_
        rotate_left
        · show Act.put _ (some 11) _ = _
          simp only [Act.put, List.setIfInBounds_toArray, List.set_cons_zero, List.set_cons_succ]
          rfl
        exact PrintLast.norm_ (by simp only [PrintLast.putAll, Act.put, List.setIfInBounds_toArray, List.set_cons_zero, List.set_cons_succ]) (hCont (g0, v1, b) _ ⟨hHeld, HR2.out, HBX.out, HBZ.out⟩)
    · skip
      refine PrintLast.value_ (v := .slice (some ⟨w4.heap.size, 0, none⟩) 1 1) (w1 := w4.alloc (.cells #[.int .i64 id, .int .i64 now] 64)) (by rfl) rfl ?_ ?_
      · go_simp
      have hab : Below w4.heap.size w4 (w4.alloc (.cells #[.int .i64 id, .int .i64 now] 64)) := (Below.refl _ _).alloc (Nat.le_refl _) _
      have HBX := Aside0.mk (heap_alloc_new w4 (.cells #[.int .i64 id, .int .i64 now] 64))
      have HBZ := Aside0.mk hHeld.bel.size
      refine hK.out _ _ (hHeld.below hab) (fun hHeld => ?_)
      clear hK K hab
      refine PrintLast.norm_ (a' := ?_) ?_ ?_
      rotate_left
      · show Act.put _ (some 18) _ = _
        simp only [Act.put, List.setIfInBounds_toArray, List.set_cons_zero, List.set_cons_succ]
        rfl
      generalize w4.heap.size = b at *
      generalize w4.alloc (.cells #[.int .i64 id, .int .i64 now] 64) = w5 at *
      refine PrintLast.one_ (i := 0) (N := some 6) #[true, true, true, true, true, false, true, true, true, true, true, true, true, false, false] rfl rfl (by kernel_rfl) (by decide) (fun K hK => ?_)
      have hbne : b ≠ w5.heap.size := by have := blk_lt HBX.out; omega
      refine PrintLast.value_ (v := .slice (some ⟨w5.heap.size, 0, none⟩) 0 0) (w1 := w5.alloc (.cells #[] 64)) (by rfl) rfl ?_ ?_
      · go_simp
      have hr0 : kI.R 64 (w5.alloc (.cells #[] 64)) w.heap.size (fun k => w.heap.size ≤ k) (.slice (some ⟨w5.heap.size, 0, none⟩) 0 0) [] := ⟨fun k hk => by have := hHeld.bel.size; simp [Value.ownBlock] at hk; omega, [], World.ownsRow_made w5 #[] 0 hHeld.bel.size (by decide) rfl, Reps.none _ _⟩
      have HR0 := Aside0.mk hr0
      clear hr0
      have hab : Below w5.heap.size w5 (w5.alloc (.cells #[] 64)) := (Below.refl _ _).alloc (Nat.le_refl _) _
      have HBX := Aside0.mk (blk_below HBX.out hab)
      refine hK.out _ _ (hHeld.below hab) (fun hHeld => ?_)
      clear hK K hab
      refine PrintLast.norm_ (a' := ?_) ?_ ?_
      rotate_left
      · show Act.put _ (some 6) _ = _
        simp only [Act.put, List.setIfInBounds_toArray, List.set_cons_zero, List.set_cons_succ]
        rfl
      generalize hg0 : w5.heap.size = g0 at *
      generalize w5.alloc (.cells #[] 64) = w6 at *
      have HR3 : Aside0 (kI.R 64 w6 w.heap.size (fun k => w.heap.size ≤ k ∧ k ≠ b) (.slice (some ⟨g0, 0, none⟩) 0 0) []) := ⟨⟨fun k hk => ⟨HR0.out.1 k hk, by simp [Value.ownBlock] at hk; omega⟩, [], (by obtain ⟨_, inner, ho, hr⟩ := HR0.out; have : inner = [] := List.eq_nil_of_length_eq_zero (by simpa using ho.1); subst this; exact ho), Reps.none _ _⟩⟩
      refine PrintLast.one_ (i := 5) (N := some 11) #[true, true, true, true, true, true, true, true, true, true, true, true, true, false, false] rfl rfl (by kernel_rfl) (by decide) (fun K hK => ?_)
      refine Kd.R_append_rows_step kI (w0 := w) w.heap.size (by rfl) (.tmp 6) (.tmp 10) 59 64 (.agg #[.int .i64 0, .int .i64 0]) 16 rfl Try.underlying59 info64 rfl (by decide) (by decide) (.slice (some ⟨g0, 0, none⟩) 0 0) [] L A L.length c (fun k => w.heap.size ≤ k ∧ k ≠ b) (fun _ => False) rfl rfl HR3.out (Kd.R_reads' hHeld.row).2.2 (fun _ _ h => h) (fun _ hk => hk.elim) (fun k hk => ⟨Nat.le_trans hHeld.bel.size hk, by have := blk_lt HBX.out; omega⟩) hHeld.bel hHeld.bel.size (by have := HL.out; simp; omega) (fun v1 w9 hr hb9 hg hat => ?_)
      have HR1 := Aside0.mk hr
      have hs9 := hHeld.grown HK.out hg (fun k e => by have h0 := (HR3.out).1 k e; first | exact h0 | exact h0.1) hb9

      have HBX2 := Aside0.mk (Nd_keep HBX.out hg (fun e => (HR3.out.1 b e.symm).2 rfl))
      refine hK.out _ _ hs9 (fun hHeld => ?_)
      clear hK K hr hb9 hg hat hs9 HBX
      have HBX := HBX2
      have HR2 := HR1
      refine PrintLast.norm_ (a' := ?_) ?_ ?_
      rotate_left
      · show Act.put _ (some 11) _ = _
        simp only [Act.put, List.setIfInBounds_toArray, List.set_cons_zero, List.set_cons_succ]
        rfl
      exact PrintLast.norm_ (by simp only [PrintLast.putAll, Act.put, List.setIfInBounds_toArray, List.set_cons_zero, List.set_cons_succ]) (hCont (g0, v1, b) _ ⟨hHeld, HR2.out, HBX.out, HBZ.out⟩)

  rintro ⟨g0, v1, b⟩ w6 ⟨hHeld, hr1, hbx, hbz⟩
  replace hbx : w6.heap[b]? = some (.cells #[.int .i64 id, .int .i64 now] 64 (0, 0)) := hbx
  replace hr1 : kI.R 64 w6 w.heap.size (fun k => w.heap.size ≤ k ∧ k ≠ b) v1 L := hr1
  refine PrintLast.norm_ (a' := ?_) ?_ ?_
  rotate_left
  · simp only [PrintLast.putAll, Act.put, List.setIfInBounds_toArray, List.set_cons_zero, List.set_cons_succ]
    rfl
  refine PrintLast.last_ (i := 13) (N := some 19) #[true, true, true, true, true, true, true, true, true, true, true, true, true, true, false] rfl rfl (by kernel_rfl) (by decide) (fun K hK => ?_)
  refine Kd.R_append_rows_step kI (w0 := w) w.heap.size (by rfl) (.tmp 11) (.tmp 18) 59 64 (.agg #[.int .i64 0, .int .i64 0]) 16 rfl Try.underlying59 info64 rfl (by decide) (by decide) v1 L [((id, now) : It)] (some ⟨b, 0, none⟩) 1 1 (fun k => w.heap.size ≤ k ∧ k ≠ b) (fun _ => False) rfl rfl hr1 (box_reads hbx) (fun _ _ h => h) (fun _ hk => hk.elim) (fun k hk => ⟨Nat.le_trans hHeld.bel.size hk, by have := blk_lt hbx; omega⟩) hHeld.bel hHeld.bel.size (by have := HL.out; omega) (fun v2 w7 hr hb7 hg hat => ?_)
  have hs7 := hHeld.grown HK.out hg (fun k e => (hr1.1 k e).1) hb7
  obtain ⟨g, c2, rfl, hgw, hrt⟩ := rt_of hr (by simp)
  refine hK.out _ _ ?_
  clear hK K
  refine PrintLast.norm_ (a' := ?_) ?_ ?_
  rotate_left
  · show Act.put _ (some 19) _ = _
    simp only [Act.put, List.setIfInBounds_toArray, List.set_cons_zero, List.set_cons_succ]
    rfl
  refine PrintLast.pure_ (i := 14) (N := some 4) (v := ?_) (a' := ?_) #[true, true, true, true, true, true, true, true, true, true, true, true, true, true, true] rfl rfl (by kernel_rfl) (fun _ _ _ h => h) (Or.inl ⟨by rfl, ?_⟩) ?_ ?_
  rotate_left
  · intro w'
    go_simp
    with_reducible rfl
  rotate_left
  · simp only [Act.put, List.setIfInBounds_toArray, List.set_cons_zero, List.set_cons_succ]
    rfl
  refine PrintLast.done_ (by kernel_rfl) ?_
  have HS7 := Aside0.mk hs7
  have HGW := Aside0.mk hgw
  have hlen : (L ++ [((id, now) : It)]).length = L.length + 1 := by simp
  have HRT := Aside0.mk hrt
  rw [hlen]
  have gl : (L.length : Int) ≤ 100000 := by have := HL.out; omega
  clear hHeld hr1 hbx hbz hs7 hr hb7 hg hat hgw hrt hlen
  go_wp2_with fail
  go_loopw [5] (fun i wr => ∃ (A' B X : List It), i = .int .i64 (A'.length : Int) ∧ A'.length ≤ L.length ∧ Aside0 (Bub L (id, now) A' B X) ∧ Aside0 (X.length = L.length + 1) ∧ Aside0 (Rt wr g c2 X) ∧ Aside0 (RS w K r now S L (.slice A L.length c) wr)) (fun i _ => (intOf i).toNat)
  case atStart => exact ⟨L, [], L ++ [(id, now)], by go_num, Nat.le_refl _, ⟨Bub.start L (id, now)⟩, ⟨by simp⟩, HRT, HS7⟩
  case round =>
    clear HS7 HRT
    obtain ⟨A', B, X, rfl, hAL, HBU, HXL, HRT, HRS⟩ := hrel
    have HE : Aside0 (X = insE (id, now) L → ∀ a, RX w K r now S (insE (id, now) L) ((wr.drewN a).setCell ⟨r, 2, none⟩ (.slice (some ⟨g, 0, none⟩) (L.length + 1) c2))) := ⟨fun hX a => by
      have h1 : Rt (wr.drewN a) g c2 X := HRT.out
      have h2 := RX.list H.out (pw_below_drewN HRS.out.bel a) (h1.row HGW.out)
      rw [HXL.out, hX] at h2
      exact h2⟩
    have hcl := HRS.out.list
    have hfz := HRS.out.rf.frozen 2
    rcases List.eq_nil_or_concat A' with rfl | ⟨A', y, rfl⟩
    · have HE2 := Aside0.mk (HE.out HBU.out.front)
      clear hAL
      go_wp2_with fail
      go_quiet (fail)
      go_wp2_with fail
      refine bodyPost_end (results_none rfl _ _ _) rfl ?_
      exact ⟨rfl, HE2.out _⟩
    · rw [List.concat_eq_append] at *
      have hm : (A' ++ [y]).length = A'.length + 1 := by rw [List.length_append]; rfl
      rw [hm] at hAL ⊢
      obtain ⟨m, hm2⟩ : ∃ m, A'.length = m := ⟨_, rfl⟩
      have HM := Aside0.mk hm2
      rw [hm2] at hAL ⊢
      have hmx : X[m + 1]'(by have := HXL.out; omega) = (id, now) := by
        have := HBU.out.list
        subst this
        subst hm2
        simp
      have hmy : X[m]'(by have := HXL.out; omega) = y := by
        have := HBU.out.list
        subst this
        subst hm2
        simp
      have hx2 := HRT.out.cell (m + 1) (by have := HXL.out; omega)
      have hy2 := HRT.out.cell m (by have := HXL.out; omega)
      rw [hmx] at hx2
      rw [hmy] at hy2
      obtain ⟨x0, x1⟩ := hx2
      obtain ⟨y0, y1⟩ := hy2
      have hx0 : wr.cell? ⟨g, (m + 1) * 2, none⟩ = some (.int .i64 id) := x0
      have hx1 : wr.cell? ⟨g, (m + 1) * 2 + 1, none⟩ = some (.int .i64 now) := x1
      clear x0 x1
      obtain ⟨y1', y2'⟩ := y
      have hy0 : wr.cell? ⟨g, m * 2, none⟩ = some (.int .i64 y1') := y0
      have hy1 : wr.cell? ⟨g, m * 2 + 1, none⟩ = some (.int .i64 y2') := y1
      clear y0 y1
      have gm : (m : Int) + 1 ≤ 100000 := by omega
      have gm2 : (0 : Int) < (m : Int) + 1 := by omega
      have gt1 : ((m : Int) + 1).toNat = m + 1 := by omega
      have gt0 : (0 : Int) ≤ (m : Int) + 1 := by omega
      have gt2 : (m : Int) + 1 < ((L.length + 1 : Nat) : Int) := by omega
      have gm4 : (m : Int) + 1 < (L.length : Int) + 1 := by omega
      have gm3 : (m : Int) < (L.length : Int) := by omega
      have gt4 : (m : Int) < (L.length : Int) + 1 := by omega
      have gt5 : IntKind.i64.wrap (m : Int) = (m : Int) := by rw [PrintLast.i64_w]; unfold wrap64; omega
      have gt3 : IntKind.i64.wrap ((m : Int) + 1 - 1) = (m : Int) := by rw [PrintLast.i64_w]; unfold wrap64; omega
      have HXX := Aside0.mk hmx
      have HXY := Aside0.mk hmy
      clear hmx hmy hm hm2
      by_cases ha : now < y2'
      · have HLS : Aside0 (lessV (id, now) (y1', y2') = true) := ⟨(less_iff _ _ _ _).2 (.inl ha)⟩
        go_wp2_with fail
        go_quiet (fail)
        have HBU2 := Aside0.mk (HBU.out.step HLS.out)
        rw [HM.out] at HBU2
        have hx : (X.set m (id, now)).length = L.length + 1 := by rw [List.length_set]; exact HXL.out
        have HX2 : Aside0 (∀ a, Rt (((wr.drewN a).drew.setCells g (m * 2) [.int .i64 id, .int .i64 now]).setCells g ((m + 1) * 2) [.int .i64 y1', .int .i64 y2']) g c2 ((X.set m (id, now)).set (m + 1) (y1', y2'))) := ⟨fun a => by
          have h1 : Rt (wr.drewN a).drew g c2 X := HRT.out
          exact (h1.put m (by have := HXL.out; omega) (id, now)).put (m + 1) (by omega) (y1', y2')⟩
        have HS2 : Aside0 (∀ a, RS w K r now S L (.slice A L.length c) (((wr.drewN a).drew.setCells g (m * 2) [.int .i64 id, .int .i64 now]).setCells g ((m + 1) * 2) [.int .i64 y1', .int .i64 y2'])) := ⟨fun a => by
          have h1 : RS w K r now S L (.slice A L.length c) (wr.drewN a).drew := HRS.out.below (below_drew (pw_below_drewN (Below.refl _ _) a))
          obtain ⟨p1, p2, p3, p4⟩ := setCells_same g [.int .i64 id, .int .i64 now] (m * 2) (wr.drewN a).drew
          obtain ⟨q1, q2, q3, q4⟩ := setCells_same g [.int .i64 y1', .int .i64 y2'] ((m + 1) * 2) ((wr.drewN a).drew.setCells g (m * 2) [.int .i64 id, .int .i64 now])
          refine h1.step (fun k hk hlt => ?_) ⟨(q1.trans p1).trans h1.bel.os, (q2.trans p2).trans h1.bel.tape, (q3.trans p3).trans h1.bel.output, by rw [q4, p4]; exact h1.bel.size, fun k hk => ?_⟩
          · have h2 := HK.out k hk
            have h3 := HGW.out
            rw [setCells_far _ _ _ (by omega), setCells_far _ _ _ (by omega)]
          · have h3 := HGW.out
            rw [setCells_far _ _ _ (by omega), setCells_far _ _ _ (by omega)]
            exact h1.bel.block k hk⟩
        have HRX : Aside0 (∀ a, (wr.drewN a).drew.rangeAt g ((m + 1) * 2) [.int .i64 id, .int .i64 now] ∧ (wr.drewN a).drew.rangeAt g (m * 2) [.int .i64 y1', .int .i64 y2']) := ⟨fun a => ⟨fun q v hq => by
          match q, hq with
          | 0, hq => exact hx0.trans hq
          | 1, hq => exact hx1.trans hq, fun q v hq => by
          match q, hq with
          | 0, hq => exact hy0.trans hq
          | 1, hq => exact hy1.trans hq⟩⟩
        have HTH : Aside0 (∀ a, (wr.drewN a).drew.there g ((m + 1) * 2) 2 ∧ (wr.drewN a).drew.there g (m * 2) 2) := ⟨fun a => ⟨fun q hq => ⟨((HRX.out a).1).isSome q (by simpa using hq), HRT.out.frozen _⟩, fun q hq => ⟨((HRX.out a).2).isSome q (by simpa using hq), HRT.out.frozen _⟩⟩⟩
        clear hx
        go_upto_region 4 with fail
        refine PrintLast.start_ (n := 18) (S := fun w' => w'.rangeAt g ((m + 1) * 2) [.int .i64 id, .int .i64 now] ∧ w'.rangeAt g (m * 2) [.int .i64 y1', .int .i64 y2']) (ds := [15, 17]) #[false, false, false, false, false, false, false, false, false, false, false, false, false, false, false, false, false, false] (by kernel_rfl) rfl rfl (HRX.out _) (fun hHeld => ?_)
        refine PrintLast.pure_ (i := 0) (N := some 69) (v := ?_) (a' := ?_) #[true, false, false, false, false, false, false, false, false, false, false, false, false, false, false, false, false, false] rfl rfl (by kernel_rfl) (fun _ _ _ h => h) (Or.inl ⟨by rfl, ?_⟩) ?_ ?_
        rotate_left
        · intro w'
          go_simp
          with_reducible rfl
        rotate_left
        · simp only [Act.put, List.setIfInBounds_toArray, List.set_cons_zero, List.set_cons_succ]
          rfl
        refine PrintLast.pure_ (i := 1) (N := some 70) (v := ?_) (a' := ?_) #[true, true, false, false, false, false, false, false, false, false, false, false, false, false, false, false, false, false] rfl rfl (by kernel_rfl) (fun _ _ _ h => h) (Or.inl ⟨by rfl, ?_⟩) ?_ ?_
        rotate_left
        · intro w'
          go_simp
          with_reducible rfl
        rotate_left
        · simp only [Act.put, List.setIfInBounds_toArray, List.set_cons_zero, List.set_cons_succ]
          rfl
        refine PrintLast.pure_ (i := 2) (N := some 71) (v := ?_) (a' := ?_) #[true, true, true, false, false, false, false, false, false, false, false, false, false, false, false, false, false, false] rfl rfl (by kernel_rfl) (fun _ _ _ h => h) (Or.inl ⟨by rfl, ?_⟩) ?_ ?_
        rotate_left
        · intro w'
          go_simp
          with_reducible rfl
        rotate_left
        · simp only [Act.put, List.setIfInBounds_toArray, List.set_cons_zero, List.set_cons_succ]
          rfl
        refine PrintLast.pure_ (i := 3) (N := some 72) (v := ?_) (a' := ?_) #[true, true, true, true, false, false, false, false, false, false, false, false, false, false, false, false, false, false] rfl rfl (by kernel_rfl) (fun _ _ _ h => h) (Or.inl ⟨by rfl, ?_⟩) ?_ ?_
        rotate_left
        · intro w'
          go_simp
          with_reducible rfl
        rotate_left
        · simp only [Act.put, List.setIfInBounds_toArray, List.set_cons_zero, List.set_cons_succ]
          rfl
        refine PrintLast.pure_ (i := 4) (N := some 73) (v := ?_) (a' := ?_) #[true, true, true, true, true, false, false, false, false, false, false, false, false, false, false, false, false, false] rfl rfl (by kernel_rfl) (fun _ _ _ h => h) (Or.inl ⟨by rfl, ?_⟩) ?_ ?_
        rotate_left
        · intro w'
          go_simp
          with_reducible rfl
        rotate_left
        · simp only [Act.put, List.setIfInBounds_toArray, List.set_cons_zero, List.set_cons_succ]
          rfl
        refine PrintLast.pure_ (i := 5) (N := some 74) (v := ?_) (a' := ?_) #[true, true, true, true, true, true, false, false, false, false, false, false, false, false, false, false, false, false] rfl rfl (by kernel_rfl) (fun _ _ _ h => h) (Or.inl ⟨by rfl, ?_⟩) ?_ ?_
        rotate_left
        · intro w'
          go_simp
          with_reducible rfl
        rotate_left
        · simp only [Act.put, List.setIfInBounds_toArray, List.set_cons_zero, List.set_cons_succ]
          rfl
        refine PrintLast.pure_ (i := 6) (N := some 75) (v := ?_) (a' := ?_) #[true, true, true, true, true, true, true, false, false, false, false, false, false, false, false, false, false, false] rfl rfl (by kernel_rfl) (fun _ _ _ h => h) (Or.inl ⟨by rfl, ?_⟩) ?_ ?_
        rotate_left
        · intro w'
          go_simp
          with_reducible rfl
        rotate_left
        · simp only [Act.put, List.setIfInBounds_toArray, List.set_cons_zero, List.set_cons_succ]
          rfl
        refine PrintLast.pure_ (i := 7) (N := some 76) (v := ?_) (a' := ?_) #[true, true, true, true, true, true, true, true, false, false, false, false, false, false, false, false, false, false] rfl rfl (by kernel_rfl) (fun _ _ _ h => h) (Or.inl ⟨by rfl, ?_⟩) ?_ ?_
        rotate_left
        · intro w'
          go_simp
          with_reducible rfl
        rotate_left
        · simp only [Act.put, List.setIfInBounds_toArray, List.set_cons_zero, List.set_cons_succ]
          rfl
        refine PrintLast.take_ (i := 8) (N := some 77) (v := .agg (List.toArray [.int .i64 id, .int .i64 now])) (a' := ?_) #[true, true, true, true, true, true, true, true, true, false, false, false, false, false, false, false, false, false] rfl rfl (by kernel_rfl) (fun _ _ _ h => h) (yieldsIf_load_mid (by rfl) 64 (.tmp 76) rfl g ((m + 1) * 2) rfl [.int .i64 id, .int .i64 now] _ (fun w hS => hS.1) Try.underlying64 rfl size64) hHeld ?_ ?_
        rotate_left
        · simp only [Act.put, List.setIfInBounds_toArray, List.set_cons_zero, List.set_cons_succ]
          rfl
        refine PrintLast.pure_ (i := 9) (N := some 78) (v := ?_) (a' := ?_) #[true, true, true, true, true, true, true, true, true, true, false, false, false, false, false, false, false, false] rfl rfl (by kernel_rfl) (fun _ _ _ h => h) (Or.inl ⟨by rfl, ?_⟩) ?_ ?_
        rotate_left
        · intro w'
          go_simp
          with_reducible rfl
        rotate_left
        · simp only [Act.put, List.setIfInBounds_toArray, List.set_cons_zero, List.set_cons_succ]
          rfl
        refine PrintLast.pure_ (i := 10) (N := some 79) (v := ?_) (a' := ?_) #[true, true, true, true, true, true, true, true, true, true, true, false, false, false, false, false, false, false] rfl rfl (by kernel_rfl) (fun _ _ _ h => h) (Or.inl ⟨by rfl, ?_⟩) ?_ ?_
        rotate_left
        · intro w'
          go_simp
          with_reducible rfl
        rotate_left
        · simp only [Act.put, List.setIfInBounds_toArray, List.set_cons_zero, List.set_cons_succ]
          rfl
        refine PrintLast.pure_ (i := 11) (N := some 80) (v := ?_) (a' := ?_) #[true, true, true, true, true, true, true, true, true, true, true, true, false, false, false, false, false, false] rfl rfl (by kernel_rfl) (fun _ _ _ h => h) (Or.inl ⟨by rfl, ?_⟩) ?_ ?_
        rotate_left
        · intro w'
          go_simp
          with_reducible rfl
        rotate_left
        · simp only [Act.put, List.setIfInBounds_toArray, List.set_cons_zero, List.set_cons_succ]
          rfl
        refine PrintLast.pure_ (i := 12) (N := some 81) (v := ?_) (a' := ?_) #[true, true, true, true, true, true, true, true, true, true, true, true, true, false, false, false, false, false] rfl rfl (by kernel_rfl) (fun _ _ _ h => h) (Or.inl ⟨by rfl, ?_⟩) ?_ ?_
        rotate_left
        · intro w'
          go_simp
          with_reducible rfl
        rotate_left
        · simp only [Act.put, List.setIfInBounds_toArray, List.set_cons_zero, List.set_cons_succ]
          rfl
        refine PrintLast.take_ (i := 13) (N := some 82) (v := .agg (List.toArray [.int .i64 y1', .int .i64 y2'])) (a' := ?_) #[true, true, true, true, true, true, true, true, true, true, true, true, true, true, false, false, false, false] rfl rfl (by kernel_rfl) (fun _ _ _ h => h) (yieldsIf_load_mid (by rfl) 64 (.tmp 81) rfl g (m * 2) rfl [.int .i64 y1', .int .i64 y2'] _ (fun w hS => hS.2) Try.underlying64 rfl size64) hHeld ?_ ?_
        rotate_left
        · simp only [Act.put, List.setIfInBounds_toArray, List.set_cons_zero, List.set_cons_succ]
          rfl
        refine PrintLast.pure_ (i := 14) (N := some 83) (v := ?_) (a' := ?_) #[true, true, true, true, true, true, true, true, true, true, true, true, true, true, true, false, false, false] rfl rfl (by kernel_rfl) (fun _ _ _ h => h) (Or.inl ⟨by rfl, ?_⟩) ?_ ?_
        rotate_left
        · intro w'
          go_simp
          with_reducible rfl
        rotate_left
        · simp only [Act.put, List.setIfInBounds_toArray, List.set_cons_zero, List.set_cons_succ]
          rfl
        refine PrintLast.last_ (i := 15) (N := none) #[true, true, true, true, true, true, true, true, true, true, true, true, true, true, true, true, false, false] rfl rfl (by kernel_rfl) (by decide) (fun K hK => ?_)
        rw [if_pos (by rfl)]
        refine wp_store_mid 64 _ _ rfl g (m * 2) (List.toArray [.int .i64 id, .int .i64 now]) rfl rfl ((HTH.out _).2) size64 (all_oneCell_toArray (fun v hv => by simp at hv; rcases hv with rfl | rfl <;> rfl)) ?_
        refine hK.out _ _ ?_
        clear hK K
        refine PrintLast.pure_ (i := 16) (N := some 84) (v := ?_) (a' := ?_) #[true, true, true, true, true, true, true, true, true, true, true, true, true, true, true, true, true, false] rfl rfl (by kernel_rfl) (fun _ _ _ h => h) (Or.inl ⟨by rfl, ?_⟩) ?_ ?_
        rotate_left
        · intro w'
          go_simp
          with_reducible rfl
        rotate_left
        · simp only [Act.put, List.setIfInBounds_toArray, List.set_cons_zero, List.set_cons_succ]
          rfl
        refine PrintLast.last_ (i := 17) (N := none) #[true, true, true, true, true, true, true, true, true, true, true, true, true, true, true, true, true, true] rfl rfl (by kernel_rfl) (by decide) (fun K hK => ?_)
        rw [if_pos (by rfl)]
        refine wp_store_mid 64 _ _ rfl g ((m + 1) * 2) (List.toArray [.int .i64 y1', .int .i64 y2']) rfl rfl (World.there_setCells (HTH.out _).1 g (m * 2) [.int .i64 id, .int .i64 now]) size64 (all_oneCell_toArray (fun v hv => by simp at hv; rcases hv with rfl | rfl <;> rfl)) ?_
        refine hK.out _ _ ?_
        clear hK K
        refine PrintLast.done_ (by kernel_rfl) ?_
        go_wp2_with fail
        go_roundw
        case rel => exact ⟨A', (y1', y2') :: B, _, by rw [HM.out], by have := HM.out; omega, HBU2, ⟨by simp only [List.length_set]; exact HXL.out⟩, ⟨HX2.out _⟩, ⟨HS2.out _⟩⟩
        case measure => first | (simp [intOf]; done) | (simp [intOf]; omega)
      · have hyb : (y2' == now) = decide (y2' = now) := by by_cases e : y2' = now <;> simp [e]
        by_cases hb : y2' = now
        · subst hb
          clear hyb
          by_cases hc : id < y1'
          · have HLS : Aside0 (lessV (id, y2') (y1', y2') = true) := ⟨(less_iff _ _ _ _).2 (.inr ⟨rfl, hc⟩)⟩
            go_wp2_with fail
            go_quiet (fail)
            have HBU2 := Aside0.mk (HBU.out.step HLS.out)
            rw [HM.out] at HBU2
            have hx : (X.set m (id, y2')).length = L.length + 1 := by rw [List.length_set]; exact HXL.out
            have HX2 : Aside0 (∀ a, Rt (((wr.drewN a).drew.setCells g (m * 2) [.int .i64 id, .int .i64 y2']).setCells g ((m + 1) * 2) [.int .i64 y1', .int .i64 y2']) g c2 ((X.set m (id, y2')).set (m + 1) (y1', y2'))) := ⟨fun a => by
              have h1 : Rt (wr.drewN a).drew g c2 X := HRT.out
              exact (h1.put m (by have := HXL.out; omega) (id, y2')).put (m + 1) (by omega) (y1', y2')⟩
            have HS2 : Aside0 (∀ a, RS w K r y2' S L (.slice A L.length c) (((wr.drewN a).drew.setCells g (m * 2) [.int .i64 id, .int .i64 y2']).setCells g ((m + 1) * 2) [.int .i64 y1', .int .i64 y2'])) := ⟨fun a => by
              have h1 : RS w K r y2' S L (.slice A L.length c) (wr.drewN a).drew := HRS.out.below (below_drew (pw_below_drewN (Below.refl _ _) a))
              obtain ⟨p1, p2, p3, p4⟩ := setCells_same g [.int .i64 id, .int .i64 y2'] (m * 2) (wr.drewN a).drew
              obtain ⟨q1, q2, q3, q4⟩ := setCells_same g [.int .i64 y1', .int .i64 y2'] ((m + 1) * 2) ((wr.drewN a).drew.setCells g (m * 2) [.int .i64 id, .int .i64 y2'])
              refine h1.step (fun k hk hlt => ?_) ⟨(q1.trans p1).trans h1.bel.os, (q2.trans p2).trans h1.bel.tape, (q3.trans p3).trans h1.bel.output, by rw [q4, p4]; exact h1.bel.size, fun k hk => ?_⟩
              · have h2 := HK.out k hk
                have h3 := HGW.out
                rw [setCells_far _ _ _ (by omega), setCells_far _ _ _ (by omega)]
              · have h3 := HGW.out
                rw [setCells_far _ _ _ (by omega), setCells_far _ _ _ (by omega)]
                exact h1.bel.block k hk⟩
            have HRX : Aside0 (∀ a, (wr.drewN a).drew.rangeAt g ((m + 1) * 2) [.int .i64 id, .int .i64 y2'] ∧ (wr.drewN a).drew.rangeAt g (m * 2) [.int .i64 y1', .int .i64 y2']) := ⟨fun a => ⟨fun q v hq => by
              match q, hq with
              | 0, hq => exact hx0.trans hq
              | 1, hq => exact hx1.trans hq, fun q v hq => by
              match q, hq with
              | 0, hq => exact hy0.trans hq
              | 1, hq => exact hy1.trans hq⟩⟩
            have HTH : Aside0 (∀ a, (wr.drewN a).drew.there g ((m + 1) * 2) 2 ∧ (wr.drewN a).drew.there g (m * 2) 2) := ⟨fun a => ⟨fun q hq => ⟨((HRX.out a).1).isSome q (by simpa using hq), HRT.out.frozen _⟩, fun q hq => ⟨((HRX.out a).2).isSome q (by simpa using hq), HRT.out.frozen _⟩⟩⟩
            clear hx
            go_upto_region 4 with fail
            refine PrintLast.start_ (n := 18) (S := fun w' => w'.rangeAt g ((m + 1) * 2) [.int .i64 id, .int .i64 y2'] ∧ w'.rangeAt g (m * 2) [.int .i64 y1', .int .i64 y2']) (ds := [15, 17]) #[false, false, false, false, false, false, false, false, false, false, false, false, false, false, false, false, false, false] (by kernel_rfl) rfl rfl (HRX.out _) (fun hHeld => ?_)
            refine PrintLast.pure_ (i := 0) (N := some 69) (v := ?_) (a' := ?_) #[true, false, false, false, false, false, false, false, false, false, false, false, false, false, false, false, false, false] rfl rfl (by kernel_rfl) (fun _ _ _ h => h) (Or.inl ⟨by rfl, ?_⟩) ?_ ?_
            rotate_left
            · intro w'
              go_simp
              with_reducible rfl
            rotate_left
            · simp only [Act.put, List.setIfInBounds_toArray, List.set_cons_zero, List.set_cons_succ]
              rfl
            refine PrintLast.pure_ (i := 1) (N := some 70) (v := ?_) (a' := ?_) #[true, true, false, false, false, false, false, false, false, false, false, false, false, false, false, false, false, false] rfl rfl (by kernel_rfl) (fun _ _ _ h => h) (Or.inl ⟨by rfl, ?_⟩) ?_ ?_
            rotate_left
            · intro w'
              go_simp
              with_reducible rfl
            rotate_left
            · simp only [Act.put, List.setIfInBounds_toArray, List.set_cons_zero, List.set_cons_succ]
              rfl
            refine PrintLast.pure_ (i := 2) (N := some 71) (v := ?_) (a' := ?_) #[true, true, true, false, false, false, false, false, false, false, false, false, false, false, false, false, false, false] rfl rfl (by kernel_rfl) (fun _ _ _ h => h) (Or.inl ⟨by rfl, ?_⟩) ?_ ?_
            rotate_left
            · intro w'
              go_simp
              with_reducible rfl
            rotate_left
            · simp only [Act.put, List.setIfInBounds_toArray, List.set_cons_zero, List.set_cons_succ]
              rfl
            refine PrintLast.pure_ (i := 3) (N := some 72) (v := ?_) (a' := ?_) #[true, true, true, true, false, false, false, false, false, false, false, false, false, false, false, false, false, false] rfl rfl (by kernel_rfl) (fun _ _ _ h => h) (Or.inl ⟨by rfl, ?_⟩) ?_ ?_
            rotate_left
            · intro w'
              go_simp
              with_reducible rfl
            rotate_left
            · simp only [Act.put, List.setIfInBounds_toArray, List.set_cons_zero, List.set_cons_succ]
              rfl
            refine PrintLast.pure_ (i := 4) (N := some 73) (v := ?_) (a' := ?_) #[true, true, true, true, true, false, false, false, false, false, false, false, false, false, false, false, false, false] rfl rfl (by kernel_rfl) (fun _ _ _ h => h) (Or.inl ⟨by rfl, ?_⟩) ?_ ?_
            rotate_left
            · intro w'
              go_simp
              with_reducible rfl
            rotate_left
            · simp only [Act.put, List.setIfInBounds_toArray, List.set_cons_zero, List.set_cons_succ]
              rfl
            refine PrintLast.pure_ (i := 5) (N := some 74) (v := ?_) (a' := ?_) #[true, true, true, true, true, true, false, false, false, false, false, false, false, false, false, false, false, false] rfl rfl (by kernel_rfl) (fun _ _ _ h => h) (Or.inl ⟨by rfl, ?_⟩) ?_ ?_
            rotate_left
            · intro w'
              go_simp
              with_reducible rfl
            rotate_left
            · simp only [Act.put, List.setIfInBounds_toArray, List.set_cons_zero, List.set_cons_succ]
              rfl
            refine PrintLast.pure_ (i := 6) (N := some 75) (v := ?_) (a' := ?_) #[true, true, true, true, true, true, true, false, false, false, false, false, false, false, false, false, false, false] rfl rfl (by kernel_rfl) (fun _ _ _ h => h) (Or.inl ⟨by rfl, ?_⟩) ?_ ?_
            rotate_left
            · intro w'
              go_simp
              with_reducible rfl
            rotate_left
            · simp only [Act.put, List.setIfInBounds_toArray, List.set_cons_zero, List.set_cons_succ]
              rfl
            refine PrintLast.pure_ (i := 7) (N := some 76) (v := ?_) (a' := ?_) #[true, true, true, true, true, true, true, true, false, false, false, false, false, false, false, false, false, false] rfl rfl (by kernel_rfl) (fun _ _ _ h => h) (Or.inl ⟨by rfl, ?_⟩) ?_ ?_
            rotate_left
            · intro w'
              go_simp
              with_reducible rfl
            rotate_left
            · simp only [Act.put, List.setIfInBounds_toArray, List.set_cons_zero, List.set_cons_succ]
              rfl
            refine PrintLast.take_ (i := 8) (N := some 77) (v := .agg (List.toArray [.int .i64 id, .int .i64 y2'])) (a' := ?_) #[true, true, true, true, true, true, true, true, true, false, false, false, false, false, false, false, false, false] rfl rfl (by kernel_rfl) (fun _ _ _ h => h) (yieldsIf_load_mid (by rfl) 64 (.tmp 76) rfl g ((m + 1) * 2) rfl [.int .i64 id, .int .i64 y2'] _ (fun w hS => hS.1) Try.underlying64 rfl size64) hHeld ?_ ?_
            rotate_left
            · simp only [Act.put, List.setIfInBounds_toArray, List.set_cons_zero, List.set_cons_succ]
              rfl
            refine PrintLast.pure_ (i := 9) (N := some 78) (v := ?_) (a' := ?_) #[true, true, true, true, true, true, true, true, true, true, false, false, false, false, false, false, false, false] rfl rfl (by kernel_rfl) (fun _ _ _ h => h) (Or.inl ⟨by rfl, ?_⟩) ?_ ?_
            rotate_left
            · intro w'
              go_simp
              with_reducible rfl
            rotate_left
            · simp only [Act.put, List.setIfInBounds_toArray, List.set_cons_zero, List.set_cons_succ]
              rfl
            refine PrintLast.pure_ (i := 10) (N := some 79) (v := ?_) (a' := ?_) #[true, true, true, true, true, true, true, true, true, true, true, false, false, false, false, false, false, false] rfl rfl (by kernel_rfl) (fun _ _ _ h => h) (Or.inl ⟨by rfl, ?_⟩) ?_ ?_
            rotate_left
            · intro w'
              go_simp
              with_reducible rfl
            rotate_left
            · simp only [Act.put, List.setIfInBounds_toArray, List.set_cons_zero, List.set_cons_succ]
              rfl
            refine PrintLast.pure_ (i := 11) (N := some 80) (v := ?_) (a' := ?_) #[true, true, true, true, true, true, true, true, true, true, true, true, false, false, false, false, false, false] rfl rfl (by kernel_rfl) (fun _ _ _ h => h) (Or.inl ⟨by rfl, ?_⟩) ?_ ?_
            rotate_left
            · intro w'
              go_simp
              with_reducible rfl
            rotate_left
            · simp only [Act.put, List.setIfInBounds_toArray, List.set_cons_zero, List.set_cons_succ]
              rfl
            refine PrintLast.pure_ (i := 12) (N := some 81) (v := ?_) (a' := ?_) #[true, true, true, true, true, true, true, true, true, true, true, true, true, false, false, false, false, false] rfl rfl (by kernel_rfl) (fun _ _ _ h => h) (Or.inl ⟨by rfl, ?_⟩) ?_ ?_
            rotate_left
            · intro w'
              go_simp
              with_reducible rfl
            rotate_left
            · simp only [Act.put, List.setIfInBounds_toArray, List.set_cons_zero, List.set_cons_succ]
              rfl
            refine PrintLast.take_ (i := 13) (N := some 82) (v := .agg (List.toArray [.int .i64 y1', .int .i64 y2'])) (a' := ?_) #[true, true, true, true, true, true, true, true, true, true, true, true, true, true, false, false, false, false] rfl rfl (by kernel_rfl) (fun _ _ _ h => h) (yieldsIf_load_mid (by rfl) 64 (.tmp 81) rfl g (m * 2) rfl [.int .i64 y1', .int .i64 y2'] _ (fun w hS => hS.2) Try.underlying64 rfl size64) hHeld ?_ ?_
            rotate_left
            · simp only [Act.put, List.setIfInBounds_toArray, List.set_cons_zero, List.set_cons_succ]
              rfl
            refine PrintLast.pure_ (i := 14) (N := some 83) (v := ?_) (a' := ?_) #[true, true, true, true, true, true, true, true, true, true, true, true, true, true, true, false, false, false] rfl rfl (by kernel_rfl) (fun _ _ _ h => h) (Or.inl ⟨by rfl, ?_⟩) ?_ ?_
            rotate_left
            · intro w'
              go_simp
              with_reducible rfl
            rotate_left
            · simp only [Act.put, List.setIfInBounds_toArray, List.set_cons_zero, List.set_cons_succ]
              rfl
            refine PrintLast.last_ (i := 15) (N := none) #[true, true, true, true, true, true, true, true, true, true, true, true, true, true, true, true, false, false] rfl rfl (by kernel_rfl) (by decide) (fun K hK => ?_)
            rw [if_pos (by rfl)]
            refine wp_store_mid 64 _ _ rfl g (m * 2) (List.toArray [.int .i64 id, .int .i64 y2']) rfl rfl ((HTH.out _).2) size64 (all_oneCell_toArray (fun v hv => by simp at hv; rcases hv with rfl | rfl <;> rfl)) ?_
            refine hK.out _ _ ?_
            clear hK K
            refine PrintLast.pure_ (i := 16) (N := some 84) (v := ?_) (a' := ?_) #[true, true, true, true, true, true, true, true, true, true, true, true, true, true, true, true, true, false] rfl rfl (by kernel_rfl) (fun _ _ _ h => h) (Or.inl ⟨by rfl, ?_⟩) ?_ ?_
            rotate_left
            · intro w'
              go_simp
              with_reducible rfl
            rotate_left
            · simp only [Act.put, List.setIfInBounds_toArray, List.set_cons_zero, List.set_cons_succ]
              rfl
            refine PrintLast.last_ (i := 17) (N := none) #[true, true, true, true, true, true, true, true, true, true, true, true, true, true, true, true, true, true] rfl rfl (by kernel_rfl) (by decide) (fun K hK => ?_)
            rw [if_pos (by rfl)]
            refine wp_store_mid 64 _ _ rfl g ((m + 1) * 2) (List.toArray [.int .i64 y1', .int .i64 y2']) rfl rfl (World.there_setCells (HTH.out _).1 g (m * 2) [.int .i64 id, .int .i64 y2']) size64 (all_oneCell_toArray (fun v hv => by simp at hv; rcases hv with rfl | rfl <;> rfl)) ?_
            refine hK.out _ _ ?_
            clear hK K
            refine PrintLast.done_ (by kernel_rfl) ?_
            go_wp2_with fail
            go_roundw
            case rel => exact ⟨A', (y1', y2') :: B, _, by rw [HM.out], by have := HM.out; omega, HBU2, ⟨by simp only [List.length_set]; exact HXL.out⟩, ⟨HX2.out _⟩, ⟨HS2.out _⟩⟩
            case measure => first | (simp [intOf]; done) | (simp [intOf]; omega)
          · have HLS : Aside0 (lessV (id, y2') (y1', y2') = false) := ⟨by
              cases h : lessV (id, y2') (y1', y2') with
              | false => rfl
              | true => rcases (less_iff _ _ _ _).1 h with h | h; exact absurd h ha; exact absurd h.2 hc⟩
            have HE2 := Aside0.mk (HE.out (HBU.out.stop HLS.out))
            go_wp2_with fail
            go_quiet (fail)
            have hdc : decide (id < y1') = false := decide_eq_false (by omega)
            clear ha gm gm2 gm3 gm4 gt0 gt1 gt2 gt3 gt4 gt5 gl hx0 hx1 hy0 hy1 hc
            try simp only [hdc]
            go_wp2_with fail
            refine bodyPost_end (results_none rfl _ _ _) rfl ?_
            exact ⟨rfl, HE2.out _⟩
        · have HLS : Aside0 (lessV (id, now) (y1', y2') = false) := ⟨by
            cases h : lessV (id, now) (y1', y2') with
            | false => rfl
            | true => rcases (less_iff _ _ _ _).1 h with h | h; exact absurd h ha; exact absurd h.1.symm hb⟩
          have HE2 := Aside0.mk (HE.out (HBU.out.stop HLS.out))
          clear hyb
          go_wp2_with fail
          go_quiet (fail)
          have hdc : decide (now < y2') = false := decide_eq_false (by omega)
          clear ha gm gm2 gm3 gm4 gt0 gt1 gt2 gt3 gt4 gt5 gl hx0 hx1 hy0 hy1
          try simp only [hdc]
          go_wp2_with fail
          refine bodyPost_end (results_none rfl _ _ _) rfl ?_
          exact ⟨rfl, HE2.out _⟩
end Go.Proofs.Ytpfeelcdbnldfaa
