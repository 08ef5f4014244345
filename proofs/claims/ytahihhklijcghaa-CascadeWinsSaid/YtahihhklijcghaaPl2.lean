/-
  Less and Swap of the pile.
-/
import Derived.Test.YtahihhklijcghaaPile
import Derived.Deep.MidRow
import Derived.Test.YtahihhklijcghaaWLast
namespace Go.Proofs.Ytahihhklijcghaa
open Go.RowKit Go.Proofs.YtahihhklijcghaaW Go.Proofs.YtahihhklijcghaaW.PrintWords PCascadeSorts
set_option linter.unusedVariables false
set_option linter.unusedSimpArgs false
/-- An item's nine cells. -/
def Nine (W : World) (g o : Nat) (x : It) : Prop :=
  W.cell? ⟨g, o, none⟩ = some (.string x.f0.f0) ∧ W.cell? ⟨g, o + 1, none⟩ = some (.string x.f0.f1) ∧ W.cell? ⟨g, o + 2, none⟩ = some (.int .i64 x.f0.f2) ∧ W.cell? ⟨g, o + 3, none⟩ = some (.bool x.f0.f3) ∧ W.cell? ⟨g, o + 4, none⟩ = some (.int .i64 x.f0.f4.f0) ∧ W.cell? ⟨g, o + 5, none⟩ = some (.int .i64 x.f0.f4.f1) ∧ W.cell? ⟨g, o + 6, none⟩ = some (.int .i64 x.f0.f4.f2) ∧ W.cell? ⟨g, o + 7, none⟩ = some (.int .i64 x.f0.f5) ∧ W.cell? ⟨g, o + 8, none⟩ = some (.int .i64 x.f1)
theorem Row.nine {W : World} {g c : Nat} {L : List It} (h : Row W g c L) (j : Nat) (hj : j < L.length) : Nine W g (j * 9) L[j] :=
  ⟨h.cell j hj 0 (by decide), h.cell j hj 1 (by decide), h.cell j hj 2 (by decide), h.cell j hj 3 (by decide), h.cell j hj 4 (by decide), h.cell j hj 5 (by decide), h.cell j hj 6 (by decide), h.cell j hj 7 (by decide), h.cell j hj 8 (by decide)⟩
set_option maxHeartbeats 1000000 in
set_option maxRecDepth 100000 in
theorem pless_c {W : World} {g c : Nat} {L : List It} (h : Row W g c L) (i j : Nat) (hi : i < L.length) (hj : j < L.length) :
    Calls Try.prog 78 #[.slice (some ⟨g, 0, none⟩) L.length c, .int .i64 i, .int .i64 j] W fun e w' => e = .returned (.bool (lessV L[i] L[j])) ∧ Below W.heap.size W w' := by
  have HN := fun (W' : World) (hb : Below W.heap.size W W') => And.intro ((h.fr (Fr.of_below hb (fun _ => False)) (fun h => h)).nine i hi) ((h.fr (Fr.of_below hb (fun _ => False)) (fun h => h)).nine j hj)
  have HN := Aside0.mk HN
  have HC := fun w => Aside0.mk (less_c L[i].f0 L[j].f0 w)
  have HC2 := fun w => Aside0.mk (less_c L[j].f0 L[i].f0 w)
  have HL : Aside0 (lessV L[i] L[j] = (lessS L[i].f0 L[j].f0 || (decide (L[i].f1 < L[j].f1) && !lessS L[j].f0 L[i].f0))) := ⟨rfl⟩
  rw [HL.out]
  clear HL
  generalize lessS L[i].f0 L[j].f0 = b1 at *
  generalize lessS L[j].f0 L[i].f0 = b2 at *
  generalize L[i] = xi at *
  generalize L[j] = xj at *
  have gi : (i : Int) < (L.length : Int) := by omega
  have gj : (j : Int) < (L.length : Int) := by omega
  have HB := Aside0.mk (below_drew (Below.refl W.heap.size W))
  obtain ⟨⟨i0, i1, i2, i3, i4, i5, i6, i7, i8⟩, ⟨j0, j1, j2, j3, j4, j5, j6, j7, j8⟩⟩ := HN.out W.drew HB.out
  go_enter Try.func78, Try.ntmps78
  go_wp2_with fail
  refine still_tail 10 (by kernel_rfl) (by kernel_rfl) ?_
  simp only [List.take_succ_cons, List.take_zero, List.drop_succ_cons, List.drop_zero]
  generalize W.drew = W3 at *
  repeat still_step
  refine wpStill_nil ?_
  go_wp2_with fail
  refine (HC _).out.mono ?_
  rintro e w1 ⟨rfl, hB⟩
  have HB1 := Aside0.mk (below_step HB.out hB)
  clear hB i0 i1 i2 i3 i4 i5 i6 i7 i8 j0 j1 j2 j3 j4 j5 j6 j7 j8 HB HC
  cases b1 with
  | true =>
    go_wp2_with fail
    go_ret
    exact ⟨rfl, HB1.out⟩
  | false =>
    have HB := Aside0.mk (below_drew HB1.out)
    obtain ⟨⟨i0, i1, i2, i3, i4, i5, i6, i7, i8⟩, ⟨j0, j1, j2, j3, j4, j5, j6, j7, j8⟩⟩ := HN.out w1.drew HB.out
    by_cases h1 : xi.f1 < xj.f1
    · have hd : decide (xi.f1 < xj.f1) = true := decide_eq_true h1
      have HD := Aside0.mk hd
      go_wp2_with fail
      refine still_tail 22 (by kernel_rfl) (by kernel_rfl) ?_
      simp only [List.take_succ_cons, List.take_zero, List.drop_succ_cons, List.drop_zero]
      generalize w1.drew = W3 at *
      repeat still_step
      refine wpStill_nil ?_
      go_wp2_with fail
      refine (HC2 _).out.mono ?_
      rintro e w2 ⟨rfl, hB⟩
      have HB2 := Aside0.mk (below_step HB.out hB)
      clear hB
      go_wp2_with fail
      go_ret
      exact ⟨by rw [HD.out]; rfl, HB2.out⟩
    · have hd : decide (xi.f1 < xj.f1) = false := decide_eq_false h1
      have HD := Aside0.mk hd
      clear i0 i1 i2 i3 i4 i5 i6 i7 i8 j0 j1 j2 j3 j4 j5 j6 j7 j8 HC2
      obtain ⟨⟨-, -, -, -, -, -, -, -, i8⟩, ⟨-, -, -, -, -, -, -, -, j8⟩⟩ := HN.out w1 HB1.out
      go_wp2_with fail
      go_quiet (fail)
      go_wp2_with fail
      go_ret
      exact ⟨by rw [HD.out]; rfl, by first | exact HB.out | exact pw_below_drewN HB1.out _⟩
theorem Row.range {W : World} {g c : Nat} {L : List It} (h : Row W g c L) (j : Nat) (hj : j < L.length) : W.rangeAt g (j * 9) (pc L[j]) := fun k v hk => by
  rw [h.cell j hj k (by have := (List.getElem?_eq_some_iff.1 hk).1; simpa using this)]
  exact hk
theorem Row.there {W : World} {g c : Nat} {L : List It} (h : Row W g c L) (j : Nat) (hj : j < L.length) : W.there g (j * 9) 9 := fun k hk =>
  ⟨(h.range j hj).isSome k (by simpa using hk), h.frozen _⟩
theorem put9_cells (W : World) (g i : Nat) (x : It) : W.setCells g i (pc x) = put9 W g i x := rfl
theorem pc_one (x : It) : ∀ v ∈ pc x, v.oneCell' = true := by
  intro v hv
  simp [pc] at hv
  rcases hv with rfl | rfl | rfl | rfl | rfl | rfl | rfl | rfl | rfl <;> rfl
theorem size55 : (Try.prog.info? 55).map (·.size) = some 9 := by kernel_rfl
set_option maxHeartbeats 1000000 in
set_option maxRecDepth 100000 in
theorem pswap_c {W : World} {g c : Nat} {L : List It} (h : Row W g c L) (i j : Nat) (hi : i < L.length) (hj : j < L.length) :
    Calls Try.prog 80 #[.slice (some ⟨g, 0, none⟩) L.length c, .int .i64 i, .int .i64 j] W fun e w' => e = .returned (.tuple #[]) ∧ Row w' g c ((L.set i L[j]).set j L[i]) ∧ Fr (fun k => k = g) W w' := by
  have h : Row W.drew g c L := h
  have ri := h.range i hi
  have rj := h.range j hj
  have ti := h.there i hi
  have tj := h.there j hj
  have HR := Aside0.mk ((h.put i hi L[j]).put j (by rw [List.length_set]; exact hj) L[i])
  have HF : Aside0 (Fr (fun k => k = g) W (put9 (put9 W.drew g (i * 9) L[j]) g (j * 9) L[i])) := ⟨put9_fr (put9_fr ((Fr.refl _ _).drewN 1) rfl) rfl⟩
  have oi := pc_one L[i]
  have oj := pc_one L[j]
  have li : (pc L[i]).length = 9 := rfl
  have lj : (pc L[j]).length = 9 := rfl
  generalize (L.set i L[j]).set j L[i] = M at HR ⊢
  rw [← put9_cells, ← put9_cells] at HR HF
  generalize pc L[i] = xi at *
  generalize pc L[j] = xj at *
  have HRI := Aside0.mk ri
  have HRJ := Aside0.mk rj
  have HTI := Aside0.mk ti
  have HTJ := Aside0.mk tj
  have HOI := Aside0.mk oi
  have HOJ := Aside0.mk oj
  have HLI := Aside0.mk li
  have HLJ := Aside0.mk lj
  clear ri rj ti tj oi oj li lj
  have gi : (i : Int) < (L.length : Int) := by omega
  have gj : (j : Int) < (L.length : Int) := by omega
  go_enter Try.func80, Try.ntmps80
  go_wp2_with fail
  refine PrintLast.start_ (n := 16) (S := fun w' => w'.rangeAt g (j * 9) xj ∧ w'.rangeAt g (i * 9) xi) (ds := [13, 15]) #[false, false, false, false, false, false, false, false, false, false, false, false, false, false, false, false] (by kernel_rfl) rfl rfl ⟨HRJ.out, HRI.out⟩ (fun hHeld => ?_)
  refine PrintLast.pure_ (i := 0) (N := some 6) (v := ?_) (a' := ?_) #[true, false, false, false, false, false, false, false, false, false, false, false, false, false, false, false] rfl rfl (by kernel_rfl) (fun _ _ _ h => h) (Or.inl ⟨by rfl, ?_⟩) ?_ ?_
  rotate_left
  · intro w'
    go_simp
    with_reducible rfl
  rotate_left
  · simp only [Act.put, List.setIfInBounds_toArray, List.set_cons_zero, List.set_cons_succ]
    rfl
  refine PrintLast.pure_ (i := 1) (N := some 7) (v := ?_) (a' := ?_) #[true, true, false, false, false, false, false, false, false, false, false, false, false, false, false, false] rfl rfl (by kernel_rfl) (fun _ _ _ h => h) (Or.inl ⟨by rfl, ?_⟩) ?_ ?_
  rotate_left
  · intro w'
    go_simp
    with_reducible rfl
  rotate_left
  · simp only [Act.put, List.setIfInBounds_toArray, List.set_cons_zero, List.set_cons_succ]
    rfl
  refine PrintLast.pure_ (i := 2) (N := some 8) (v := ?_) (a' := ?_) #[true, true, true, false, false, false, false, false, false, false, false, false, false, false, false, false] rfl rfl (by kernel_rfl) (fun _ _ _ h => h) (Or.inl ⟨by rfl, ?_⟩) ?_ ?_
  rotate_left
  · intro w'
    go_simp
    with_reducible rfl
  rotate_left
  · simp only [Act.put, List.setIfInBounds_toArray, List.set_cons_zero, List.set_cons_succ]
    rfl
  refine PrintLast.pure_ (i := 3) (N := some 9) (v := ?_) (a' := ?_) #[true, true, true, true, false, false, false, false, false, false, false, false, false, false, false, false] rfl rfl (by kernel_rfl) (fun _ _ _ h => h) (Or.inl ⟨by rfl, ?_⟩) ?_ ?_
  rotate_left
  · intro w'
    go_simp
    with_reducible rfl
  rotate_left
  · simp only [Act.put, List.setIfInBounds_toArray, List.set_cons_zero, List.set_cons_succ]
    rfl
  refine PrintLast.pure_ (i := 4) (N := some 10) (v := ?_) (a' := ?_) #[true, true, true, true, true, false, false, false, false, false, false, false, false, false, false, false] rfl rfl (by kernel_rfl) (fun _ _ _ h => h) (Or.inl ⟨by rfl, ?_⟩) ?_ ?_
  rotate_left
  · intro w'
    go_simp
    with_reducible rfl
  rotate_left
  · simp only [Act.put, List.setIfInBounds_toArray, List.set_cons_zero, List.set_cons_succ]
    rfl
  refine PrintLast.pure_ (i := 5) (N := some 11) (v := ?_) (a' := ?_) #[true, true, true, true, true, true, false, false, false, false, false, false, false, false, false, false] rfl rfl (by kernel_rfl) (fun _ _ _ h => h) (Or.inl ⟨by rfl, ?_⟩) ?_ ?_
  rotate_left
  · intro w'
    go_simp
    with_reducible rfl
  rotate_left
  · simp only [Act.put, List.setIfInBounds_toArray, List.set_cons_zero, List.set_cons_succ]
    rfl
  refine PrintLast.pure_ (i := 6) (N := some 12) (v := ?_) (a' := ?_) #[true, true, true, true, true, true, true, false, false, false, false, false, false, false, false, false] rfl rfl (by kernel_rfl) (fun _ _ _ h => h) (Or.inl ⟨by rfl, ?_⟩) ?_ ?_
  rotate_left
  · intro w'
    go_simp
    with_reducible rfl
  rotate_left
  · simp only [Act.put, List.setIfInBounds_toArray, List.set_cons_zero, List.set_cons_succ]
    rfl
  refine PrintLast.pure_ (i := 8) (N := some 14) (v := ?_) (a' := ?_) #[true, true, true, true, true, true, true, false, true, false, false, false, false, false, false, false] rfl rfl (by kernel_rfl) (fun _ _ _ h => h) (Or.inl ⟨by rfl, ?_⟩) ?_ ?_
  rotate_left
  · intro w'
    go_simp
    with_reducible rfl
  rotate_left
  · simp only [Act.put, List.setIfInBounds_toArray, List.set_cons_zero, List.set_cons_succ]
    rfl
  refine PrintLast.pure_ (i := 9) (N := some 15) (v := ?_) (a' := ?_) #[true, true, true, true, true, true, true, false, true, true, false, false, false, false, false, false] rfl rfl (by kernel_rfl) (fun _ _ _ h => h) (Or.inl ⟨by rfl, ?_⟩) ?_ ?_
  rotate_left
  · intro w'
    go_simp
    with_reducible rfl
  rotate_left
  · simp only [Act.put, List.setIfInBounds_toArray, List.set_cons_zero, List.set_cons_succ]
    rfl
  refine PrintLast.pure_ (i := 10) (N := some 16) (v := ?_) (a' := ?_) #[true, true, true, true, true, true, true, false, true, true, true, false, false, false, false, false] rfl rfl (by kernel_rfl) (fun _ _ _ h => h) (Or.inl ⟨by rfl, ?_⟩) ?_ ?_
  rotate_left
  · intro w'
    go_simp
    with_reducible rfl
  rotate_left
  · simp only [Act.put, List.setIfInBounds_toArray, List.set_cons_zero, List.set_cons_succ]
    rfl
  refine PrintLast.take_ (i := 7) (N := some 13) (v := .agg xj.toArray) (a' := ?_) #[true, true, true, true, true, true, true, true, true, true, true, false, false, false, false, false] rfl rfl (by kernel_rfl) (fun _ _ _ h => h) (yieldsIf_load_mid (by rfl) 55 (.tmp 12) rfl g (j * 9) rfl xj _ (fun w hS => hS.1) Try.underlying55 rfl (by rw [size55, HLJ.out])) hHeld ?_ ?_
  rotate_left
  · simp only [Act.put, List.setIfInBounds_toArray, List.set_cons_zero, List.set_cons_succ]
    rfl
  refine PrintLast.take_ (i := 11) (N := some 17) (v := .agg xi.toArray) (a' := ?_) #[true, true, true, true, true, true, true, true, true, true, true, true, false, false, false, false] rfl rfl (by kernel_rfl) (fun _ _ _ h => h) (yieldsIf_load_mid (by rfl) 55 (.tmp 16) rfl g (i * 9) rfl xi _ (fun w hS => hS.2) Try.underlying55 rfl (by rw [size55, HLI.out])) hHeld ?_ ?_
  rotate_left
  · simp only [Act.put, List.setIfInBounds_toArray, List.set_cons_zero, List.set_cons_succ]
    rfl
  refine PrintLast.pure_ (i := 12) (N := some 18) (v := ?_) (a' := ?_) #[true, true, true, true, true, true, true, true, true, true, true, true, true, false, false, false] rfl rfl (by kernel_rfl) (fun _ _ _ h => h) (Or.inl ⟨by rfl, ?_⟩) ?_ ?_
  rotate_left
  · intro w'
    go_simp
    with_reducible rfl
  rotate_left
  · simp only [Act.put, List.setIfInBounds_toArray, List.set_cons_zero, List.set_cons_succ]
    rfl
  refine PrintLast.last_ (i := 13) (N := none) #[true, true, true, true, true, true, true, true, true, true, true, true, true, true, false, false] rfl rfl (by kernel_rfl) (by decide) (fun K hK => ?_)
  rw [if_pos (by rfl)]
  refine wp_store_mid 55 _ _ rfl g (i * 9) xj.toArray rfl rfl (by rw [List.size_toArray, HLJ.out]; exact HTI.out) (by rw [List.size_toArray, HLJ.out]; exact size55) (all_oneCell_toArray HOJ.out) ?_
  refine hK.out _ _ ?_
  clear hK K
  refine PrintLast.pure_ (i := 14) (N := some 19) (v := ?_) (a' := ?_) #[true, true, true, true, true, true, true, true, true, true, true, true, true, true, true, false] rfl rfl (by kernel_rfl) (fun _ _ _ h => h) (Or.inl ⟨by rfl, ?_⟩) ?_ ?_
  rotate_left
  · intro w'
    go_simp
    with_reducible rfl
  rotate_left
  · simp only [Act.put, List.setIfInBounds_toArray, List.set_cons_zero, List.set_cons_succ]
    rfl
  refine PrintLast.last_ (i := 15) (N := none) #[true, true, true, true, true, true, true, true, true, true, true, true, true, true, true, true] rfl rfl (by kernel_rfl) (by decide) (fun K hK => ?_)
  rw [if_pos (by rfl)]
  refine wp_store_mid 55 _ _ rfl g (j * 9) xi.toArray rfl rfl (by rw [List.size_toArray, HLI.out]; exact World.there_setCells HTJ.out g (i * 9) xj) (by rw [List.size_toArray, HLI.out]; exact size55) (all_oneCell_toArray HOI.out) ?_
  refine hK.out _ _ ?_
  clear hK K
  refine PrintLast.done_ (by kernel_rfl) ?_
  go_wp2_with fail
  refine bodyPost_end (results_none rfl _ _ _) rfl ?_
  exact ⟨rfl, HR.out, HF.out⟩
end Go.Proofs.Ytahihhklijcghaa
