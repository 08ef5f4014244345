/-
  CascadeRanks: the law's walk.
-/
import Derived.Test.YtahihhklijcghaaRanksP
namespace Go.Proofs.Ytahihhklijcghaa
open Go.RowKit Go.Proofs.YtahihhklijcghaaW Go.Proofs.YtahihhklijcghaaW.PrintWords PCascadeSorts
set_option linter.unusedVariables false
set_option linter.unusedSimpArgs false
/-- An entry in a box of its own. -/
def Bk (w : World) (p : Nat) (x : S26) : Prop := w.heap[p]? = some (.cells (pe x).toArray 26 (0, 0))
section
variable {w w' : World} {p q : Nat} {x : S26}
theorem Bk.eig (h : Bk w p x) : Eig w p 0 x := ⟨blk_cell h 0, blk_cell h 1, blk_cell h 2, blk_cell h 3, blk_cell h 4, blk_cell h 5, blk_cell h 6, blk_cell h 7⟩
theorem Bk.frozen (h : Bk w p x) (i : Nat) : w.frozen? ⟨p, i, none⟩ = false := blk_frozen h i
theorem Bk.below (h : Bk w p x) (hb : Below w.heap.size w w') : Bk w' p x := blk_below h hb
theorem Bk.imp_ (h : Bk w p x) (b : Bool) : Bk (w.setCell ⟨p, 3, none⟩ (.bool b)) p (imp x b) := set_block h 3 (.bool b)
theorem Bk.far (h : Bk w p x) (hpq : p ≠ q) (i : Nat) (u : Value) : Bk (w.setCell ⟨q, i, none⟩ u) p x := blk_far h hpq u
theorem Bk.new (w : World) (x : S26) : Bk (w.alloc (.cells (pe x).toArray 26)) w.heap.size x := heap_alloc_new w _
theorem Bk.range (h : Bk w p x) : w.rangeAt p 0 (pe x) := fun j v hj => by
  rw [Nat.zero_add, blk_cell h]
  simpa using hj
end
/-- The four boxes of the law. -/
def Bx4 (w : World) (p3 p4 p8 p9 : Nat) (a b : S26) : Prop := Bk w p3 (imp a true) ∧ Bk w p4 (imp b false) ∧ Bk w p8 (imp b true) ∧ Bk w p9 (imp a false)
theorem Bx4.below {w w' : World} {p3 p4 p8 p9 : Nat} {a b : S26} (h : Bx4 w p3 p4 p8 p9 a b) (hb : Below w.heap.size w w') : Bx4 w' p3 p4 p8 p9 a b := ⟨h.1.below hb, h.2.1.below hb, h.2.2.1.below hb, h.2.2.2.below hb⟩
set_option maxHeartbeats 2000000 in
set_option maxRecDepth 100000 in
theorem ranks_w {W : World} {A : Option Addr} {c : Nat} {l : List S26} {a b : S26} (h : Kd.C k26 W A l.length l) (hc : l.length ≤ c) (hf : Fits l) (hn : l.length ≤ 1759218604441) :
    Calls Try.prog 5 #[ev a, ev b, .slice A l.length c] W fun e w' => e = .returned (.bool true) ∧ Below W.heap.size W w' := by
  have HC := Aside0.mk h
  have HCC := Aside0.mk hc
  have HF := Aside0.mk hf
  have HN := Aside0.mk hn
  clear h hc hf hn
  have HB0 : Aside0 (Below W.heap.size W ((W.alloc (.cells (pe a).toArray 26)).alloc (.cells (pe b).toArray 26))) := ⟨((Below.refl _ _).alloc (Nat.le_refl _) _).alloc (by simp) _⟩
  have HRA : Aside0 (Bk ((W.alloc (.cells (pe a).toArray 26)).alloc (.cells (pe b).toArray 26)) W.heap.size a) := ⟨blk_alloc (Bk.new W a) _⟩
  have HRB : Aside0 (Bk ((W.alloc (.cells (pe a).toArray 26)).alloc (.cells (pe b).toArray 26)) (W.heap.size + 1) b) := ⟨by
    have := Bk.new (W.alloc (.cells (pe a).toArray 26)) b
    rw [World.size_alloc] at this
    exact this⟩
  go_enter Try.func5, Try.ntmps5
  go_wp2_with fail
  refine (light_c (Kd.C_below HC.out HB0.out) HCC.out HF.out HN.out).mono ?_
  rintro e w1 ⟨r, rfl, hr, hb⟩
  have HB1 := Aside0.mk (below_then HB0.out HB0.out.size hb)
  have HA1 := Aside0.mk (HRA.out.below hb)
  have HO1 := Aside0.mk (HRB.out.below hb)
  have HL := Aside0.mk hr
  clear hb HB0 HRA HRB hr
  cases r with
  | false =>
    go_wp2_with fail
    refine (lives_c _).mono ?_
    rintro e w2 ⟨rfl, hb⟩
    have HB2 := Aside0.mk (below_step HB1.out hb)
    clear hb
    go_wp2_with fail
    go_ret
    exact ⟨rfl, HB2.out⟩
  | true =>
    have HLN := Aside0.mk (HL.out rfl)
    clear HL HN
    obtain ⟨a0, a1, a2, a3, a4, a5, a6, a7⟩ := HA1.out.eig
    obtain ⟨b0, b1, b2, b3, b4, b5, b6, b7⟩ := HO1.out.eig
    have fa := HA1.out.frozen 3
    have fb := HO1.out.frozen 3
    simp only [Nat.zero_add] at a0 a1 a2 a3 a4 a5 a6 a7 b0 b1 b2 b3 b4 b5 b6 b7
    go_upto_region 4 with fail
    have HA2 := Aside0.mk ((HA1.out.imp_ true).far (q := W.heap.size + 1) (by omega) 3 (.bool false))
    have HO2 := Aside0.mk ((HO1.out.far (q := W.heap.size) (by omega) 3 (.bool true)).imp_ false)
    have HB2 : Aside0 (Below W.heap.size W ((w1.setCell ⟨W.heap.size, 3, none⟩ (.bool true)).setCell ⟨W.heap.size + 1, 3, none⟩ (.bool false))) := ⟨by
      have h1 := (((Fr.refl (fun k => W.heap.size ≤ k) w1).setCell (p := ⟨W.heap.size, 3, none⟩) (Or.inl (Nat.le_refl _)) (.bool true)).setCell (p := ⟨W.heap.size + 1, 3, none⟩) (Or.inl (Nat.le_succ _)) (.bool false)).to_below (B := W.heap.size) HB1.out.size (fun i hi => hi)
      have h2 := HB1.out
      exact ⟨h1.os.trans h2.os, h1.tape.trans h2.tape, h1.output.trans h2.output, Nat.le_trans h2.size h1.size, fun i hi => (h1.block i hi).trans (h2.block i hi)⟩⟩
    clear a0 a1 a2 a3 a4 a5 a6 a7 b0 b1 b2 b3 b4 b5 b6 b7 fa fb HA1 HO1 HB1
    generalize (w1.setCell ⟨W.heap.size, 3, none⟩ (.bool true)).setCell ⟨W.heap.size + 1, 3, none⟩ (.bool false) = w2 at *
    obtain ⟨-, -, a2, -⟩ := HA2.out.eig
    obtain ⟨-, -, b2, -⟩ := HO2.out.eig
    simp only [Nat.zero_add, imp] at a2 b2
    obtain ⟨kn, hkn⟩ : ∃ kn : Bool, kn = (decide (1 ≤ a.f2) && (decide (a.f2 ≤ 3) && (decide (1 ≤ b.f2) && decide (b.f2 ≤ 3)))) := ⟨_, rfl⟩
    have HK := Aside0.mk hkn
    clear hkn
    go_cut [7] from 17 to 34 (fun v7 wc => v7 = .bool kn ∧ wc = w2)
    case first =>
      by_cases k1 : 1 ≤ a.f2
      · have d1 : decide (1 ≤ a.f2) = true := decide_eq_true k1
        by_cases k2 : a.f2 ≤ 3
        · have d2 : decide (a.f2 ≤ 3) = true := decide_eq_true k2
          by_cases k3 : 1 ≤ b.f2
          · have d3 : decide (1 ≤ b.f2) = true := decide_eq_true k3
            have D := Aside0.mk (And.intro d1 (And.intro d2 d3))
            clear k1 k2 k3
            go_wp2_with fail
            go_meet
            exact ⟨by have d := D.out; rw [HK.out]; first | (simp_all; done) | (simp_all; omega), rfl⟩
          · have d3 : decide (1 ≤ b.f2) = false := decide_eq_false k3
            have D := Aside0.mk (And.intro d1 (And.intro d2 d3))
            clear k1 k2 k3
            go_wp2_with fail
            go_meet
            exact ⟨by have d := D.out; rw [HK.out]; first | (simp_all; done) | (simp_all; omega), rfl⟩
        · have d2 : decide (a.f2 ≤ 3) = false := decide_eq_false k2
          have D := Aside0.mk (And.intro d1 (And.intro d2 trivial))
          clear k1 k2
          go_wp2_with fail
          go_meet
          exact ⟨by have d := D.out; rw [HK.out]; first | (simp_all; done) | (simp_all; omega), rfl⟩
      · have d1 : decide (1 ≤ a.f2) = false := decide_eq_false k1
        have D := Aside0.mk (And.intro d1 (And.intro trivial trivial))
        clear k1
        go_wp2_with fail
        go_meet
        exact ⟨by have d := D.out; rw [HK.out]; first | (simp_all; done) | (simp_all; omega), rfl⟩
    case rest =>
      obtain ⟨rfl, rfl⟩ := hcut
      cases kn with
      | false =>
        obtain ⟨a0, a1, -, a3, a4, a5, a6, a7⟩ := HA2.out.eig
        obtain ⟨b0, b1, -, b3, b4, b5, b6, b7⟩ := HO2.out.eig
        simp only [Nat.zero_add, imp] at a0 a1 a3 a4 a5 a6 a7 b0 b1 b3 b4 b5 b6 b7
        go_upto_region 9 with fail
        have HB3 : Aside0 (Below W.heap.size W (wc.alloc (.cells (pe (imp b true)).toArray 26))) := ⟨HB2.out.alloc HB2.out.size _⟩
        have HA3 := Aside0.mk (HA2.out.below ((Below.refl _ _).alloc (Nat.le_refl _) (Obj.cells (pe (imp b true)).toArray 26)))
        have HO3 := Aside0.mk (HO2.out.below ((Below.refl _ _).alloc (Nat.le_refl _) (Obj.cells (pe (imp b true)).toArray 26)))
        have HC3 := Aside0.mk (Bk.new wc (imp b true))
        change Code.wp Try.prog _ _ _ (wc.alloc (.cells (pe (imp b true)).toArray 26))
        clear a0 a1 a2 a3 a4 a5 a6 a7 b0 b1 b2 b3 b4 b5 b6 b7 HA2 HO2 HB2
        generalize wc.heap.size = p8 at *
        generalize wc.alloc (.cells (pe (imp b true)).toArray 26) = w3 at *
        obtain ⟨a0, a1, a2, a3, a4, a5, a6, a7⟩ := HA3.out.eig
        simp only [Nat.zero_add, imp] at a0 a1 a2 a3 a4 a5 a6 a7
        go_upto_region 11 with fail
        have HB5 : Aside0 (Below W.heap.size W (w3.alloc (.cells (pe (imp a false)).toArray 26))) := ⟨HB3.out.alloc HB3.out.size _⟩
        have hbl := (Below.refl w3.heap.size w3).alloc (Nat.le_refl _) (Obj.cells (pe (imp a false)).toArray 26)
        have HX4 : Aside0 (Bx4 (w3.alloc (.cells (pe (imp a false)).toArray 26)) W.heap.size (W.heap.size + 1) p8 w3.heap.size a b) := ⟨HA3.out.below hbl, HO3.out.below hbl, HC3.out.below hbl, Bk.new w3 (imp a false)⟩
        change Code.wp Try.prog _ _ _ (w3.alloc (.cells (pe (imp a false)).toArray 26))
        clear a0 a1 a2 a3 a4 a5 a6 a7 hbl HA3 HO3 HC3 HB3
        generalize w3.heap.size = p9 at *
        generalize w3.alloc (.cells (pe (imp a false)).toArray 26) = w4 at *
        refine PrintLast.start_ (n := 17) (S := fun w' => Bx4 w' W.heap.size (W.heap.size + 1) p8 p9 a b) (ds := []) #[false, false, false, false, false, false, false, false, false, false, false, false, false, false, false, false, false] (by kernel_rfl) rfl rfl (HX4.out.below (below_drew (Below.refl _ _))) (fun hHeld => ?_)
        have HB4 := Aside0.mk (below_drew HB5.out)
        clear HX4 HB5
        generalize w4.drew = w4 at *
        refine PrintLast.pure_ (i := 0) (N := some 51) (v := ?_) (a' := ?_) #[true, false, false, false, false, false, false, false, false, false, false, false, false, false, false, false, false] rfl rfl (by kernel_rfl) (fun _ _ _ h => h) (Or.inl ⟨by rfl, ?_⟩) ?_ ?_
        rotate_left
        · intro w'
          go_simp
          with_reducible rfl
        rotate_left
        · simp only [Act.put, List.setIfInBounds_toArray, List.set_cons_zero, List.set_cons_succ]
          rfl
        refine PrintLast.pure_ (i := 1) (N := some 52) (v := ?_) (a' := ?_) #[true, true, false, false, false, false, false, false, false, false, false, false, false, false, false, false, false] rfl rfl (by kernel_rfl) (fun _ _ _ h => h) (Or.inl ⟨by rfl, ?_⟩) ?_ ?_
        rotate_left
        · intro w'
          go_simp
          with_reducible rfl
        rotate_left
        · simp only [Act.put, List.setIfInBounds_toArray, List.set_cons_zero, List.set_cons_succ]
          rfl
        refine PrintLast.pure_ (i := 2) (N := some 53) (v := undef) (a' := ?_) #[true, true, true, false, false, false, false, false, false, false, false, false, false, false, false, false, false] rfl rfl (by kernel_rfl) (fun _ _ _ h => h) (Or.inr ⟨by rfl, rfl⟩) ?_ ?_
        rotate_left
        · simp only [Act.put, List.setIfInBounds_toArray, List.set_cons_zero, List.set_cons_succ]
          rfl
        refine PrintLast.pure_ (i := 3) (N := some 54) (v := undef) (a' := ?_) #[true, true, true, true, false, false, false, false, false, false, false, false, false, false, false, false, false] rfl rfl (by kernel_rfl) (fun _ _ _ h => h) (Or.inr ⟨by rfl, rfl⟩) ?_ ?_
        rotate_left
        · simp only [Act.put, List.setIfInBounds_toArray, List.set_cons_zero, List.set_cons_succ]
          rfl
        refine PrintLast.pure_ (i := 4) (N := some 55) (v := undef) (a' := ?_) #[true, true, true, true, true, false, false, false, false, false, false, false, false, false, false, false, false] rfl rfl (by kernel_rfl) (fun _ _ _ h => h) (Or.inr ⟨by rfl, rfl⟩) ?_ ?_
        rotate_left
        · simp only [Act.put, List.setIfInBounds_toArray, List.set_cons_zero, List.set_cons_succ]
          rfl
        refine PrintLast.pure_ (i := 5) (N := some 56) (v := undef) (a' := ?_) #[true, true, true, true, true, true, false, false, false, false, false, false, false, false, false, false, false] rfl rfl (by kernel_rfl) (fun _ _ _ h => h) (Or.inr ⟨by rfl, rfl⟩) ?_ ?_
        rotate_left
        · simp only [Act.put, List.setIfInBounds_toArray, List.set_cons_zero, List.set_cons_succ]
          rfl
        refine PrintLast.pure_ (i := 6) (N := some 57) (v := undef) (a' := ?_) #[true, true, true, true, true, true, true, false, false, false, false, false, false, false, false, false, false] rfl rfl (by kernel_rfl) (fun _ _ _ h => h) (Or.inr ⟨by rfl, rfl⟩) ?_ ?_
        rotate_left
        · simp only [Act.put, List.setIfInBounds_toArray, List.set_cons_zero, List.set_cons_succ]
          rfl
        refine PrintLast.pure_ (i := 7) (N := some 58) (v := ?_) (a' := ?_) #[true, true, true, true, true, true, true, true, false, false, false, false, false, false, false, false, false] rfl rfl (by kernel_rfl) (fun _ _ _ h => h) (Or.inl ⟨by rfl, ?_⟩) ?_ ?_
        rotate_left
        · intro w'
          go_simp
          with_reducible rfl
        rotate_left
        · simp only [Act.put, List.setIfInBounds_toArray, List.set_cons_zero, List.set_cons_succ]
          rfl
        refine PrintLast.pure_ (i := 8) (N := some 59) (v := ?_) (a' := ?_) #[true, true, true, true, true, true, true, true, true, false, false, false, false, false, false, false, false] rfl rfl (by kernel_rfl) (fun _ _ _ h => h) (Or.inl ⟨by rfl, ?_⟩) ?_ ?_
        rotate_left
        · intro w'
          go_simp
          with_reducible rfl
        rotate_left
        · simp only [Act.put, List.setIfInBounds_toArray, List.set_cons_zero, List.set_cons_succ]
          rfl
        refine PrintLast.pure_ (i := 9) (N := some 60) (v := undef) (a' := ?_) #[true, true, true, true, true, true, true, true, true, true, false, false, false, false, false, false, false] rfl rfl (by kernel_rfl) (fun _ _ _ h => h) (Or.inr ⟨by rfl, rfl⟩) ?_ ?_
        rotate_left
        · simp only [Act.put, List.setIfInBounds_toArray, List.set_cons_zero, List.set_cons_succ]
          rfl
        refine PrintLast.pure_ (i := 10) (N := some 61) (v := undef) (a' := ?_) #[true, true, true, true, true, true, true, true, true, true, true, false, false, false, false, false, false] rfl rfl (by kernel_rfl) (fun _ _ _ h => h) (Or.inr ⟨by rfl, rfl⟩) ?_ ?_
        rotate_left
        · simp only [Act.put, List.setIfInBounds_toArray, List.set_cons_zero, List.set_cons_succ]
          rfl
        refine PrintLast.pure_ (i := 11) (N := some 62) (v := undef) (a' := ?_) #[true, true, true, true, true, true, true, true, true, true, true, true, false, false, false, false, false] rfl rfl (by kernel_rfl) (fun _ _ _ h => h) (Or.inr ⟨by rfl, rfl⟩) ?_ ?_
        rotate_left
        · simp only [Act.put, List.setIfInBounds_toArray, List.set_cons_zero, List.set_cons_succ]
          rfl
        refine PrintLast.pure_ (i := 12) (N := some 63) (v := undef) (a' := ?_) #[true, true, true, true, true, true, true, true, true, true, true, true, true, false, false, false, false] rfl rfl (by kernel_rfl) (fun _ _ _ h => h) (Or.inr ⟨by rfl, rfl⟩) ?_ ?_
        rotate_left
        · simp only [Act.put, List.setIfInBounds_toArray, List.set_cons_zero, List.set_cons_succ]
          rfl
        refine PrintLast.pure_ (i := 13) (N := some 64) (v := undef) (a' := ?_) #[true, true, true, true, true, true, true, true, true, true, true, true, true, true, false, false, false] rfl rfl (by kernel_rfl) (fun _ _ _ h => h) (Or.inr ⟨by rfl, rfl⟩) ?_ ?_
        rotate_left
        · simp only [Act.put, List.setIfInBounds_toArray, List.set_cons_zero, List.set_cons_succ]
          rfl
        refine PrintLast.pure_ (i := 14) (N := some 65) (v := undef) (a' := ?_) #[true, true, true, true, true, true, true, true, true, true, true, true, true, true, true, false, false] rfl rfl (by kernel_rfl) (fun _ _ _ h => h) (Or.inr ⟨by rfl, rfl⟩) ?_ ?_
        rotate_left
        · simp only [Act.put, List.setIfInBounds_toArray, List.set_cons_zero, List.set_cons_succ]
          rfl
        refine PrintLast.pure_ (i := 15) (N := some 66) (v := undef) (a' := ?_) #[true, true, true, true, true, true, true, true, true, true, true, true, true, true, true, true, false] rfl rfl (by kernel_rfl) (fun _ _ _ h => h) (Or.inr ⟨by rfl, rfl⟩) ?_ ?_
        rotate_left
        · simp only [Act.put, List.setIfInBounds_toArray, List.set_cons_zero, List.set_cons_succ]
          rfl
        refine PrintLast.pure_ (i := 16) (N := some 67) (v := ?_) (a' := ?_) #[true, true, true, true, true, true, true, true, true, true, true, true, true, true, true, true, true] rfl rfl (by kernel_rfl) (fun _ _ _ h => h) (Or.inl ⟨by rfl, ?_⟩) ?_ ?_
        rotate_left
        · intro w'
          go_simp
          with_reducible rfl
        rotate_left
        · simp only [Act.put, List.setIfInBounds_toArray, List.set_cons_zero, List.set_cons_succ]
          rfl
        refine PrintLast.done_ (by kernel_rfl) ?_
        go_wp2_with fail
        refine (sorts_c (Kd.C_below HC.out HB4.out) HLN.out).mono ?_
        rintro e w6 ⟨v, rfl, hr, hb⟩
        have HX6 := Aside0.mk (hHeld.below hb)
        have HB6 := Aside0.mk (below_step HB4.out hb)
        obtain ⟨A1, c1, rfl, hc1⟩ := hr.slice_
        have HR1 := Aside0.mk hr
        clear hr hb hHeld HB4
        go_wp2_with fail
        refine (sorts_c HR1.out.C26.2.2 (by rw [sortE_length]; exact HLN.out)).mono ?_
        rintro e w7 ⟨v, rfl, hr, hb⟩
        rw [sortE_twice] at hr
        have HX7 := Aside0.mk (HX6.out.below hb)
        have HB7 := Aside0.mk (below_step HB6.out hb)
        have HR7 := Aside0.mk (HR1.out.below hb)
        obtain ⟨A2, c2, rfl, hc2⟩ := hr.slice_
        have HR2 := Aside0.mk hr
        clear hr hb HX6 HB6 HR1
        go_wp2_with fail
        refine (plain_c HR2.out.C26.2.2 (by rw [sortE_length]; exact HLN.out)).mono ?_
        rintro e w8 ⟨v, rfl, hr, hb⟩
        have HX8 := Aside0.mk (HX7.out.below hb)
        have HB8 := Aside0.mk (below_step HB7.out hb)
        have HR8 := Aside0.mk (HR7.out.below hb)
        obtain ⟨A3, c3, rfl, hc3⟩ := hr.slice_
        have HR3 := Aside0.mk hr
        clear hr hb HX7 HB7 HR7 HR2
        go_wp2_with fail
        refine (plain_c HR8.out.C26.2.2 (by rw [sortE_length]; exact HLN.out)).mono ?_
        rintro e w9 ⟨v, rfl, hr, hb⟩
        have HX9 := Aside0.mk (HX8.out.below hb)
        have HB9 := Aside0.mk (below_step HB8.out hb)
        have HR9 := Aside0.mk (HR3.out.below hb)
        obtain ⟨A4, c4, rfl, hc4⟩ := hr.slice_
        have HR4 := Aside0.mk hr
        clear hr hb HX8 HB8 HR8 HR3
        go_wp2_with fail
        refine (same_c HR9.out.C33.2.2 hc3 HR4.out.C33.2.2 hc4 (by rw [sortE_length]; exact HLN.out)).mono ?_
        rintro e w10 ⟨rfl, hb⟩
        have HX10 := Aside0.mk (HX9.out.below hb)
        have HB10 := Aside0.mk (below_step HB9.out hb)
        clear hb HX9 HB9 HR9 HR4
        obtain ⟨a0, a1, a2, a3, a4, a5, a6, a7⟩ := HX10.out.1.eig
        simp only [Nat.zero_add, imp] at a0 a1 a2 a3 a4 a5 a6 a7
        go_wp2_with fail
        refine (rank_c (imp a true) _).mono ?_
        rintro e w11 ⟨rfl, hb⟩
        have HX11 := Aside0.mk (HX10.out.below hb)
        have HB11 := Aside0.mk (below_step HB10.out hb)
        clear hb HX10 HB10 a0 a1 a2 a3 a4 a5 a6 a7
        by_cases hra : rankS (imp a true) = 0
        · rw [hra]
          go_wp2_with fail
          refine (lives_c _).mono ?_
          rintro e w12 ⟨rfl, hb⟩
          have HB12 := Aside0.mk (below_step HB11.out hb)
          clear hb
          go_wp2_with fail
          go_ret
          exact ⟨rfl, HB12.out⟩
        · have hrb : rankS (imp b false) = 0 := by
            have hk := HK.out
            by_cases ka : 1 ≤ a.f2 ∧ a.f2 ≤ 3
            · by_cases kb : 1 ≤ b.f2 ∧ b.f2 ≤ 3
              · rw [decide_eq_true ka.1, decide_eq_true ka.2, decide_eq_true kb.1, decide_eq_true kb.2] at hk
                simp at hk
              · exact rank_out kb false
            · exact absurd (rank_out ka true) hra
          have HRB := Aside0.mk hrb
          clear hrb
          generalize rankS (imp a true) = ra at *
          have hd : (ra == 0) = false := by simpa using hra
          obtain ⟨b0, b1, b2, b3, b4, b5, b6, b7⟩ := HX11.out.2.1.eig
          simp only [Nat.zero_add, imp] at b0 b1 b2 b3 b4 b5 b6 b7
          go_wp2_with fail
          refine (rank_c (imp b false) _).mono ?_
          rintro e w12 ⟨rfl, hb⟩
          have HB12 := Aside0.mk (below_step HB11.out hb)
          clear hb b0 b1 b2 b3 b4 b5 b6 b7
          rw [HRB.out]
          go_wp2_with fail
          refine (lives_c _).mono ?_
          rintro e w13 ⟨rfl, hb⟩
          have HB13 := Aside0.mk (below_step HB12.out hb)
          clear hb
          go_wp2_with fail
          go_ret
          exact ⟨rfl, HB13.out⟩
      | true =>
        have hKN : known a b := by
          have hk := HK.out
          simp at hk
          exact ⟨⟨hk.1, hk.2.1⟩, hk.2.2⟩
        have HKN := Aside0.mk hKN
        clear hKN
        obtain ⟨a0, a1, -, a3, a4, a5, a6, a7⟩ := HA2.out.eig
        obtain ⟨b0, b1, -, b3, b4, b5, b6, b7⟩ := HO2.out.eig
        simp only [Nat.zero_add, imp] at a0 a1 a3 a4 a5 a6 a7 b0 b1 b3 b4 b5 b6 b7
        go_wp2_with fail
        refine (less_c (imp b false) (imp a true) _).mono ?_
        rintro e w3 ⟨rfl, hb⟩
        rw [(known_less HKN.out).1]
        have HA4 := Aside0.mk (HA2.out.below hb)
        have HO4 := Aside0.mk (HO2.out.below hb)
        have HB4 := Aside0.mk (below_step HB2.out hb)
        clear hb a0 a1 a3 a4 a5 a6 a7 b0 b1 b3 b4 b5 b6 b7 a2 b2 HA2 HO2 HB2
        have HA2 := HA4
        have HO2 := HO4
        have HB2 := HB4
        clear HA4 HO4 HB4
        obtain ⟨a0, a1, a2, a3, a4, a5, a6, a7⟩ := HA2.out.eig
        obtain ⟨b0, b1, b2, b3, b4, b5, b6, b7⟩ := HO2.out.eig
        simp only [Nat.zero_add, imp] at a0 a1 a2 a3 a4 a5 a6 a7 b0 b1 b2 b3 b4 b5 b6 b7
        go_wp2_with fail
        refine (less_c (imp a true) (imp b false) _).mono ?_
        rintro e wc ⟨rfl, hb⟩
        rw [(known_less HKN.out).2]
        have HA4 := Aside0.mk (HA2.out.below hb)
        have HO4 := Aside0.mk (HO2.out.below hb)
        have HB4 := Aside0.mk (below_step HB2.out hb)
        clear hb a0 a1 a2 a3 a4 a5 a6 a7 b0 b1 b2 b3 b4 b5 b6 b7 HA2 HO2 HB2
        have HA2 := HA4
        have HO2 := HO4
        have HB2 := HB4
        clear HA4 HO4 HB4
        obtain ⟨a0, a1, a2, a3, a4, a5, a6, a7⟩ := HA2.out.eig
        obtain ⟨b0, b1, b2, b3, b4, b5, b6, b7⟩ := HO2.out.eig
        simp only [Nat.zero_add, imp] at a0 a1 a2 a3 a4 a5 a6 a7 b0 b1 b2 b3 b4 b5 b6 b7
        go_upto_region 9 with fail
        have HB3 : Aside0 (Below W.heap.size W (wc.alloc (.cells (pe (imp b true)).toArray 26))) := ⟨HB2.out.alloc HB2.out.size _⟩
        have HA3 := Aside0.mk (HA2.out.below ((Below.refl _ _).alloc (Nat.le_refl _) (Obj.cells (pe (imp b true)).toArray 26)))
        have HO3 := Aside0.mk (HO2.out.below ((Below.refl _ _).alloc (Nat.le_refl _) (Obj.cells (pe (imp b true)).toArray 26)))
        have HC3 := Aside0.mk (Bk.new wc (imp b true))
        change Code.wp Try.prog _ _ _ (wc.alloc (.cells (pe (imp b true)).toArray 26))
        clear a0 a1 a2 a3 a4 a5 a6 a7 b0 b1 b2 b3 b4 b5 b6 b7 HA2 HO2 HB2
        generalize wc.heap.size = p8 at *
        generalize wc.alloc (.cells (pe (imp b true)).toArray 26) = w3 at *
        obtain ⟨a0, a1, a2, a3, a4, a5, a6, a7⟩ := HA3.out.eig
        simp only [Nat.zero_add, imp] at a0 a1 a2 a3 a4 a5 a6 a7
        go_upto_region 11 with fail
        have HB5 : Aside0 (Below W.heap.size W (w3.alloc (.cells (pe (imp a false)).toArray 26))) := ⟨HB3.out.alloc HB3.out.size _⟩
        have hbl := (Below.refl w3.heap.size w3).alloc (Nat.le_refl _) (Obj.cells (pe (imp a false)).toArray 26)
        have HX4 : Aside0 (Bx4 (w3.alloc (.cells (pe (imp a false)).toArray 26)) W.heap.size (W.heap.size + 1) p8 w3.heap.size a b) := ⟨HA3.out.below hbl, HO3.out.below hbl, HC3.out.below hbl, Bk.new w3 (imp a false)⟩
        change Code.wp Try.prog _ _ _ (w3.alloc (.cells (pe (imp a false)).toArray 26))
        clear a0 a1 a2 a3 a4 a5 a6 a7 hbl HA3 HO3 HC3 HB3
        generalize w3.heap.size = p9 at *
        generalize w3.alloc (.cells (pe (imp a false)).toArray 26) = w4 at *
        by_cases hne : a.f2 = b.f2
        · have hd1 : (a.f2 == b.f2) = true := by simpa using hne
          have hd2 : (a.f2 != b.f2) = false := by simpa using hne
          clear hne
          refine PrintLast.start_ (n := 17) (S := fun w' => Bx4 w' W.heap.size (W.heap.size + 1) p8 p9 a b) (ds := []) #[false, false, false, false, false, false, false, false, false, false, false, false, false, false, false, false, false] (by kernel_rfl) rfl rfl (HX4.out.below (below_drew (Below.refl _ _))) (fun hHeld => ?_)
          have HB4 := Aside0.mk (below_drew HB5.out)
          clear HX4 HB5
          generalize w4.drew = w4 at *
          refine PrintLast.pure_ (i := 0) (N := some 51) (v := ?_) (a' := ?_) #[true, false, false, false, false, false, false, false, false, false, false, false, false, false, false, false, false] rfl rfl (by kernel_rfl) (fun _ _ _ h => h) (Or.inl ⟨by rfl, ?_⟩) ?_ ?_
          rotate_left
          · intro w'
            go_simp
            with_reducible rfl
          rotate_left
          · simp only [Act.put, List.setIfInBounds_toArray, List.set_cons_zero, List.set_cons_succ]
            rfl
          refine PrintLast.pure_ (i := 1) (N := some 52) (v := ?_) (a' := ?_) #[true, true, false, false, false, false, false, false, false, false, false, false, false, false, false, false, false] rfl rfl (by kernel_rfl) (fun _ _ _ h => h) (Or.inl ⟨by rfl, ?_⟩) ?_ ?_
          rotate_left
          · intro w'
            go_simp
            with_reducible rfl
          rotate_left
          · simp only [Act.put, List.setIfInBounds_toArray, List.set_cons_zero, List.set_cons_succ]
            rfl
          refine PrintLast.pure_ (i := 2) (N := some 53) (v := ?_) (a' := ?_) #[true, true, true, false, false, false, false, false, false, false, false, false, false, false, false, false, false] rfl rfl (by kernel_rfl) (fun _ _ _ h => h) (Or.inl ⟨by rfl, ?_⟩) ?_ ?_
          rotate_left
          · intro w'
            go_simp
            with_reducible rfl
          rotate_left
          · simp only [Act.put, List.setIfInBounds_toArray, List.set_cons_zero, List.set_cons_succ]
            rfl
          refine PrintLast.pure_ (i := 4) (N := some 55) (v := ?_) (a' := ?_) #[true, true, true, false, true, false, false, false, false, false, false, false, false, false, false, false, false] rfl rfl (by kernel_rfl) (fun _ _ _ h => h) (Or.inl ⟨by rfl, ?_⟩) ?_ ?_
          rotate_left
          · intro w'
            go_simp
            with_reducible rfl
          rotate_left
          · simp only [Act.put, List.setIfInBounds_toArray, List.set_cons_zero, List.set_cons_succ]
            rfl
          refine PrintLast.take_ (i := 3) (N := some 54) (v := .int .i64 a.f2) (a' := ?_) #[true, true, true, true, true, false, false, false, false, false, false, false, false, false, false, false, false] rfl rfl (by kernel_rfl) (fun _ _ _ h => h) (Or.inl ⟨by rfl, ?_⟩) hHeld ?_ ?_
          · intro w' hS
            have hc2 := (hS.1).eig.2.2.1
            simp only [Nat.zero_add, imp] at hc2
            go_simp
          rotate_left
          · simp only [Act.put, List.setIfInBounds_toArray, List.set_cons_zero, List.set_cons_succ]
            rfl
          refine PrintLast.take_ (i := 5) (N := some 56) (v := .int .i64 b.f2) (a' := ?_) #[true, true, true, true, true, true, false, false, false, false, false, false, false, false, false, false, false] rfl rfl (by kernel_rfl) (fun _ _ _ h => h) (Or.inl ⟨by rfl, ?_⟩) hHeld ?_ ?_
          · intro w' hS
            have hc2 := (hS.2.1).eig.2.2.1
            simp only [Nat.zero_add, imp] at hc2
            go_simp
          rotate_left
          · simp only [Act.put, List.setIfInBounds_toArray, List.set_cons_zero, List.set_cons_succ]
            rfl
          refine PrintLast.pure_ (i := 6) (N := some 57) (v := ?_) (a' := ?_) #[true, true, true, true, true, true, true, false, false, false, false, false, false, false, false, false, false] rfl rfl (by kernel_rfl) (fun _ _ _ h => h) (Or.inl ⟨by rfl, ?_⟩) ?_ ?_
          rotate_left
          · intro w'
            go_simp
            with_reducible rfl
          rotate_left
          · simp only [Act.put, List.setIfInBounds_toArray, List.set_cons_zero, List.set_cons_succ]
            rfl
          refine PrintLast.pure_ (i := 7) (N := some 58) (v := ?_) (a' := ?_) #[true, true, true, true, true, true, true, true, false, false, false, false, false, false, false, false, false] rfl rfl (by kernel_rfl) (fun _ _ _ h => h) (Or.inl ⟨by rfl, ?_⟩) ?_ ?_
          rotate_left
          · intro w'
            go_simp
            with_reducible rfl
          rotate_left
          · simp only [Act.put, List.setIfInBounds_toArray, List.set_cons_zero, List.set_cons_succ]
            rfl
          refine PrintLast.pure_ (i := 8) (N := some 59) (v := ?_) (a' := ?_) #[true, true, true, true, true, true, true, true, true, false, false, false, false, false, false, false, false] rfl rfl (by kernel_rfl) (fun _ _ _ h => h) (Or.inl ⟨by rfl, ?_⟩) ?_ ?_
          rotate_left
          · intro w'
            go_simp
            with_reducible rfl
          rotate_left
          · simp only [Act.put, List.setIfInBounds_toArray, List.set_cons_zero, List.set_cons_succ]
            rfl
          refine PrintLast.pure_ (i := 9) (N := some 60) (v := undef) (a' := ?_) #[true, true, true, true, true, true, true, true, true, true, false, false, false, false, false, false, false] rfl rfl (by kernel_rfl) (fun _ _ _ h => h) (Or.inr ⟨by rfl, rfl⟩) ?_ ?_
          rotate_left
          · simp only [Act.put, List.setIfInBounds_toArray, List.set_cons_zero, List.set_cons_succ]
            rfl
          refine PrintLast.pure_ (i := 10) (N := some 61) (v := undef) (a' := ?_) #[true, true, true, true, true, true, true, true, true, true, true, false, false, false, false, false, false] rfl rfl (by kernel_rfl) (fun _ _ _ h => h) (Or.inr ⟨by rfl, rfl⟩) ?_ ?_
          rotate_left
          · simp only [Act.put, List.setIfInBounds_toArray, List.set_cons_zero, List.set_cons_succ]
            rfl
          refine PrintLast.pure_ (i := 11) (N := some 62) (v := undef) (a' := ?_) #[true, true, true, true, true, true, true, true, true, true, true, true, false, false, false, false, false] rfl rfl (by kernel_rfl) (fun _ _ _ h => h) (Or.inr ⟨by rfl, rfl⟩) ?_ ?_
          rotate_left
          · simp only [Act.put, List.setIfInBounds_toArray, List.set_cons_zero, List.set_cons_succ]
            rfl
          refine PrintLast.pure_ (i := 12) (N := some 63) (v := undef) (a' := ?_) #[true, true, true, true, true, true, true, true, true, true, true, true, true, false, false, false, false] rfl rfl (by kernel_rfl) (fun _ _ _ h => h) (Or.inr ⟨by rfl, rfl⟩) ?_ ?_
          rotate_left
          · simp only [Act.put, List.setIfInBounds_toArray, List.set_cons_zero, List.set_cons_succ]
            rfl
          refine PrintLast.pure_ (i := 13) (N := some 64) (v := undef) (a' := ?_) #[true, true, true, true, true, true, true, true, true, true, true, true, true, true, false, false, false] rfl rfl (by kernel_rfl) (fun _ _ _ h => h) (Or.inr ⟨by rfl, rfl⟩) ?_ ?_
          rotate_left
          · simp only [Act.put, List.setIfInBounds_toArray, List.set_cons_zero, List.set_cons_succ]
            rfl
          refine PrintLast.pure_ (i := 14) (N := some 65) (v := undef) (a' := ?_) #[true, true, true, true, true, true, true, true, true, true, true, true, true, true, true, false, false] rfl rfl (by kernel_rfl) (fun _ _ _ h => h) (Or.inr ⟨by rfl, rfl⟩) ?_ ?_
          rotate_left
          · simp only [Act.put, List.setIfInBounds_toArray, List.set_cons_zero, List.set_cons_succ]
            rfl
          refine PrintLast.pure_ (i := 15) (N := some 66) (v := undef) (a' := ?_) #[true, true, true, true, true, true, true, true, true, true, true, true, true, true, true, true, false] rfl rfl (by kernel_rfl) (fun _ _ _ h => h) (Or.inr ⟨by rfl, rfl⟩) ?_ ?_
          rotate_left
          · simp only [Act.put, List.setIfInBounds_toArray, List.set_cons_zero, List.set_cons_succ]
            rfl
          refine PrintLast.pure_ (i := 16) (N := some 67) (v := ?_) (a' := ?_) #[true, true, true, true, true, true, true, true, true, true, true, true, true, true, true, true, true] rfl rfl (by kernel_rfl) (fun _ _ _ h => h) (Or.inl ⟨by rfl, ?_⟩) ?_ ?_
          rotate_left
          · intro w'
            go_simp
            with_reducible rfl
          rotate_left
          · simp only [Act.put, List.setIfInBounds_toArray, List.set_cons_zero, List.set_cons_succ]
            rfl
          refine PrintLast.done_ (by kernel_rfl) ?_
          go_wp2_with fail
          refine (sorts_c (Kd.C_below HC.out HB4.out) HLN.out).mono ?_
          rintro e w6 ⟨v, rfl, hr, hb⟩
          have HX6 := Aside0.mk (hHeld.below hb)
          have HB6 := Aside0.mk (below_step HB4.out hb)
          obtain ⟨A1, c1, rfl, hc1⟩ := hr.slice_
          have HR1 := Aside0.mk hr
          clear hr hb hHeld HB4
          go_wp2_with fail
          refine (sorts_c HR1.out.C26.2.2 (by rw [sortE_length]; exact HLN.out)).mono ?_
          rintro e w7 ⟨v, rfl, hr, hb⟩
          rw [sortE_twice] at hr
          have HX7 := Aside0.mk (HX6.out.below hb)
          have HB7 := Aside0.mk (below_step HB6.out hb)
          have HR7 := Aside0.mk (HR1.out.below hb)
          obtain ⟨A2, c2, rfl, hc2⟩ := hr.slice_
          have HR2 := Aside0.mk hr
          clear hr hb HX6 HB6 HR1
          go_wp2_with fail
          refine (plain_c HR2.out.C26.2.2 (by rw [sortE_length]; exact HLN.out)).mono ?_
          rintro e w8 ⟨v, rfl, hr, hb⟩
          have HX8 := Aside0.mk (HX7.out.below hb)
          have HB8 := Aside0.mk (below_step HB7.out hb)
          have HR8 := Aside0.mk (HR7.out.below hb)
          obtain ⟨A3, c3, rfl, hc3⟩ := hr.slice_
          have HR3 := Aside0.mk hr
          clear hr hb HX7 HB7 HR7 HR2
          go_wp2_with fail
          refine (plain_c HR8.out.C26.2.2 (by rw [sortE_length]; exact HLN.out)).mono ?_
          rintro e w9 ⟨v, rfl, hr, hb⟩
          have HX9 := Aside0.mk (HX8.out.below hb)
          have HB9 := Aside0.mk (below_step HB8.out hb)
          have HR9 := Aside0.mk (HR3.out.below hb)
          obtain ⟨A4, c4, rfl, hc4⟩ := hr.slice_
          have HR4 := Aside0.mk hr
          clear hr hb HX8 HB8 HR8 HR3
          go_wp2_with fail
          refine (same_c HR9.out.C33.2.2 hc3 HR4.out.C33.2.2 hc4 (by rw [sortE_length]; exact HLN.out)).mono ?_
          rintro e w10 ⟨rfl, hb⟩
          have HX10 := Aside0.mk (HX9.out.below hb)
          have HB10 := Aside0.mk (below_step HB9.out hb)
          clear hb HX9 HB9 HR9 HR4
          go_wp2_with fail
          refine (lives_c _).mono ?_
          rintro e w11 ⟨rfl, hb⟩
          have HB11 := Aside0.mk (below_step HB10.out hb)
          clear hb
          go_wp2_with fail
          go_ret
          exact ⟨rfl, HB11.out⟩
        · have HT := Aside0.mk (known_turn HKN.out hne)
          have hd1 : (a.f2 == b.f2) = false := by simpa using hne
          have hd2 : (a.f2 != b.f2) = true := by simpa using hne
          clear hne
          refine PrintLast.start_ (n := 17) (S := fun w' => Bx4 w' W.heap.size (W.heap.size + 1) p8 p9 a b) (ds := []) #[false, false, false, false, false, false, false, false, false, false, false, false, false, false, false, false, false] (by kernel_rfl) rfl rfl (HX4.out.below (below_drew (Below.refl _ _))) (fun hHeld => ?_)
          have HB4 := Aside0.mk (below_drew HB5.out)
          clear HX4 HB5
          generalize w4.drew = w4 at *
          refine PrintLast.pure_ (i := 0) (N := some 51) (v := ?_) (a' := ?_) #[true, false, false, false, false, false, false, false, false, false, false, false, false, false, false, false, false] rfl rfl (by kernel_rfl) (fun _ _ _ h => h) (Or.inl ⟨by rfl, ?_⟩) ?_ ?_
          rotate_left
          · intro w'
            go_simp
            with_reducible rfl
          rotate_left
          · simp only [Act.put, List.setIfInBounds_toArray, List.set_cons_zero, List.set_cons_succ]
            rfl
          refine PrintLast.pure_ (i := 1) (N := some 52) (v := ?_) (a' := ?_) #[true, true, false, false, false, false, false, false, false, false, false, false, false, false, false, false, false] rfl rfl (by kernel_rfl) (fun _ _ _ h => h) (Or.inl ⟨by rfl, ?_⟩) ?_ ?_
          rotate_left
          · intro w'
            go_simp
            with_reducible rfl
          rotate_left
          · simp only [Act.put, List.setIfInBounds_toArray, List.set_cons_zero, List.set_cons_succ]
            rfl
          refine PrintLast.pure_ (i := 2) (N := some 53) (v := ?_) (a' := ?_) #[true, true, true, false, false, false, false, false, false, false, false, false, false, false, false, false, false] rfl rfl (by kernel_rfl) (fun _ _ _ h => h) (Or.inl ⟨by rfl, ?_⟩) ?_ ?_
          rotate_left
          · intro w'
            go_simp
            with_reducible rfl
          rotate_left
          · simp only [Act.put, List.setIfInBounds_toArray, List.set_cons_zero, List.set_cons_succ]
            rfl
          refine PrintLast.pure_ (i := 4) (N := some 55) (v := ?_) (a' := ?_) #[true, true, true, false, true, false, false, false, false, false, false, false, false, false, false, false, false] rfl rfl (by kernel_rfl) (fun _ _ _ h => h) (Or.inl ⟨by rfl, ?_⟩) ?_ ?_
          rotate_left
          · intro w'
            go_simp
            with_reducible rfl
          rotate_left
          · simp only [Act.put, List.setIfInBounds_toArray, List.set_cons_zero, List.set_cons_succ]
            rfl
          refine PrintLast.take_ (i := 3) (N := some 54) (v := .int .i64 a.f2) (a' := ?_) #[true, true, true, true, true, false, false, false, false, false, false, false, false, false, false, false, false] rfl rfl (by kernel_rfl) (fun _ _ _ h => h) (Or.inl ⟨by rfl, ?_⟩) hHeld ?_ ?_
          · intro w' hS
            have hc2 := (hS.1).eig.2.2.1
            simp only [Nat.zero_add, imp] at hc2
            go_simp
          rotate_left
          · simp only [Act.put, List.setIfInBounds_toArray, List.set_cons_zero, List.set_cons_succ]
            rfl
          refine PrintLast.take_ (i := 5) (N := some 56) (v := .int .i64 b.f2) (a' := ?_) #[true, true, true, true, true, true, false, false, false, false, false, false, false, false, false, false, false] rfl rfl (by kernel_rfl) (fun _ _ _ h => h) (Or.inl ⟨by rfl, ?_⟩) hHeld ?_ ?_
          · intro w' hS
            have hc2 := (hS.2.1).eig.2.2.1
            simp only [Nat.zero_add, imp] at hc2
            go_simp
          rotate_left
          · simp only [Act.put, List.setIfInBounds_toArray, List.set_cons_zero, List.set_cons_succ]
            rfl
          refine PrintLast.pure_ (i := 6) (N := some 57) (v := ?_) (a' := ?_) #[true, true, true, true, true, true, true, false, false, false, false, false, false, false, false, false, false] rfl rfl (by kernel_rfl) (fun _ _ _ h => h) (Or.inl ⟨by rfl, ?_⟩) ?_ ?_
          rotate_left
          · intro w'
            go_simp
            with_reducible rfl
          rotate_left
          · simp only [Act.put, List.setIfInBounds_toArray, List.set_cons_zero, List.set_cons_succ]
            rfl
          refine PrintLast.pure_ (i := 7) (N := some 58) (v := ?_) (a' := ?_) #[true, true, true, true, true, true, true, true, false, false, false, false, false, false, false, false, false] rfl rfl (by kernel_rfl) (fun _ _ _ h => h) (Or.inl ⟨by rfl, ?_⟩) ?_ ?_
          rotate_left
          · intro w'
            go_simp
            with_reducible rfl
          rotate_left
          · simp only [Act.put, List.setIfInBounds_toArray, List.set_cons_zero, List.set_cons_succ]
            rfl
          refine PrintLast.pure_ (i := 8) (N := some 59) (v := ?_) (a' := ?_) #[true, true, true, true, true, true, true, true, true, false, false, false, false, false, false, false, false] rfl rfl (by kernel_rfl) (fun _ _ _ h => h) (Or.inl ⟨by rfl, ?_⟩) ?_ ?_
          rotate_left
          · intro w'
            go_simp
            with_reducible rfl
          rotate_left
          · simp only [Act.put, List.setIfInBounds_toArray, List.set_cons_zero, List.set_cons_succ]
            rfl
          refine PrintLast.take_ (i := 9) (N := some 60) (v := ev (imp a true)) (a' := ?_) #[true, true, true, true, true, true, true, true, true, true, false, false, false, false, false, false, false] rfl rfl (by kernel_rfl) (fun _ _ _ h => h) (yieldsIf_load_mid (by rfl) 26 (.tmp 3) rfl W.heap.size 0 rfl (pe (imp a true)) _ (fun w hS => (hS.1).range) Try.underlying26 rfl size26) hHeld ?_ ?_
          rotate_left
          · simp only [Act.put, List.setIfInBounds_toArray, List.set_cons_zero, List.set_cons_succ]
            rfl
          refine PrintLast.take_ (i := 10) (N := some 61) (v := ev (imp b true)) (a' := ?_) #[true, true, true, true, true, true, true, true, true, true, true, false, false, false, false, false, false] rfl rfl (by kernel_rfl) (fun _ _ _ h => h) (yieldsIf_load_mid (by rfl) 26 (.tmp 8) rfl p8 0 rfl (pe (imp b true)) _ (fun w hS => (hS.2.2.1).range) Try.underlying26 rfl size26) hHeld ?_ ?_
          rotate_left
          · simp only [Act.put, List.setIfInBounds_toArray, List.set_cons_zero, List.set_cons_succ]
            rfl
          refine PrintLast.take_ (i := 12) (N := some 63) (v := ev (imp a false)) (a' := ?_) #[true, true, true, true, true, true, true, true, true, true, true, false, true, false, false, false, false] rfl rfl (by kernel_rfl) (fun _ _ _ h => h) (yieldsIf_load_mid (by rfl) 26 (.tmp 9) rfl p9 0 rfl (pe (imp a false)) _ (fun w hS => (hS.2.2.2).range) Try.underlying26 rfl size26) hHeld ?_ ?_
          rotate_left
          · simp only [Act.put, List.setIfInBounds_toArray, List.set_cons_zero, List.set_cons_succ]
            rfl
          refine PrintLast.take_ (i := 13) (N := some 64) (v := ev (imp b false)) (a' := ?_) #[true, true, true, true, true, true, true, true, true, true, true, false, true, true, false, false, false] rfl rfl (by kernel_rfl) (fun _ _ _ h => h) (yieldsIf_load_mid (by rfl) 26 (.tmp 4) rfl (W.heap.size + 1) 0 rfl (pe (imp b false)) _ (fun w hS => (hS.2.1).range) Try.underlying26 rfl size26) hHeld ?_ ?_
          rotate_left
          · simp only [Act.put, List.setIfInBounds_toArray, List.set_cons_zero, List.set_cons_succ]
            rfl
          refine PrintLast.one_ (i := 11) (N := some 62) #[true, true, true, true, true, true, true, true, true, true, true, true, true, true, false, false, false] rfl rfl (by kernel_rfl) (by decide) (fun K hK => ?_)
          refine PrintLast.goes_ Try.func11 (by kernel_rfl) rfl #[ev (imp a true), ev (imp b true)] (by rfl) rfl rfl (by first | rfl | (simp only [List.map_toArray, List.map_cons, List.map_nil]; rfl)) ?_
          refine (less_c (imp a true) (imp b true) _).mono ?_
          rintro e w5 ⟨rfl, hb⟩
          refine ⟨_, rfl, ?_⟩
          have HB1 := Aside0.mk (below_step HB4.out hb)
          clear HB4
          have HB4 := HB1
          clear HB1
          refine hK.out _ _ (Bx4.below hHeld hb) (fun hHeld => ?_)
          clear hK K hb
          refine PrintLast.norm_ (a' := ?_) ?_ ?_
          rotate_left
          · show Act.put _ (some 62) _ = _
            simp only [Act.put, List.setIfInBounds_toArray, List.set_cons_zero, List.set_cons_succ]
            rfl
          refine PrintLast.one_ (i := 14) (N := some 65) #[true, true, true, true, true, true, true, true, true, true, true, true, true, true, true, false, false] rfl rfl (by kernel_rfl) (by decide) (fun K hK => ?_)
          refine PrintLast.goes_ Try.func11 (by kernel_rfl) rfl #[ev (imp a false), ev (imp b false)] (by rfl) rfl rfl (by first | rfl | (simp only [List.map_toArray, List.map_cons, List.map_nil]; rfl)) ?_
          refine (less_c (imp a false) (imp b false) _).mono ?_
          rintro e w5 ⟨rfl, hb⟩
          refine ⟨_, rfl, ?_⟩
          have HB1 := Aside0.mk (below_step HB4.out hb)
          clear HB4
          have HB4 := HB1
          clear HB1
          refine hK.out _ _ (Bx4.below hHeld hb) (fun hHeld => ?_)
          clear hK K hb
          refine PrintLast.norm_ (a' := ?_) ?_ ?_
          rotate_left
          · show Act.put _ (some 65) _ = _
            simp only [Act.put, List.setIfInBounds_toArray, List.set_cons_zero, List.set_cons_succ]
            rfl
          have KT := HT.out
          refine PrintLast.pure_ (i := 15) (N := some 66) (v := ?_) (a' := ?_) #[true, true, true, true, true, true, true, true, true, true, true, true, true, true, true, true, false] rfl rfl (by kernel_rfl) (fun _ _ _ h => h) (Or.inl ⟨by rfl, ?_⟩) ?_ ?_
          rotate_left
          · intro w'
            go_simp
            with_reducible rfl
          rotate_left
          · simp only [Act.put, List.setIfInBounds_toArray, List.set_cons_zero, List.set_cons_succ]
            rfl
          refine PrintLast.pure_ (i := 16) (N := some 67) (v := ?_) (a' := ?_) #[true, true, true, true, true, true, true, true, true, true, true, true, true, true, true, true, true] rfl rfl (by kernel_rfl) (fun _ _ _ h => h) (Or.inl ⟨by rfl, ?_⟩) ?_ ?_
          rotate_left
          · intro w'
            go_simp
            with_reducible rfl
          rotate_left
          · simp only [Act.put, List.setIfInBounds_toArray, List.set_cons_zero, List.set_cons_succ]
            rfl
          refine PrintLast.done_ (by kernel_rfl) ?_
          go_wp2_with fail
          refine (sorts_c (Kd.C_below HC.out HB4.out) HLN.out).mono ?_
          rintro e w6 ⟨v, rfl, hr, hb⟩
          have HX6 := Aside0.mk (hHeld.below hb)
          have HB6 := Aside0.mk (below_step HB4.out hb)
          obtain ⟨A1, c1, rfl, hc1⟩ := hr.slice_
          have HR1 := Aside0.mk hr
          clear hr hb hHeld HB4
          go_wp2_with fail
          refine (sorts_c HR1.out.C26.2.2 (by rw [sortE_length]; exact HLN.out)).mono ?_
          rintro e w7 ⟨v, rfl, hr, hb⟩
          rw [sortE_twice] at hr
          have HX7 := Aside0.mk (HX6.out.below hb)
          have HB7 := Aside0.mk (below_step HB6.out hb)
          have HR7 := Aside0.mk (HR1.out.below hb)
          obtain ⟨A2, c2, rfl, hc2⟩ := hr.slice_
          have HR2 := Aside0.mk hr
          clear hr hb HX6 HB6 HR1
          go_wp2_with fail
          refine (plain_c HR2.out.C26.2.2 (by rw [sortE_length]; exact HLN.out)).mono ?_
          rintro e w8 ⟨v, rfl, hr, hb⟩
          have HX8 := Aside0.mk (HX7.out.below hb)
          have HB8 := Aside0.mk (below_step HB7.out hb)
          have HR8 := Aside0.mk (HR7.out.below hb)
          obtain ⟨A3, c3, rfl, hc3⟩ := hr.slice_
          have HR3 := Aside0.mk hr
          clear hr hb HX7 HB7 HR7 HR2
          go_wp2_with fail
          refine (plain_c HR8.out.C26.2.2 (by rw [sortE_length]; exact HLN.out)).mono ?_
          rintro e w9 ⟨v, rfl, hr, hb⟩
          have HX9 := Aside0.mk (HX8.out.below hb)
          have HB9 := Aside0.mk (below_step HB8.out hb)
          have HR9 := Aside0.mk (HR3.out.below hb)
          obtain ⟨A4, c4, rfl, hc4⟩ := hr.slice_
          have HR4 := Aside0.mk hr
          clear hr hb HX8 HB8 HR8 HR3
          go_wp2_with fail
          refine (same_c HR9.out.C33.2.2 hc3 HR4.out.C33.2.2 hc4 (by rw [sortE_length]; exact HLN.out)).mono ?_
          rintro e w10 ⟨rfl, hb⟩
          have HX10 := Aside0.mk (HX9.out.below hb)
          have HB10 := Aside0.mk (below_step HB9.out hb)
          clear hb HX9 HB9 HR9 HR4
          go_wp2_with fail
          refine (lives_c _).mono ?_
          rintro e w11 ⟨rfl, hb⟩
          have HB11 := Aside0.mk (below_step HB10.out hb)
          clear hb
          go_wp2_with fail
          go_ret
          exact ⟨rfl, HB11.out⟩
end Go.Proofs.Ytahihhklijcghaa
