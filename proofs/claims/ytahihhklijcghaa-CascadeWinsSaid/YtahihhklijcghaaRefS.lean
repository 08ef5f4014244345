/-
  The document's Less, Rank and Sort: the walk.
-/
import Derived.Test.YtahihhklijcghaaRow8
import Derived.Test.YtahihhklijcghaaRefA
import Derived.Test.YtahihhklijcghaaWLast
namespace Go.Proofs.Ytahihhklijcghaa
open Go.RowKit Go.Proofs.YtahihhklijcghaaW Go.Proofs.YtahihhklijcghaaW.PrintWords PCascadeSorts
set_option linter.unusedVariables false
set_option linter.unusedSimpArgs false
theorem rrank_f (e : S26) (k : Nat) : gouacheref17_Rank.f (k + 1) e.f0 e.f1 e.f2 e.f3 e.f4.f0 e.f4.f1 e.f4.f2 e.f5 = some (rankS e) := by
  unfold gouacheref17_Rank.f rankS
  rw [gouacheref17_Rank.j0, gouacheref17_Rank.j0]
  by_cases h1 : e.f2 < 1
  · rw [if_pos h1, if_pos rfl, if_pos (Or.inl h1)]
  · rw [if_neg h1]
    by_cases h2 : e.f2 > 3
    · rw [if_pos (decide_eq_true h2), if_pos (Or.inr h2)]
    · have h3 : ¬ (e.f2 < 1 ∨ e.f2 > 3) := by omega
      rw [if_neg (by simp only [decide_eq_true_eq]; exact h2), if_neg h3]
      by_cases h4 : e.f3 = true
      · rw [if_pos h4, if_pos h4]
      · rw [if_neg h4, if_neg h4]
theorem rless_f (a b : S26) (k : Nat) : gouacheref17_Less.f (k + 1) a.f0 a.f1 a.f2 a.f3 a.f4.f0 a.f4.f1 a.f4.f2 a.f5 b.f0 b.f1 b.f2 b.f3 b.f4.f0 b.f4.f1 b.f4.f2 b.f5 = some (lessS a b) := by
  unfold gouacheref17_Less.f lessS
  rw [rrank_f, Option.bind_some, rrank_f, Option.bind_some]
  by_cases h : rankS a = rankS b
  · rw [if_pos h, if_pos h]
    have e : ((!(a.f4.f0 == b.f4.f0) || (!(a.f4.f1 == b.f4.f1) || (!(a.f4.f2 == b.f4.f2)))) = true) = (sameSpec a.f4 b.f4 = false) := by
      unfold sameSpec
      rw [← Bool.not_and, ← Bool.not_and, Bool.not_eq_true']
    simp only [e]
    by_cases h2 : sameSpec a.f4 b.f4 = false
    · rw [if_pos h2, if_pos h2]
      unfold gouacheref05_Less.f specLess
      split
      · split <;> rfl
      · rfl
    · rw [if_neg h2, if_neg h2]
  · rw [if_neg h, if_neg h]
    rfl
theorem rless_c (a b : S26) (W : World) : Calls Try.prog 14 #[ev a, ev b] W fun e w' => e = .returned (.bool (lessS a b)) ∧ Below W.heap.size W w' :=
  gouacheref17_Less.calls 1 _ _ _ _ _ _ _ _ _ _ _ _ _ _ _ _ _ W (rless_f a b 0)
theorem rrank_c (a : S26) (W : World) : Calls Try.prog 13 #[ev a] W fun e w' => e = .returned (.int .i64 (rankS a)) ∧ Below W.heap.size W w' :=
  gouacheref17_Rank.calls 1 _ _ _ _ _ _ _ _ _ W (rrank_f a 0)
/-- One more, from the end. -/
def insR (x : S26) : List S26 → List S26
  | [] => [x]
  | y :: r => if lessS x y = true then y :: insR x r else x :: y :: r
def insE (x : S26) (R : List S26) : List S26 := (insR x R.reverse).reverse
theorem insE_nil (x : S26) : insE x [] = [x] := rfl
theorem insE_less {x y : S26} (A : List S26) (h : lessS x y = true) : insE x (A ++ [y]) = insE x A ++ [y] := by
  unfold insE
  rw [List.reverse_append, List.reverse_singleton, List.singleton_append, insR, if_pos h, List.reverse_cons]
theorem insE_not {x y : S26} (A : List S26) (h : lessS x y = false) : insE x (A ++ [y]) = A ++ [y] ++ [x] := by
  unfold insE
  rw [List.reverse_append, List.reverse_singleton, List.singleton_append, insR, if_neg (by simp [h])]
  simp
theorem insR_length (x : S26) : ∀ R : List S26, (insR x R).length = R.length + 1
  | [] => rfl
  | y :: r => by
    unfold insR
    split
    · simp [insR_length x r]
    · rfl
theorem insE_length (x : S26) (R : List S26) : (insE x R).length = R.length + 1 := by
  unfold insE
  rw [List.length_reverse, insR_length, List.length_reverse]
def sortE (l : List S26) : List S26 := l.foldl (fun R x => insE x R) []
theorem sortE_snoc (l : List S26) (x : S26) : sortE (l ++ [x]) = insE x (sortE l) := by
  unfold sortE
  rw [List.foldl_append]
  rfl
theorem sortE_length (l : List S26) : (sortE l).length = l.length := by
  suffices h : ∀ (l R : List S26), (l.foldl (fun R x => insE x R) R).length = R.length + l.length by
    have := h l []
    simpa [sortE] using this
  intro l
  induction l with
  | nil => intro R; rfl
  | cons x l ih => intro R; rw [List.foldl_cons, ih, insE_length, List.length_cons]; omega
theorem size33 : (Try.prog.info? 33).map (·.size) = some 8 := by kernel_rfl
theorem i64_id {x : Int} (h0 : -1 ≤ x) (h1 : x ≤ 1000) : IntKind.i64.wrap x = x := by
  rw [PrintLast.i64_w]
  unfold wrap64
  omega
theorem Eight.of_row {t : TypeId} {W : World} {g c : Nat} {L : List S26} (h : Row8 t W g c L) (j : Nat) (hj : j < L.length) : Eight W ⟨g, j * 8, none⟩ L[j] :=
  ⟨h.cell j hj 0 (by decide), h.cell j hj 1 (by decide), h.cell j hj 2 (by decide), h.cell j hj 3 (by decide), h.cell j hj 4 (by decide), h.cell j hj 5 (by decide), h.cell j hj 6 (by decide), h.cell j hj 7 (by decide)⟩
theorem Row8.fr {t : TypeId} {W W' : World} {g c : Nat} {L : List S26} {T : Nat → Prop} (h : Row8 t W g c L) (hf : Fr T W W') (hg : ¬ T g) : Row8 t W' g c L := by
  obtain ⟨cur, hc, ht⟩ := h
  exact ⟨cur, (hf.block g (blk_lt hc) hg).trans hc, ht⟩
/-- An entry's cells at a place. -/
def Eig (W : World) (g o : Nat) (x : S26) : Prop :=
  W.cell? ⟨g, o, none⟩ = some (.string x.f0) ∧ W.cell? ⟨g, o + 1, none⟩ = some (.string x.f1) ∧ W.cell? ⟨g, o + 2, none⟩ = some (.int .i64 x.f2) ∧ W.cell? ⟨g, o + 3, none⟩ = some (.bool x.f3) ∧ W.cell? ⟨g, o + 4, none⟩ = some (.int .i64 x.f4.f0) ∧ W.cell? ⟨g, o + 5, none⟩ = some (.int .i64 x.f4.f1) ∧ W.cell? ⟨g, o + 6, none⟩ = some (.int .i64 x.f4.f2) ∧ W.cell? ⟨g, o + 7, none⟩ = some (.int .i64 x.f5)
theorem Row8.eig {t : TypeId} {W : World} {g c : Nat} {L : List S26} (h : Row8 t W g c L) (j : Nat) (hj : j < L.length) : Eig W g (j * 8) L[j] := Eight.of_row h j hj
/-- What the inner loop goes through: x stands behind A, ahead of B. -/
structure Bub (R : List S26) (x : S26) (A B X : List S26) : Prop where
  list : X = A ++ x :: B
  rest : insE x R = insE x A ++ B
theorem Bub.start (R : List S26) (x : S26) : Bub R x R [] (R ++ [x]) := ⟨rfl, by simp⟩
theorem Bub.step {R A B X : List S26} {x y : S26} (h : Bub R x (A ++ [y]) B X) (hl : lessS x y = true) : Bub R x A (y :: B) ((X.set A.length x).set (A.length + 1) y) := by
  obtain ⟨rfl, h2⟩ := h
  constructor
  · simp [List.append_assoc]
  · rw [h2, insE_less A hl]
    simp
theorem Bub.stop {R A B X : List S26} {x y : S26} (h : Bub R x (A ++ [y]) B X) (hl : lessS x y = false) : X = insE x R := by
  obtain ⟨rfl, h2⟩ := h
  rw [h2, insE_not A hl]
  simp
theorem Bub.front {R B X : List S26} {x : S26} (h : Bub R x [] B X) : X = insE x R := by
  obtain ⟨rfl, h2⟩ := h
  rw [h2, insE_nil]
  simp
set_option maxHeartbeats 2000000 in
set_option maxRecDepth 100000 in
theorem rsort_c {W : World} {A : Option Addr} {c : Nat} {l : List S26} (h : Kd.C k33 W A (l.map to33).length (l.map to33)) (hn : l.length ≤ 100) :
    Calls Try.prog 18 #[.slice A l.length c] W fun e w' => ∃ v, e = .returned v ∧ Rw 33 w' W.heap.size v (sortE l) ∧ Below W.heap.size W w' := by
  have HC := Aside0.mk h
  have gn : (l.length : Int) ≤ 100 := by omega
  clear h
  go_enter Try.func18, Try.ntmps18
  go_wp2_with fail
  go_loopw [3, 9] (fun v3 v9 wr => ∃ k : Nat, v9 = .int .i64 k ∧ k ≤ l.length ∧ Aside0 (Rw 33 wr W.heap.size v3 (sortE (l.take k))) ∧ Aside0 (Below W.heap.size W wr)) (fun _ v9 _ => l.length - (intOf v9).toNat)
  case atStart => exact ⟨0, rfl, Nat.zero_le _, ⟨Rw.nil _ _ _⟩, ⟨Below.refl _ _⟩⟩
  case round =>
    obtain ⟨k, rfl, hk, HR, HB⟩ := hrel
    by_cases hlt : k < l.length
    · have gk : (k : Int) < (l.length : Int) := by omega
      obtain ⟨ad, rfl, h8⟩ := ent_at33 HC.out k hlt
      have h8 := h8.below HB.out
      obtain ⟨c0, c1, c2, c3, c4, c5, c6, c7⟩ := h8
      have HT : Aside0 (sortE (l.take (k + 1)) = insE l[k] (sortE (l.take k))) := ⟨by rw [List.take_succ_eq_append_getElem hlt, sortE_snoc]⟩
      have hlen : (sortE (l.take k)).length = k := by rw [sortE_length, List.length_take]; omega
      generalize l[k] = x at *
      generalize sortE (l.take k) = R at *
      have HB3 : Aside0 (Below W.heap.size W (wr.alloc (.cells (pe x).toArray 33))) := ⟨HB.out.alloc HB.out.size _⟩
      have HS3 : Aside0 (W.heap.size ≤ (wr.alloc (.cells (pe x).toArray 33)).heap.size) := ⟨HB3.out.size⟩
      have HR3 := Aside0.mk (HR.out.below ((Below.refl _ _).alloc (Nat.le_refl _) (Obj.cells (pe x).toArray 33)))
      obtain ⟨inner, hown, hreps⟩ := HR3.out
      have HOW := Aside0.mk hown
      have HRE := Aside0.mk hreps
      have HLE : Aside0 (R.length ≤ 100) := ⟨by omega⟩
      have HLK := Aside0.mk hlen
      have gR : (R.length : Int) ≤ 100 := by have := HLE.out; omega
      clear hown hreps hlen
      go_wp2_with (at_builtin; refine print_append_cells (w0 := W) (W := wr.alloc (.cells (pe x).toArray 33)) W.heap.size rfl (.tmp 13) (.tmp 15) 38 33 _ 8 80 rfl Try.underlying38 info33 rfl (by decide) (by decide) u3 R.length inner (pe x) rfl (by rw [World.size_alloc]; rfl) rfl (pe_one _) HOW.out HB3.out HS3.out (by have := HLE.out; omega) ?_; intro v1 w4 ho4 hb4 hg4 hv4; have HR4 := Aside0.mk (Rw.snoc HRE.out ho4); have HB4 := Aside0.mk hb4; clear ho4 hb4 hg4 hv4; obtain ⟨g, cg, hv1, hbg, hrow⟩ := HR4.out.row8 (by simp); subst hv1; have HROW := Aside0.mk hrow; have HBG := Aside0.mk hbg; clear hrow hbg HR4)
      have hl1 : (R ++ [x]).length = R.length + 1 := by rw [List.length_append]; rfl
      have gR0 : True := trivial
      clear c0 c1 c2 c3 c4 c5 c6 c7 h8 HOW HRE HR3 HS3 HB3 HR HB
      go_wp2_with fail
      go_loopw [6] (fun v6 w5 => ∃ A B X : List S26, v6 = .int .i64 A.length ∧ A.length ≤ R.length ∧ X.length = R.length + 1 ∧ Aside0 (Bub R x A B X) ∧ Aside0 (Row8 33 w5 g cg X) ∧ Aside0 (Below W.heap.size W w5)) (fun v6 _ => (intOf v6).toNat)
      case atStart => exact ⟨R, [], R ++ [x], by first | rfl | (congr 1), Nat.le_refl _, hl1, ⟨Bub.start R x⟩, HROW, HB4⟩
      case round =>
        clear HROW HB4
        obtain ⟨A, B, X, rfl, hA, hX, HBU, HRO, HB⟩ := hrel
        rcases List.eq_nil_or_concat A with rfl | ⟨A, y, rfl⟩
        · have HX := Aside0.mk HBU.out.front
          have HRW : Aside0 (Rw 33 _ W.heap.size (.slice (some ⟨g, 0, none⟩) X.length cg) X) := ⟨HRO.out.rw_ HBG.out⟩
          rw [hX, HX.out, ← HT.out] at HRW
          clear hA hX HX HRO
          go_wp2_with fail
          go_quiet (fail)
          go_wp2_with fail
          go_roundw
          case rel => exact ⟨k + 1, by go_num, by omega, ⟨HRW.out.below (pw_below_drewN (Below.refl _ _) _)⟩, ⟨pw_below_drewN HB.out _⟩⟩
          case measure => simp [intOf]; omega
        · rw [List.concat_eq_append] at *
          have hm : (A ++ [y]).length = A.length + 1 := by rw [List.length_append]; rfl
          rw [hm] at hA ⊢
          obtain ⟨m, hm2⟩ : ∃ m, A.length = m := ⟨_, rfl⟩
          have HM := Aside0.mk hm2
          rw [hm2] at hA ⊢
          have hmx : X[m + 1]'(by omega) = x := by
            have := HBU.out.list
            subst this
            subst hm2
            simp
          have hmy : X[m]'(by omega) = y := by
            have := HBU.out.list
            subst this
            subst hm2
            simp
          have HRD : Aside0 (Row8 33 wr.drew g cg X) := ⟨HRO.out⟩
          have HBD := Aside0.mk (below_drew HB.out)
          have hx8 := HRD.out.eig (m + 1) (by omega)
          have hy8 := HRD.out.eig m (by omega)
          rw [hmx] at hx8
          rw [hmy] at hy8
          obtain ⟨x0, x1, x2, x3, x4, x5, x6, x7⟩ := hx8
          obtain ⟨y0, y1, y2, y3, y4, y5, y6, y7⟩ := hy8
          have HLS := fun w => Aside0.mk (rless_c x y w)
          have gm : (m : Int) + 1 ≤ 100 := by have := HLE.out; omega
          have gm2 : (0 : Int) < (m : Int) + 1 := by omega
          have gm3 : (m : Int) < (R.length : Int) := by omega
          have gm4 : (m : Int) + 1 < (R.length : Int) + 1 := by omega
          have gt1 : ((m : Int) + 1).toNat = m + 1 := by omega
          have gt0 : (0 : Int) ≤ (m : Int) + 1 := by omega
          have gt2 : (m : Int) + 1 < ((R.length + 1 : Nat) : Int) := by omega
          have gt4 : (m : Int) < (R.length : Int) + 1 := by omega
          have gt5 : IntKind.i64.wrap (m : Int) = (m : Int) := by rw [PrintLast.i64_w]; unfold wrap64; omega
          have gt3 : IntKind.i64.wrap ((m : Int) + 1 - 1) = (m : Int) := by rw [PrintLast.i64_w]; unfold wrap64; omega
          have HXX := Aside0.mk hmx
          have HXY := Aside0.mk hmy
          clear hmx hmy
          go_wp2_with fail
          refine still_tail 12 (by kernel_rfl) (by kernel_rfl) ?_
          simp only [List.take_succ_cons, List.take_zero, List.drop_succ_cons, List.drop_zero]
          generalize wr.drew = w6 at *
          repeat still_step
          refine wpStill_nil ?_
          go_wp2_with fail
          refine (HLS _).out.mono ?_
          rintro e w7 ⟨rfl, hb⟩
          have hrw : Row8 33 w7 g cg X := HRD.out.fr (Fr.of_below hb (fun _ => False)) (fun h => h)
          have HRO7 := Aside0.mk hrw
          have HB7 := Aside0.mk (below_step HBD.out hb)
          clear hb hrw HRD HBD HLS HRO HB x0 x1 x2 x3 x4 x5 x6 x7 y0 y1 y2 y3 y4 y5 y6 y7
          cases hls : lessS x y with
          | false =>
            have HX := Aside0.mk (HBU.out.stop hls)
            have HRW : Aside0 (Rw 33 _ W.heap.size (.slice (some ⟨g, 0, none⟩) X.length cg) X) := ⟨HRO7.out.rw_ HBG.out⟩
            rw [hX, HX.out, ← HT.out] at HRW
            clear hls hA hX HXX HXY HX HRO7 HBU hm2 gm gm2 gm3 gm4 gt0 gt1 gt2 gt3 gt4 gt5 hm
            go_wp2_with fail
            go_roundw
            case rel => exact ⟨k + 1, by go_num, by omega, HRW, HB7⟩
            case measure => simp [intOf]; omega
          | true =>
            have HBU2 := Aside0.mk (HBU.out.step hls)
            rw [HM.out] at HBU2
            clear hls HBU
            have hrd : Row8 33 w7.drew g cg X := HRO7.out
            have HX2 := Aside0.mk ((hrd.put m (by omega) x).put (m + 1) (by rw [List.length_set]; omega) y)
            have HF2 : Aside0 (Fr (fun k => k = g) w7 (put8 (put8 w7.drew g (m * 8) x) g ((m + 1) * 8) y)) := ⟨put8_fr (put8_fr ((Fr.refl _ _).drewN 1) rfl) rfl⟩
            have rx := hrd.range (m + 1) (by omega)
            have ry := hrd.range m (by omega)
            have tx := hrd.there (m + 1) (by omega)
            have ty := hrd.there m (by omega)
            rw [HXX.out] at rx
            rw [HXY.out] at ry
            rw [← put8_cells, ← put8_cells] at HX2 HF2
            have HOX := Aside0.mk (pe_one x)
            have HOY := Aside0.mk (pe_one y)
            have HLX : Aside0 ((pe x).length = 8) := ⟨rfl⟩
            have HLY : Aside0 ((pe y).length = 8) := ⟨rfl⟩
            generalize hpx : pe x = xx at *
            generalize hpy : pe y = xy at *
            have HRX := Aside0.mk rx
            have HRY := Aside0.mk ry
            have HTX := Aside0.mk tx
            have HTY := Aside0.mk ty
            clear rx ry tx ty hpx hpy hrd
            go_wp2_with fail
            refine PrintLast.start_ (n := 18) (S := fun w' => w'.rangeAt g ((m + 1) * 8) xx ∧ w'.rangeAt g (m * 8) xy) (ds := [15, 17]) #[false, false, false, false, false, false, false, false, false, false, false, false, false, false, false, false, false, false] (by kernel_rfl) rfl rfl ⟨HRX.out, HRY.out⟩ (fun hHeld => ?_)
            refine PrintLast.pure_ (i := 0) (N := some 36) (v := ?_) (a' := ?_) #[true, false, false, false, false, false, false, false, false, false, false, false, false, false, false, false, false, false] rfl rfl (by kernel_rfl) (fun _ _ _ h => h) (Or.inl ⟨by rfl, ?_⟩) ?_ ?_
            rotate_left
            · intro w'
              go_simp
              with_reducible rfl
            rotate_left
            · simp only [Act.put, List.setIfInBounds_toArray, List.set_cons_zero, List.set_cons_succ]
              rfl
            refine PrintLast.pure_ (i := 1) (N := some 37) (v := ?_) (a' := ?_) #[true, true, false, false, false, false, false, false, false, false, false, false, false, false, false, false, false, false] rfl rfl (by kernel_rfl) (fun _ _ _ h => h) (Or.inl ⟨by rfl, ?_⟩) ?_ ?_
            rotate_left
            · intro w'
              go_simp
              with_reducible rfl
            rotate_left
            · simp only [Act.put, List.setIfInBounds_toArray, List.set_cons_zero, List.set_cons_succ]
              rfl
            refine PrintLast.pure_ (i := 2) (N := some 38) (v := ?_) (a' := ?_) #[true, true, true, false, false, false, false, false, false, false, false, false, false, false, false, false, false, false] rfl rfl (by kernel_rfl) (fun _ _ _ h => h) (Or.inl ⟨by rfl, ?_⟩) ?_ ?_
            rotate_left
            · intro w'
              go_simp
              with_reducible rfl
            rotate_left
            · simp only [Act.put, List.setIfInBounds_toArray, List.set_cons_zero, List.set_cons_succ]
              rfl
            refine PrintLast.pure_ (i := 3) (N := some 39) (v := ?_) (a' := ?_) #[true, true, true, true, false, false, false, false, false, false, false, false, false, false, false, false, false, false] rfl rfl (by kernel_rfl) (fun _ _ _ h => h) (Or.inl ⟨by rfl, ?_⟩) ?_ ?_
            rotate_left
            · intro w'
              go_simp
              with_reducible rfl
            rotate_left
            · simp only [Act.put, List.setIfInBounds_toArray, List.set_cons_zero, List.set_cons_succ]
              rfl
            refine PrintLast.pure_ (i := 4) (N := some 40) (v := ?_) (a' := ?_) #[true, true, true, true, true, false, false, false, false, false, false, false, false, false, false, false, false, false] rfl rfl (by kernel_rfl) (fun _ _ _ h => h) (Or.inl ⟨by rfl, ?_⟩) ?_ ?_
            rotate_left
            · intro w'
              go_simp
              with_reducible rfl
            rotate_left
            · simp only [Act.put, List.setIfInBounds_toArray, List.set_cons_zero, List.set_cons_succ]
              rfl
            refine PrintLast.pure_ (i := 5) (N := some 41) (v := ?_) (a' := ?_) #[true, true, true, true, true, true, false, false, false, false, false, false, false, false, false, false, false, false] rfl rfl (by kernel_rfl) (fun _ _ _ h => h) (Or.inl ⟨by rfl, ?_⟩) ?_ ?_
            rotate_left
            · intro w'
              go_simp
              with_reducible rfl
            rotate_left
            · simp only [Act.put, List.setIfInBounds_toArray, List.set_cons_zero, List.set_cons_succ]
              rfl
            refine PrintLast.pure_ (i := 6) (N := some 42) (v := ?_) (a' := ?_) #[true, true, true, true, true, true, true, false, false, false, false, false, false, false, false, false, false, false] rfl rfl (by kernel_rfl) (fun _ _ _ h => h) (Or.inl ⟨by rfl, ?_⟩) ?_ ?_
            rotate_left
            · intro w'
              go_simp
              with_reducible rfl
            rotate_left
            · simp only [Act.put, List.setIfInBounds_toArray, List.set_cons_zero, List.set_cons_succ]
              rfl
            refine PrintLast.pure_ (i := 7) (N := some 43) (v := ?_) (a' := ?_) #[true, true, true, true, true, true, true, true, false, false, false, false, false, false, false, false, false, false] rfl rfl (by kernel_rfl) (fun _ _ _ h => h) (Or.inl ⟨by rfl, ?_⟩) ?_ ?_
            rotate_left
            · intro w'
              go_simp
              with_reducible rfl
            rotate_left
            · simp only [Act.put, List.setIfInBounds_toArray, List.set_cons_zero, List.set_cons_succ]
              rfl
            refine PrintLast.pure_ (i := 9) (N := some 45) (v := ?_) (a' := ?_) #[true, true, true, true, true, true, true, true, false, true, false, false, false, false, false, false, false, false] rfl rfl (by kernel_rfl) (fun _ _ _ h => h) (Or.inl ⟨by rfl, ?_⟩) ?_ ?_
            rotate_left
            · intro w'
              go_simp
              with_reducible rfl
            rotate_left
            · simp only [Act.put, List.setIfInBounds_toArray, List.set_cons_zero, List.set_cons_succ]
              rfl
            refine PrintLast.pure_ (i := 10) (N := some 46) (v := ?_) (a' := ?_) #[true, true, true, true, true, true, true, true, false, true, true, false, false, false, false, false, false, false] rfl rfl (by kernel_rfl) (fun _ _ _ h => h) (Or.inl ⟨by rfl, ?_⟩) ?_ ?_
            rotate_left
            · intro w'
              go_simp
              with_reducible rfl
            rotate_left
            · simp only [Act.put, List.setIfInBounds_toArray, List.set_cons_zero, List.set_cons_succ]
              rfl
            refine PrintLast.pure_ (i := 11) (N := some 47) (v := ?_) (a' := ?_) #[true, true, true, true, true, true, true, true, false, true, true, true, false, false, false, false, false, false] rfl rfl (by kernel_rfl) (fun _ _ _ h => h) (Or.inl ⟨by rfl, ?_⟩) ?_ ?_
            rotate_left
            · intro w'
              go_simp
              with_reducible rfl
            rotate_left
            · simp only [Act.put, List.setIfInBounds_toArray, List.set_cons_zero, List.set_cons_succ]
              rfl
            refine PrintLast.pure_ (i := 12) (N := some 48) (v := ?_) (a' := ?_) #[true, true, true, true, true, true, true, true, false, true, true, true, true, false, false, false, false, false] rfl rfl (by kernel_rfl) (fun _ _ _ h => h) (Or.inl ⟨by rfl, ?_⟩) ?_ ?_
            rotate_left
            · intro w'
              go_simp
              with_reducible rfl
            rotate_left
            · simp only [Act.put, List.setIfInBounds_toArray, List.set_cons_zero, List.set_cons_succ]
              rfl
            refine PrintLast.take_ (i := 8) (N := some 44) (v := .agg xx.toArray) (a' := ?_) #[true, true, true, true, true, true, true, true, true, true, true, true, true, false, false, false, false, false] rfl rfl (by kernel_rfl) (fun _ _ _ h => h) (yieldsIf_load_mid (by rfl) 33 (.tmp 43) rfl g ((m + 1) * 8) rfl xx _ (fun w hS => hS.1) Try.underlying33 rfl (by rw [size33, HLX.out])) hHeld ?_ ?_
            rotate_left
            · simp only [Act.put, List.setIfInBounds_toArray, List.set_cons_zero, List.set_cons_succ]
              rfl
            refine PrintLast.take_ (i := 13) (N := some 49) (v := .agg xy.toArray) (a' := ?_) #[true, true, true, true, true, true, true, true, true, true, true, true, true, true, false, false, false, false] rfl rfl (by kernel_rfl) (fun _ _ _ h => h) (yieldsIf_load_mid (by rfl) 33 (.tmp 48) rfl g (m * 8) rfl xy _ (fun w hS => hS.2) Try.underlying33 rfl (by rw [size33, HLY.out])) hHeld ?_ ?_
            rotate_left
            · simp only [Act.put, List.setIfInBounds_toArray, List.set_cons_zero, List.set_cons_succ]
              rfl
            refine PrintLast.pure_ (i := 14) (N := some 50) (v := ?_) (a' := ?_) #[true, true, true, true, true, true, true, true, true, true, true, true, true, true, true, false, false, false] rfl rfl (by kernel_rfl) (fun _ _ _ h => h) (Or.inl ⟨by rfl, ?_⟩) ?_ ?_
            rotate_left
            · intro w'
              go_simp
              with_reducible rfl
            rotate_left
            · simp only [Act.put, List.setIfInBounds_toArray, List.set_cons_zero, List.set_cons_succ]
              rfl
            refine PrintLast.last_ (i := 15) (N := none) #[true, true, true, true, true, true, true, true, true, true, true, true, true, true, true, true, false, false] rfl rfl (by kernel_rfl) (by decide) (fun K hK => ?_)
            rw [if_pos (by rfl)]
            refine wp_store_mid 33 _ _ rfl g (m * 8) xx.toArray rfl rfl (by rw [List.size_toArray, HLX.out]; exact HTY.out) (by rw [List.size_toArray, HLX.out]; exact size33) (all_oneCell_toArray HOX.out) ?_
            refine hK.out _ _ ?_
            clear hK K
            refine PrintLast.pure_ (i := 16) (N := some 51) (v := ?_) (a' := ?_) #[true, true, true, true, true, true, true, true, true, true, true, true, true, true, true, true, true, false] rfl rfl (by kernel_rfl) (fun _ _ _ h => h) (Or.inl ⟨by rfl, ?_⟩) ?_ ?_
            rotate_left
            · intro w'
              go_simp
              with_reducible rfl
            rotate_left
            · simp only [Act.put, List.setIfInBounds_toArray, List.set_cons_zero, List.set_cons_succ]
              rfl
            refine PrintLast.last_ (i := 17) (N := none) #[true, true, true, true, true, true, true, true, true, true, true, true, true, true, true, true, true, true] rfl rfl (by kernel_rfl) (by decide) (fun K hK => ?_)
            rw [if_pos (by rfl)]
            refine wp_store_mid 33 _ _ rfl g ((m + 1) * 8) xy.toArray rfl rfl (by rw [List.size_toArray, HLY.out]; exact World.there_setCells HTX.out g (m * 8) xx) (by rw [List.size_toArray, HLY.out]; exact size33) (all_oneCell_toArray HOY.out) ?_
            refine hK.out _ _ ?_
            clear hK K
            refine PrintLast.done_ (by kernel_rfl) ?_
            go_wp2_with fail
            go_roundw
            case rel =>
              refine ⟨A, y :: B, (X.set m x).set (m + 1) y, by rw [HM.out], by have := HM.out; omega, by rw [List.length_set, List.length_set]; exact hX, HBU2, HX2, ⟨?_⟩⟩
              have h1 := HF2.out.to_below (B := W.heap.size) HB7.out.size (fun i hi => by subst hi; exact HBG.out)
              exact ⟨h1.os.trans HB7.out.os, h1.tape.trans HB7.out.tape, h1.output.trans HB7.out.output, Nat.le_trans HB7.out.size h1.size, fun i hi => (h1.block i hi).trans (HB7.out.block i hi)⟩
            case measure => simp [intOf]
    · have hkl : k = l.length := by omega
      subst hkl
      have HR2 := Aside0.mk HR.out
      rw [List.take_length] at HR2
      go_wp2_with fail
      go_ret
      exact ⟨_, rfl, HR2.out, HB.out⟩
end Go.Proofs.Ytahihhklijcghaa
