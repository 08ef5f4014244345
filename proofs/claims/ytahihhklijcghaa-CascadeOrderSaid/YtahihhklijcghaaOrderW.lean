/-
  CascadeOrder: the walk.
-/
import Derived.Test.YtahihhklijcghaaChnP
import Derived.Test.YtahihhklijcghaaRanksW
namespace Go.Proofs.Ytahihhklijcghaa
open Go.RowKit Go.Proofs.YtahihhklijcghaaW Go.Proofs.YtahihhklijcghaaW.PrintWords PCascadeSorts
set_option linter.unusedVariables false
set_option linter.unusedSimpArgs false
theorem win_c {W : World} {A : Option Addr} {c : Nat} {l : List S26} (name : ByteArray) (h : Kd.C k26 W A l.length l) (hc : l.length ≤ c) (hn : l.length ≤ 100) :
    Calls Try.prog 10 #[.slice A l.length c, .string name] W fun e w' => e = .returned (.tuple #[ev (firstW (chainE l name)).1, .bool (firstW (chainE l name)).2]) ∧ Below W.heap.size W w' := by
  rw [← win_chain]
  exact cascade_Winner.calls (l.length + 2) A c l name _ _ _ _ _ _ _ _ _ W h hc (win_f name l (by omega) _ (by omega))
theorem Bk.c8 {w : World} {p : Nat} {x : S26} (h : Bk w p x) : w.cell? ⟨p, 0, none⟩ = some (.string x.f0) ∧ w.cell? ⟨p, 1, none⟩ = some (.string x.f1) ∧ w.cell? ⟨p, 2, none⟩ = some (.int .i64 x.f2) ∧ w.cell? ⟨p, 3, none⟩ = some (.bool x.f3) ∧ w.cell? ⟨p, 4, none⟩ = some (.int .i64 x.f4.f0) ∧ w.cell? ⟨p, 5, none⟩ = some (.int .i64 x.f4.f1) ∧ w.cell? ⟨p, 6, none⟩ = some (.int .i64 x.f4.f2) ∧ w.cell? ⟨p, 7, none⟩ = some (.int .i64 x.f5) :=
  ⟨blk_cell h 0, blk_cell h 1, blk_cell h 2, blk_cell h 3, blk_cell h 4, blk_cell h 5, blk_cell h 6, blk_cell h 7⟩
theorem r8_below {t : TypeId} {W W' : World} {g c : Nat} {L : List S26} (h : Row8 t W g c L) (hb : Below W.heap.size W W') : Row8 t W' g c L := by
  obtain ⟨cur, h1, h2⟩ := h
  exact ⟨cur, (hb.block g (blk_lt h1)).trans h1, h2⟩
/-- One round of the innermost loop: the three entries in their boxes. -/
def Tri (W w : World) (p6 p8 p10 : Nat) (a b c : S26) : Prop := Below W.heap.size W w ∧ Bk w p6 a ∧ Bk w p8 b ∧ Bk w p10 c
theorem Tri.below {W w w' : World} {p6 p8 p10 : Nat} {a b c : S26} (h : Tri W w p6 p8 p10 a b c) (hb : Below w.heap.size w w') : Tri W w' p6 p8 p10 a b c := ⟨below_step h.1 hb, h.2.1.below hb, h.2.2.1.below hb, h.2.2.2.below hb⟩
open Go.Proofs.YtahihhklijcghaaW.PrintMore in
theorem eqA26o (d : Nat) (w : World) (x0 y0 : ByteArray) (x1 y1 : ByteArray) (x2 y2 : Int) (x3 y3 : Bool) (x4 y4 : Int) (x5 y5 : Int) (x6 y6 : Int) (x7 y7 : Int) :
    (Op.equalIn (d + 3) 26 (.agg #[.string x0, .string x1, .int .i64 x2, .bool x3, .int .i64 x4, .int .i64 x5, .int .i64 x6, .int .i64 x7]) (.agg #[.string y0, .string y1, .int .i64 y2, .bool y3, .int .i64 y4, .int .i64 y5, .int .i64 y6, .int .i64 y7])).run Try.prog w = .ok (x0.toList == y0.toList && (x1.toList == y1.toList && (x2 == y2 && (x3 == y3 && ((x4 == y4 && (x5 == y5 && (x6 == y6))) && (x7 == y7)))))) w := by
  refine eqA_of Try.underlying26 (by kernel_rfl) ?_
  refine eqf_cons (by rfl) (by go_simp; rfl) (by go_simp; rfl) (by go_simp) ?_
  refine eqf_cons (by rfl) (by go_simp; rfl) (by go_simp; rfl) (by go_simp) ?_
  refine eqf_cons (by rfl) (by go_simp; rfl) (by go_simp; rfl) (by go_simp) ?_
  refine eqf_cons (by rfl) (by go_simp; rfl) (by go_simp; rfl) (by go_simp) ?_
  refine eqf_cons (by rfl) (by go_simp) (by go_simp) (eqA24 (d + 0) w _ _ _ _ _ _) ?_
  exact eqf_last (by rfl) (by go_simp; rfl) (by go_simp; rfl) (by go_simp)
theorem eql26_self (x : S26) (w : World) : (binOp .eql 26 (ev x) (ev x)).run Try.prog w = .ok (.bool true) w := by
  simp only [binOp]
  simp [Op.equal, Op.maxDepth, eqA26o 9997 w]
set_option maxHeartbeats 4000000 in
set_option maxRecDepth 100000 in
theorem order_w {W : World} {A : Option Addr} {c : Nat} {l : List S26} (name : ByteArray) (h : Kd.C k26 W A l.length l) (hc : l.length ≤ c) (hf : Fits l) (hn : l.length ≤ 1759218604441) (hnm : name.size ≤ 140737488351232) :
    Calls Try.prog 6 #[.slice A l.length c, .string name] W fun e w' => e = .returned (.bool true) ∧ Below W.heap.size W w' := by
  have H := Aside0.mk h
  have HCC := Aside0.mk hc
  have HL := Aside0.mk (light_c h hc hf hn)
  have gl : (l.length : Int) ≤ 1759218604441 := by omega
  have gn : (name.size : Int) ≤ 140737488351232 := by omega
  clear h hc hf hn hnm
  by_cases hbig : 30 < l.length ∨ 1000 < name.size
  · by_cases h30 : 30 < l.length
    · have g30 : (30 : Int) < (l.length : Int) := by omega
      clear hbig
      go_enter Try.func6, Try.ntmps6
      go_wp2_with fail
      refine HL.out.mono ?_
      rintro e w1 ⟨b, rfl, _, hb⟩
      have HW1 := Aside0.mk hb
      clear hb
      cases b with
      | false =>
        go_wp2_with fail
        refine (lives_c _).mono ?_
        rintro e w2 ⟨rfl, hb⟩
        have HW2 := Aside0.mk (below_step HW1.out hb)
        clear hb
        go_wp2_with fail
        go_ret
        exact ⟨rfl, HW2.out⟩
      | true =>
        go_wp2_with fail
        refine (lives_c _).mono ?_
        rintro e w2 ⟨rfl, hb⟩
        have HW2 := Aside0.mk (below_step HW1.out hb)
        clear hb
        go_wp2_with fail
        go_ret
        exact ⟨rfl, HW2.out⟩
    · have g30 : (l.length : Int) ≤ 30 := by omega
      have g1000 : (1000 : Int) < (name.size : Int) := by omega
      clear hbig h30
      go_enter Try.func6, Try.ntmps6
      go_wp2_with fail
      refine HL.out.mono ?_
      rintro e w1 ⟨b, rfl, _, hb⟩
      have HW1 := Aside0.mk hb
      clear hb
      cases b with
      | false =>
        go_wp2_with fail
        refine (lives_c _).mono ?_
        rintro e w2 ⟨rfl, hb⟩
        have HW2 := Aside0.mk (below_step HW1.out hb)
        clear hb
        go_wp2_with fail
        go_ret
        exact ⟨rfl, HW2.out⟩
      | true =>
        go_wp2_with fail
        refine (lives_c _).mono ?_
        rintro e w2 ⟨rfl, hb⟩
        have HW2 := Aside0.mk (below_step HW1.out hb)
        clear hb
        go_wp2_with fail
        go_ret
        exact ⟨rfl, HW2.out⟩
  · have HN : Aside0 (l.length ≤ 30) := ⟨by omega⟩
    have g30 : (l.length : Int) ≤ 30 := by omega
    have g1000 : (name.size : Int) ≤ 1000 := by omega
    clear hbig
    go_enter Try.func6, Try.ntmps6
    go_wp2_with fail
    refine HL.out.mono ?_
    rintro e w1 ⟨b, rfl, _, hb⟩
    have HW1 := Aside0.mk hb
    clear hb HL
    cases b with
    | false =>
      go_wp2_with fail
      refine (lives_c _).mono ?_
      rintro e w2 ⟨rfl, hb⟩
      have HW2 := Aside0.mk (below_step HW1.out hb)
      clear hb
      go_wp2_with fail
      go_ret
      exact ⟨rfl, HW2.out⟩
    | true =>
      go_wp2_with fail
      go_loopw [32] (fun v wr => ∃ k : Nat, v = .int .i64 k ∧ k ≤ l.length ∧ Aside0 (Below W.heap.size W wr)) (fun v _ => l.length - (intOf v).toNat)
      case atStart => exact ⟨0, rfl, Nat.zero_le _, HW1⟩
      case round =>
        clear HW1
        obtain ⟨k, rfl, hk, HB⟩ := hrel
        by_cases hlt : k < l.length
        · have gk : (k : Int) < (l.length : Int) := by omega
          have HLT := Aside0.mk hlt
          obtain ⟨ad, rfl, h8⟩ := ent_at H.out k hlt
          obtain ⟨c0, c1, c2, c3, c4, c5, c6, c7⟩ := h8.below HB.out
          clear h8 hk
          generalize l[k] = a at c0 c1 c2 c3 c4 c5 c6 c7
          clear hlt
          have HBa := Aside0.mk (Bk.new wr a)
          have HB2 : Aside0 (Below W.heap.size W (wr.alloc (.cells (pe a).toArray 26))) := ⟨HB.out.alloc HB.out.size _⟩
          go_upto_region 6 with fail
          change Code.wp Try.prog _ _ _ (wr.alloc (.cells (pe a).toArray 26))
          generalize wr.alloc (.cells (pe a).toArray 26) = wa at *
          generalize wr.heap.size = p6 at *
          clear c0 c1 c2 c3 c4 c5 c6 c7 HB
          go_wp2_with fail
          go_loopw [38] (fun v wr => ∃ j : Nat, v = .int .i64 j ∧ j ≤ l.length ∧ Aside0 (Below W.heap.size W wr) ∧ Aside0 (Bk wr p6 a)) (fun v _ => l.length - (intOf v).toNat)
          case atStart => exact ⟨0, rfl, Nat.zero_le _, HB2, HBa⟩
          case round =>
            clear HB2 HBa
            obtain ⟨j, rfl, hj, HB, HBa⟩ := hrel
            by_cases hjlt : j < l.length
            · have gj : (j : Int) < (l.length : Int) := by omega
              have HJT := Aside0.mk hjlt
              obtain ⟨ad2, e2, h8⟩ := ent_at H.out j hjlt
              injection e2 with e2
              subst e2
              obtain ⟨c0, c1, c2, c3, c4, c5, c6, c7⟩ := h8.below HB.out
              clear h8 hj
              generalize l[j] = b at c0 c1 c2 c3 c4 c5 c6 c7
              clear hjlt
              have HBb := Aside0.mk (Bk.new wr b)
              have hab : Below wr.heap.size wr (wr.alloc (.cells (pe b).toArray 26)) := (Below.refl _ _).alloc (Nat.le_refl _) _
              have HBa2 := Aside0.mk (HBa.out.below hab)
              have HB2 := Aside0.mk (below_step HB.out hab)
              clear hab
              go_upto_region 9 with fail
              change Code.wp Try.prog _ _ _ (wr.alloc (.cells (pe b).toArray 26))
              generalize wr.alloc (.cells (pe b).toArray 26) = wb at *
              generalize wr.heap.size = p8 at *
              clear c0 c1 c2 c3 c4 c5 c6 c7 HB HBa
              go_wp2_with fail
              go_loopw [44] (fun v wr => ∃ m : Nat, v = .int .i64 m ∧ m ≤ l.length ∧ Aside0 (Below W.heap.size W wr) ∧ Aside0 (Bk wr p6 a) ∧ Aside0 (Bk wr p8 b)) (fun v _ => l.length - (intOf v).toNat)
              case atStart => exact ⟨0, rfl, Nat.zero_le _, HB2, HBa2, HBb⟩
              case round =>
                clear HB2 HBa2 HBb
                obtain ⟨m, rfl, hm, HB, HBa, HBb⟩ := hrel
                by_cases hmlt : m < l.length
                · have gm : (m : Int) < (l.length : Int) := by omega
                  have HMT := Aside0.mk hmlt
                  obtain ⟨ad2, e2, h8⟩ := ent_at H.out m hmlt
                  injection e2 with e2
                  subst e2
                  obtain ⟨c0, c1, c2, c3, c4, c5, c6, c7⟩ := h8.below HB.out
                  clear h8 hm
                  generalize l[m] = d at c0 c1 c2 c3 c4 c5 c6 c7
                  clear hmlt
                  have hab : Below wr.heap.size wr (wr.alloc (.cells (pe d).toArray 26)) := (Below.refl _ _).alloc (Nat.le_refl _) _
                  have HT : Aside0 (Tri W (wr.alloc (.cells (pe d).toArray 26)) p6 p8 wr.heap.size a b d) := ⟨below_step HB.out hab, HBa.out.below hab, HBb.out.below hab, Bk.new wr d⟩
                  clear hab
                  go_upto_region 12 with fail
                  change Code.wp Try.prog _ _ _ (wr.alloc (.cells (pe d).toArray 26))
                  generalize wr.alloc (.cells (pe d).toArray 26) = wc at *
                  generalize wr.heap.size = p10 at *
                  clear c0 c1 c2 c3 c4 c5 c6 c7 HB HBa HBb
                  obtain ⟨a0, a1, a2, a3, a4, a5, a6, a7⟩ := HT.out.2.1.c8
                  obtain ⟨b0, b1, b2, b3, b4, b5, b6, b7⟩ := HT.out.2.2.1.c8
                  cases hab : lessS a b with
                  | false =>
                    have HAB := Aside0.mk hab
                    clear hab
                    go_wp2_with fail
                    refine (less_c a b _).mono ?_
                    rintro e w2 ⟨rfl, hb⟩
                    rw [HAB.out]
                    have HT2 := Aside0.mk (HT.out.below hb)
                    clear hb HT a0 a1 a2 a3 a4 a5 a6 a7 b0 b1 b2 b3 b4 b5 b6 b7
                    go_wp2_with fail
                    go_roundw
                    case rel => exact ⟨m + 1, by go_num, HMT.out, ⟨HT2.out.1⟩, ⟨HT2.out.2.1⟩, ⟨HT2.out.2.2.1⟩⟩
                    case measure => have := HMT.out; simp [intOf]; omega
                  | true =>
                    have HAB := Aside0.mk hab
                    clear hab
                    go_wp2_with fail
                    refine (less_c a b _).mono ?_
                    rintro e w2 ⟨rfl, hb⟩
                    rw [HAB.out]
                    have HT2 := Aside0.mk (HT.out.below hb)
                    clear hb HT a0 a1 a2 a3 a4 a5 a6 a7 b0 b1 b2 b3 b4 b5 b6 b7
                    obtain ⟨a0, a1, a2, a3, a4, a5, a6, a7⟩ := HT2.out.2.1.c8
                    obtain ⟨b0, b1, b2, b3, b4, b5, b6, b7⟩ := HT2.out.2.2.1.c8
                    go_wp2_with fail
                    refine (less_c b a _).mono ?_
                    rintro e w3 ⟨rfl, hb⟩
                    rw [less_asym HAB.out]
                    have HT3 := Aside0.mk (HT2.out.below hb)
                    clear hb HT2 a0 a1 a2 a3 a4 a5 a6 a7 b0 b1 b2 b3 b4 b5 b6 b7
                    obtain ⟨b0, b1, b2, b3, b4, b5, b6, b7⟩ := HT3.out.2.2.1.c8
                    obtain ⟨d0, d1, d2, d3, d4, d5, d6, d7⟩ := HT3.out.2.2.2.c8
                    cases hbd : lessS b d with
                    | false =>
                      have HBD := Aside0.mk hbd
                      clear hbd
                      go_wp2_with fail
                      refine (less_c b d _).mono ?_
                      rintro e w4 ⟨rfl, hb⟩
                      rw [HBD.out]
                      have HT4 := Aside0.mk (HT3.out.below hb)
                      clear hb HT3 b0 b1 b2 b3 b4 b5 b6 b7 d0 d1 d2 d3 d4 d5 d6 d7
                      go_wp2_with fail
                      go_roundw
                      case rel => exact ⟨m + 1, by go_num, HMT.out, ⟨HT4.out.1⟩, ⟨HT4.out.2.1⟩, ⟨HT4.out.2.2.1⟩⟩
                      case measure => have := HMT.out; simp [intOf]; omega
                    | true =>
                      have HBD := Aside0.mk hbd
                      clear hbd
                      go_wp2_with fail
                      refine (less_c b d _).mono ?_
                      rintro e w4 ⟨rfl, hb⟩
                      rw [HBD.out]
                      have HT4 := Aside0.mk (HT3.out.below hb)
                      clear hb HT3 b0 b1 b2 b3 b4 b5 b6 b7 d0 d1 d2 d3 d4 d5 d6 d7
                      obtain ⟨a0, a1, a2, a3, a4, a5, a6, a7⟩ := HT4.out.2.1.c8
                      obtain ⟨d0, d1, d2, d3, d4, d5, d6, d7⟩ := HT4.out.2.2.2.c8
                      go_wp2_with fail
                      refine (less_c a d _).mono ?_
                      rintro e w5 ⟨rfl, hb⟩
                      rw [less_trans HAB.out HBD.out]
                      have HT5 := Aside0.mk (HT4.out.below hb)
                      clear hb HT4 a0 a1 a2 a3 a4 a5 a6 a7 d0 d1 d2 d3 d4 d5 d6 d7
                      go_wp2_with fail
                      go_roundw
                      case rel => exact ⟨m + 1, by go_num, HMT.out, ⟨HT5.out.1⟩, ⟨HT5.out.2.1⟩, ⟨HT5.out.2.2.1⟩⟩
                      case measure => have := HMT.out; simp [intOf]; omega
                · have hml : m = l.length := by omega
                  subst hml
                  go_wp2_with fail
                  go_roundw
                  case rel => exact ⟨j + 1, by go_num, HJT.out, HB, HBa⟩
                  case measure => have := HJT.out; simp [intOf]; omega
            · have hjl : j = l.length := by omega
              subst hjl
              go_wp2_with fail
              go_roundw
              case rel => exact ⟨k + 1, by go_num, HLT.out, HB⟩
              case measure => have := HLT.out; simp [intOf]; omega
        · have hkl : k = l.length := by omega
          subst hkl
          clear hk hlt
          have HS := Aside0.mk (sorts_c (c := c) (Kd.C_below H.out HB.out) (by have := HN.out; omega))
          go_wp2_with fail
          refine HS.out.mono ?_
          rintro e w2 ⟨v, rfl, hrw, hb⟩
          have HB2 := Aside0.mk (below_step HB.out hb)
          have hso := sortE_sorted l
          have hle := sortE_length l
          generalize sortE l = L at hrw hso hle
          obtain ⟨A2, c2, rfl, hc2⟩ := hrw.slice_
          have HRW := Aside0.mk hrw
          have HSO := Aside0.mk hso
          have HLE := Aside0.mk hle
          have hne : ((L.length : Int) != (l.length : Int)) = false := by rw [hle]; exact bne_self_eq_false _
          have gL : (L.length : Int) ≤ 30 := by omega
          clear hrw hso hle hb HS HB hc2
          go_wp2_with fail
          clear hne
          go_loopw [12] (fun v wr => ∃ k : Nat, v = .int .i64 ((k + 1 : Nat) : Int) ∧ k ≤ L.length ∧ Aside0 (Below W.heap.size W wr) ∧ Aside0 (Rw 26 wr 0 (.slice A2 L.length c2) L)) (fun v _ => L.length + 1 - (intOf v).toNat)
          case atStart => exact ⟨0, rfl, Nat.zero_le _, HB2, ⟨by obtain ⟨inner, h1, h2⟩ := HRW.out; exact ⟨inner, own_weaken h1 (Nat.zero_le _), h2⟩⟩⟩
          case round =>
            clear HB2 HRW
            obtain ⟨k, rfl, hk, HB, HRW⟩ := hrel
            by_cases hlt : k + 1 < L.length
            · have gk : ((k + 1 : Nat) : Int) < (L.length : Int) := by omega
              obtain ⟨g, c3, he, _, hrow⟩ := HRW.out.row8 (by omega)
              injection he with h1 h2 h3
              subst h1 h3
              have HXY0 := sorted_at HSO.out hlt
              have HXR0 : ∀ w, Row8 26 w g c2 L → w.rangeAt g ((k + 1) * 8) (pe L[k + 1]) := fun w h => h.range (k + 1) hlt
              have HYR0 : ∀ w, Row8 26 w g c2 L → w.rangeAt g (k * 8) (pe (L[k]'(by omega))) := fun w h => h.range k (by omega)
              generalize L[k + 1] = x at HXY0 HXR0
              generalize L[k]'(by omega) = y at HXY0 HYR0
              have HXY := Aside0.mk HXY0
              have HXR := Aside0.mk HXR0
              have HYR := Aside0.mk HYR0
              have HR := Aside0.mk hrow
              have HLT := Aside0.mk hlt
              have g0k : (0 : Int) ≤ (k : Int) + 1 := by omega
              have gk1 : (k : Int) + 1 < (L.length : Int) := by omega
              have gk0 : (k : Int) < (L.length : Int) := by omega
              have hsub : IntKind.i64.wrap (k : Int) = (k : Int) := i64_id (by omega) (by omega)
              clear HXY0 HXR0 HYR0 hrow hk hlt h2
              go_upto_region 23 with fail
              have HB4 : Aside0 (Below W.heap.size W wr.drew) := ⟨HB.out.trans ((below_drew (Below.refl wr.heap.size wr)).mono HB.out.size)⟩
              refine PrintLast.start_ (n := 10) (S := fun w' => Row8 26 w' g c2 L) (ds := []) #[false, false, false, false, false, false, false, false, false, false] (by kernel_rfl) rfl rfl (r8_below HR.out (below_drew (Below.refl _ _))) (fun hHeld => ?_)
              generalize wr.drew = w4 at *
              refine PrintLast.pure_ (i := 0) (N := some 83) (v := ?_) (a' := ?_) #[true, false, false, false, false, false, false, false, false, false] rfl rfl (by kernel_rfl) (fun _ _ _ h => h) (Or.inl ⟨by rfl, ?_⟩) ?_ ?_
              rotate_left
              · intro w'
                go_simp
                with_reducible rfl
              rotate_left
              · simp only [Act.put, List.setIfInBounds_toArray, List.set_cons_zero, List.set_cons_succ]
                rfl
              refine PrintLast.pure_ (i := 1) (N := some 84) (v := ?_) (a' := ?_) #[true, true, false, false, false, false, false, false, false, false] rfl rfl (by kernel_rfl) (fun _ _ _ h => h) (Or.inl ⟨by rfl, ?_⟩) ?_ ?_
              rotate_left
              · intro w'
                go_simp
                with_reducible rfl
              rotate_left
              · simp only [Act.put, List.setIfInBounds_toArray, List.set_cons_zero, List.set_cons_succ]
                rfl
              refine PrintLast.pure_ (i := 2) (N := some 85) (v := ?_) (a' := ?_) #[true, true, true, false, false, false, false, false, false, false] rfl rfl (by kernel_rfl) (fun _ _ _ h => h) (Or.inl ⟨by rfl, ?_⟩) ?_ ?_
              rotate_left
              · intro w'
                go_simp
                with_reducible rfl
              rotate_left
              · simp only [Act.put, List.setIfInBounds_toArray, List.set_cons_zero, List.set_cons_succ]
                rfl
              refine PrintLast.take_ (i := 3) (N := some 86) (v := ev (x)) (a' := ?_) #[true, true, true, true, false, false, false, false, false, false] rfl rfl (by kernel_rfl) (fun _ _ _ h => h) (yieldsIf_load_mid (by rfl) 26 (.tmp 85) rfl g ((k + 1) * 8) rfl (pe (x)) _ (fun w hS => HXR.out w hS) Try.underlying26 rfl size26) hHeld ?_ ?_
              rotate_left
              · simp only [Act.put, List.setIfInBounds_toArray, List.set_cons_zero, List.set_cons_succ]
                rfl
              refine PrintLast.pure_ (i := 4) (N := some 87) (v := ?_) (a' := ?_) #[true, true, true, true, true, false, false, false, false, false] rfl rfl (by kernel_rfl) (fun _ _ _ h => h) (Or.inl ⟨by rfl, ?_⟩) ?_ ?_
              rotate_left
              · intro w'
                go_simp
                with_reducible rfl
              rotate_left
              · simp only [Act.put, List.setIfInBounds_toArray, List.set_cons_zero, List.set_cons_succ]
                rfl
              refine PrintLast.pure_ (i := 5) (N := some 88) (v := ?_) (a' := ?_) #[true, true, true, true, true, true, false, false, false, false] rfl rfl (by kernel_rfl) (fun _ _ _ h => h) (Or.inl ⟨by rfl, ?_⟩) ?_ ?_
              rotate_left
              · intro w'
                go_simp
                with_reducible rfl
              rotate_left
              · simp only [Act.put, List.setIfInBounds_toArray, List.set_cons_zero, List.set_cons_succ]
                rfl
              refine PrintLast.pure_ (i := 6) (N := some 89) (v := ?_) (a' := ?_) #[true, true, true, true, true, true, true, false, false, false] rfl rfl (by kernel_rfl) (fun _ _ _ h => h) (Or.inl ⟨by rfl, ?_⟩) ?_ ?_
              rotate_left
              · intro w'
                go_simp
                with_reducible rfl
              rotate_left
              · simp only [Act.put, List.setIfInBounds_toArray, List.set_cons_zero, List.set_cons_succ]
                rfl
              refine PrintLast.pure_ (i := 7) (N := some 90) (v := ?_) (a' := ?_) #[true, true, true, true, true, true, true, true, false, false] rfl rfl (by kernel_rfl) (fun _ _ _ h => h) (Or.inl ⟨by rfl, ?_⟩) ?_ ?_
              rotate_left
              · intro w'
                go_simp
                with_reducible rfl
              rotate_left
              · simp only [Act.put, List.setIfInBounds_toArray, List.set_cons_zero, List.set_cons_succ]
                rfl
              refine PrintLast.take_ (i := 8) (N := some 91) (v := ev (y)) (a' := ?_) #[true, true, true, true, true, true, true, true, true, false] rfl rfl (by kernel_rfl) (fun _ _ _ h => h) (yieldsIf_load_mid (by rfl) 26 (.tmp 90) rfl g (k * 8) rfl (pe (y)) _ (fun w hS => HYR.out w hS) Try.underlying26 rfl size26) hHeld ?_ ?_
              rotate_left
              · simp only [Act.put, List.setIfInBounds_toArray, List.set_cons_zero, List.set_cons_succ]
                rfl
              refine PrintLast.one_ (i := 9) (N := some 92) #[true, true, true, true, true, true, true, true, true, true] rfl rfl (by kernel_rfl) (by decide) (fun K hK => ?_)
              refine PrintLast.goes_ Try.func11 (by kernel_rfl) rfl #[ev x, ev y] (by rfl) rfl rfl (by first | rfl | (simp only [List.map_toArray, List.map_cons, List.map_nil]; rfl)) ?_
              refine (less_c x y _).mono ?_
              rintro e w5 ⟨rfl, hb⟩
              refine ⟨_, rfl, ?_⟩
              rw [HXY.out]
              have HB5 := Aside0.mk (below_step HB4.out hb)
              refine hK.out _ _ (r8_below hHeld hb) (fun hHeld => ?_)
              clear hK K
              refine PrintLast.norm_ (a' := ?_) ?_ ?_
              rotate_left
              · show Act.put _ (some 92) _ = _
                simp only [Act.put, List.setIfInBounds_toArray, List.set_cons_zero, List.set_cons_succ]
                rfl
              refine PrintLast.done_ (by kernel_rfl) ?_
              have HR5 := Aside0.mk hHeld
              clear hHeld HB4 HR
              go_wp2_with fail
              go_roundw
              case rel => exact ⟨k + 1, by go_num, Nat.le_of_lt HLT.out, HB5, ⟨HR5.out.rw_ (Nat.zero_le _)⟩⟩
              case measure => have := HLT.out; simp [intOf]; omega
            · have gk : (L.length : Int) ≤ ((k + 1 : Nat) : Int) := by omega
              have HCH := Aside0.mk (chain_c name (Kd.C_below H.out HB.out) HCC.out (by have := HN.out; omega))
              have HWI := Aside0.mk (fun w hb => win_c (W := w) (c := c) name (Kd.C_below H.out hb) HCC.out (by have := HN.out; omega))
              clear hk hlt HRW
              go_wp2_with fail
              refine HCH.out.mono ?_
              rintro e w5 ⟨A3, c3, rfl, hc3, hC3, hb, hA3⟩
              have HB5 := Aside0.mk (below_step HB.out hb)
              have hwi := HWI.out w5 HB5.out
              clear HCH HWI hb HB
              generalize chainE l name = R at hc3 hC3 hA3 hwi ⊢
              by_cases hR : R = []
              · subst hR
                have HWI : Aside0 (Calls Try.prog 10 #[.slice A l.length c, .string name] w5 fun e w' => e = .returned (.tuple #[ev z26, .bool false]) ∧ Below w5.heap.size w5 w') := ⟨hwi⟩
                clear hwi hc3 hC3 hA3
                go_wp2_with fail
                refine HWI.out.mono ?_
                rintro e w6 ⟨rfl, hb⟩
                have HB6 := Aside0.mk (below_step HB5.out hb)
                have HS7 : Aside0 (Below W.heap.size W (w6.alloc (.cells (pe z26).toArray 26)) ∧ Bk (w6.alloc (.cells (pe z26).toArray 26)) w6.heap.size z26) := ⟨HB6.out.alloc HB6.out.size _, Bk.new w6 z26⟩
                clear hb HB6 HB5 HWI
                go_upto_region 27 with fail
                change Code.wp Try.prog _ _ _ (w6.alloc (.cells (pe z26).toArray 26))
                generalize w6.alloc (.cells (pe z26).toArray 26) = w7 at *
                generalize w6.heap.size = p14 at *
                refine PrintLast.start_ (n := 20) (S := fun w' => Below W.heap.size W w' ∧ Bk w' p14 z26) (ds := []) #[false, false, false, false, false, false, false, false, false, false, false, false, false, false, false, false, false, false, false, false] (by kernel_rfl) rfl rfl ⟨HS7.out.1.trans ((below_drew (Below.refl w7.heap.size w7)).mono HS7.out.1.size), HS7.out.2.below (below_drew (Below.refl _ _))⟩ (fun hHeld => ?_)
                generalize w7.drew = w8 at *
                refine PrintLast.pure_ (i := 0) (N := some 102) (v := ?_) (a' := ?_) #[true, false, false, false, false, false, false, false, false, false, false, false, false, false, false, false, false, false, false, false] rfl rfl (by kernel_rfl) (fun _ _ _ h => h) (Or.inl ⟨by rfl, ?_⟩) ?_ ?_
                rotate_left
                · intro w'
                  go_simp
                  with_reducible rfl
                rotate_left
                · simp only [Act.put, List.setIfInBounds_toArray, List.set_cons_zero, List.set_cons_succ]
                  rfl
                refine PrintLast.pure_ (i := 1) (N := some 103) (v := ?_) (a' := ?_) #[true, true, false, false, false, false, false, false, false, false, false, false, false, false, false, false, false, false, false, false] rfl rfl (by kernel_rfl) (fun _ _ _ h => h) (Or.inl ⟨by rfl, ?_⟩) ?_ ?_
                rotate_left
                · intro w'
                  go_simp
                  with_reducible rfl
                rotate_left
                · simp only [Act.put, List.setIfInBounds_toArray, List.set_cons_zero, List.set_cons_succ]
                  rfl
                refine PrintLast.pure_ (i := 2) (N := some 104) (v := ?_) (a' := ?_) #[true, true, true, false, false, false, false, false, false, false, false, false, false, false, false, false, false, false, false, false] rfl rfl (by kernel_rfl) (fun _ _ _ h => h) (Or.inl ⟨by rfl, ?_⟩) ?_ ?_
                rotate_left
                · intro w'
                  go_simp
                  with_reducible rfl
                rotate_left
                · simp only [Act.put, List.setIfInBounds_toArray, List.set_cons_zero, List.set_cons_succ]
                  rfl
                refine PrintLast.pure_ (i := 3) (N := some 105) (v := ?_) (a' := ?_) #[true, true, true, true, false, false, false, false, false, false, false, false, false, false, false, false, false, false, false, false] rfl rfl (by kernel_rfl) (fun _ _ _ h => h) (Or.inl ⟨by rfl, ?_⟩) ?_ ?_
                rotate_left
                · intro w'
                  go_simp
                  with_reducible rfl
                rotate_left
                · simp only [Act.put, List.setIfInBounds_toArray, List.set_cons_zero, List.set_cons_succ]
                  rfl
                refine PrintLast.pure_ (i := 4) (N := some 106) (v := ?_) (a' := ?_) #[true, true, true, true, true, false, false, false, false, false, false, false, false, false, false, false, false, false, false, false] rfl rfl (by kernel_rfl) (fun _ _ _ h => h) (Or.inl ⟨by rfl, ?_⟩) ?_ ?_
                rotate_left
                · intro w'
                  go_simp
                  with_reducible rfl
                rotate_left
                · simp only [Act.put, List.setIfInBounds_toArray, List.set_cons_zero, List.set_cons_succ]
                  rfl
                refine PrintLast.pure_ (i := 5) (N := some 107) (v := ?_) (a' := ?_) #[true, true, true, true, true, true, false, false, false, false, false, false, false, false, false, false, false, false, false, false] rfl rfl (by kernel_rfl) (fun _ _ _ h => h) (Or.inl ⟨by rfl, ?_⟩) ?_ ?_
                rotate_left
                · intro w'
                  go_simp
                  with_reducible rfl
                rotate_left
                · simp only [Act.put, List.setIfInBounds_toArray, List.set_cons_zero, List.set_cons_succ]
                  rfl
                refine PrintLast.pure_ (i := 6) (N := some 108) (v := ?_) (a' := ?_) #[true, true, true, true, true, true, true, false, false, false, false, false, false, false, false, false, false, false, false, false] rfl rfl (by kernel_rfl) (fun _ _ _ h => h) (Or.inl ⟨by rfl, ?_⟩) ?_ ?_
                rotate_left
                · intro w'
                  go_simp
                  with_reducible rfl
                rotate_left
                · simp only [Act.put, List.setIfInBounds_toArray, List.set_cons_zero, List.set_cons_succ]
                  rfl
                refine PrintLast.pure_ (i := 7) (N := some 109) (v := ?_) (a' := ?_) #[true, true, true, true, true, true, true, true, false, false, false, false, false, false, false, false, false, false, false, false] rfl rfl (by kernel_rfl) (fun _ _ _ h => h) (Or.inl ⟨by rfl, ?_⟩) ?_ ?_
                rotate_left
                · intro w'
                  go_simp
                  with_reducible rfl
                rotate_left
                · simp only [Act.put, List.setIfInBounds_toArray, List.set_cons_zero, List.set_cons_succ]
                  rfl
                refine PrintLast.pure_ (i := 8) (N := some 110) (v := ?_) (a' := ?_) #[true, true, true, true, true, true, true, true, true, false, false, false, false, false, false, false, false, false, false, false] rfl rfl (by kernel_rfl) (fun _ _ _ h => h) (Or.inl ⟨by rfl, ?_⟩) ?_ ?_
                rotate_left
                · intro w'
                  go_simp
                  with_reducible rfl
                rotate_left
                · simp only [Act.put, List.setIfInBounds_toArray, List.set_cons_zero, List.set_cons_succ]
                  rfl
                refine PrintLast.pure_ (i := 9) (N := some 111) (v := undef) (a' := ?_) #[true, true, true, true, true, true, true, true, true, true, false, false, false, false, false, false, false, false, false, false] rfl rfl (by kernel_rfl) (fun _ _ _ h => h) (Or.inr ⟨by rfl, rfl⟩) ?_ ?_
                rotate_left
                · simp only [Act.put, List.setIfInBounds_toArray, List.set_cons_zero, List.set_cons_succ]
                  rfl
                refine PrintLast.pure_ (i := 10) (N := some 112) (v := undef) (a' := ?_) #[true, true, true, true, true, true, true, true, true, true, true, false, false, false, false, false, false, false, false, false] rfl rfl (by kernel_rfl) (fun _ _ _ h => h) (Or.inr ⟨by rfl, rfl⟩) ?_ ?_
                rotate_left
                · simp only [Act.put, List.setIfInBounds_toArray, List.set_cons_zero, List.set_cons_succ]
                  rfl
                refine PrintLast.pure_ (i := 11) (N := some 113) (v := undef) (a' := ?_) #[true, true, true, true, true, true, true, true, true, true, true, true, false, false, false, false, false, false, false, false] rfl rfl (by kernel_rfl) (fun _ _ _ h => h) (Or.inr ⟨by rfl, rfl⟩) ?_ ?_
                rotate_left
                · simp only [Act.put, List.setIfInBounds_toArray, List.set_cons_zero, List.set_cons_succ]
                  rfl
                refine PrintLast.pure_ (i := 12) (N := some 114) (v := undef) (a' := ?_) #[true, true, true, true, true, true, true, true, true, true, true, true, true, false, false, false, false, false, false, false] rfl rfl (by kernel_rfl) (fun _ _ _ h => h) (Or.inr ⟨by rfl, rfl⟩) ?_ ?_
                rotate_left
                · simp only [Act.put, List.setIfInBounds_toArray, List.set_cons_zero, List.set_cons_succ]
                  rfl
                refine PrintLast.pure_ (i := 13) (N := some 115) (v := undef) (a' := ?_) #[true, true, true, true, true, true, true, true, true, true, true, true, true, true, false, false, false, false, false, false] rfl rfl (by kernel_rfl) (fun _ _ _ h => h) (Or.inr ⟨by rfl, rfl⟩) ?_ ?_
                rotate_left
                · simp only [Act.put, List.setIfInBounds_toArray, List.set_cons_zero, List.set_cons_succ]
                  rfl
                refine PrintLast.pure_ (i := 14) (N := some 116) (v := ?_) (a' := ?_) #[true, true, true, true, true, true, true, true, true, true, true, true, true, true, true, false, false, false, false, false] rfl rfl (by kernel_rfl) (fun _ _ _ h => h) (Or.inl ⟨by rfl, ?_⟩) ?_ ?_
                rotate_left
                · intro w'
                  go_simp
                  with_reducible rfl
                rotate_left
                · simp only [Act.put, List.setIfInBounds_toArray, List.set_cons_zero, List.set_cons_succ]
                  rfl
                refine PrintLast.pure_ (i := 15) (N := some 117) (v := ?_) (a' := ?_) #[true, true, true, true, true, true, true, true, true, true, true, true, true, true, true, true, false, false, false, false] rfl rfl (by kernel_rfl) (fun _ _ _ h => h) (Or.inl ⟨by rfl, ?_⟩) ?_ ?_
                rotate_left
                · intro w'
                  go_simp
                  with_reducible rfl
                rotate_left
                · simp only [Act.put, List.setIfInBounds_toArray, List.set_cons_zero, List.set_cons_succ]
                  rfl
                refine PrintLast.pure_ (i := 16) (N := some 118) (v := ?_) (a' := ?_) #[true, true, true, true, true, true, true, true, true, true, true, true, true, true, true, true, true, false, false, false] rfl rfl (by kernel_rfl) (fun _ _ _ h => h) (Or.inl ⟨by rfl, ?_⟩) ?_ ?_
                rotate_left
                · intro w'
                  go_simp
                  with_reducible rfl
                rotate_left
                · simp only [Act.put, List.setIfInBounds_toArray, List.set_cons_zero, List.set_cons_succ]
                  rfl
                refine PrintLast.one_ (i := 17) (N := some 119) #[true, true, true, true, true, true, true, true, true, true, true, true, true, true, true, true, true, true, false, false] rfl rfl (by kernel_rfl) (by decide) (fun K hK => ?_)
                refine PrintLast.goes_ Try.func9 (by kernel_rfl) rfl #[] (by rfl) rfl rfl (by simp only [List.map_toArray, List.map_nil]) ?_
                refine (lives_c _).mono ?_
                rintro e w5 ⟨rfl, hb⟩
                refine ⟨_, rfl, ?_⟩
                skip
                refine hK.out _ _ (⟨below_step hHeld.1 hb, hHeld.2.below hb⟩) (fun hHeld => ?_)
                clear hK K
                refine PrintLast.norm_ (a' := ?_) ?_ ?_
                rotate_left
                · show Act.put _ (some 119) _ = _
                  simp only [Act.put, List.setIfInBounds_toArray, List.set_cons_zero, List.set_cons_succ]
                  rfl
                refine PrintLast.pure_ (i := 18) (N := some 120) (v := ?_) (a' := ?_) #[true, true, true, true, true, true, true, true, true, true, true, true, true, true, true, true, true, true, true, false] rfl rfl (by kernel_rfl) (fun _ _ _ h => h) (Or.inl ⟨by rfl, ?_⟩) ?_ ?_
                rotate_left
                · intro w'
                  go_simp
                  with_reducible rfl
                rotate_left
                · simp only [Act.put, List.setIfInBounds_toArray, List.set_cons_zero, List.set_cons_succ]
                  rfl
                refine PrintLast.pure_ (i := 19) (N := some 4) (v := ?_) (a' := ?_) #[true, true, true, true, true, true, true, true, true, true, true, true, true, true, true, true, true, true, true, true] rfl rfl (by kernel_rfl) (fun _ _ _ h => h) (Or.inl ⟨by rfl, ?_⟩) ?_ ?_
                rotate_left
                · intro w'
                  go_simp
                  with_reducible rfl
                rotate_left
                · simp only [Act.put, List.setIfInBounds_toArray, List.set_cons_zero, List.set_cons_succ]
                  rfl
                refine PrintLast.done_ (by kernel_rfl) ?_
                have HZ := Aside0.mk hHeld
                clear hHeld HS7
                go_wp2_with fail
                go_ret
                exact ⟨rfl, HZ.out.1⟩
              · obtain ⟨g, rfl⟩ := hA3 hR
                obtain ⟨e, t, hRe⟩ : ∃ e t, R = e :: t := by
                  cases R with
                  | nil => exact absurd rfl hR
                  | cons e t => exact ⟨e, t, rfl⟩
                have hfw : firstW R = (e, true) := by rw [hRe]; rfl
                have hRl : 0 < R.length := by rw [hRe]; simp
                have hR0 : R[0] = e := by
                  have : R[0]? = some e := by rw [hRe]; rfl
                  rw [List.getElem?_eq_getElem hRl] at this
                  exact Option.some.inj this
                rw [hfw] at hwi
                have HWI : Aside0 (Calls Try.prog 10 #[.slice A l.length c, .string name] w5 fun e' w' => e' = .returned (.tuple #[ev e, .bool true]) ∧ Below w5.heap.size w5 w') := ⟨hwi⟩
                have HER : Aside0 (∀ w, Kd.C k26 w (some ⟨g, 0, none⟩) R.length R → w.rangeAt g 0 (pe e)) := ⟨fun w h => by
                  obtain ⟨ad, e1, h8⟩ := ent_at h 0 hRl
                  injection e1 with e1
                  subst e1
                  rw [hR0] at h8
                  obtain ⟨q0, q1, q2, q3, q4, q5, q6, q7⟩ := h8
                  intro j v hj
                  match j, hj with
                  | 0, hj => exact q0.trans hj
                  | 1, hj => exact q1.trans hj
                  | 2, hj => exact q2.trans hj
                  | 3, hj => exact q3.trans hj
                  | 4, hj => exact q4.trans hj
                  | 5, hj => exact q5.trans hj
                  | 6, hj => exact q6.trans hj
                  | 7, hj => exact q7.trans hj⟩
                have GR : Aside0 (decide ((0 : Int) < (R.length : Int)) = true) := ⟨decide_eq_true (by omega)⟩
                have GI := Aside0.mk hRl
                have HC5 := Aside0.mk hC3
                clear hwi hc3 hC3 hA3 hR hRe hfw hRl hR0
                go_wp2_with fail
                refine HWI.out.mono ?_
                rintro e2 w6 ⟨rfl, hb⟩
                have HB6 := Aside0.mk (below_step HB5.out hb)
                have HS7 : Aside0 (Below W.heap.size W (w6.alloc (.cells (pe e).toArray 26)) ∧ Kd.C k26 (w6.alloc (.cells (pe e).toArray 26)) (some ⟨g, 0, none⟩) R.length R ∧ Bk (w6.alloc (.cells (pe e).toArray 26)) w6.heap.size e) := ⟨HB6.out.alloc HB6.out.size _, Kd.C_below (Kd.C_below HC5.out hb) ((Below.refl _ _).alloc (Nat.le_refl _) _), Bk.new w6 e⟩
                clear hb HB6 HB5 HWI HC5
                go_upto_region 27 with fail
                change Code.wp Try.prog _ _ _ (w6.alloc (.cells (pe e).toArray 26))
                generalize w6.alloc (.cells (pe e).toArray 26) = w7 at *
                generalize w6.heap.size = p14 at *
                refine PrintLast.start_ (n := 20) (S := fun w' => Below W.heap.size W w' ∧ (Kd.C k26 w' (some ⟨g, 0, none⟩) R.length R ∧ Bk w' p14 e)) (ds := []) #[false, false, false, false, false, false, false, false, false, false, false, false, false, false, false, false, false, false, false, false] (by kernel_rfl) rfl rfl ⟨HS7.out.1.trans ((below_drew (Below.refl w7.heap.size w7)).mono HS7.out.1.size), Kd.C_below HS7.out.2.1 (below_drew (Below.refl _ _)), HS7.out.2.2.below (below_drew (Below.refl _ _))⟩ (fun hHeld => ?_)
                generalize w7.drew = w8 at *
                refine PrintLast.pure_ (i := 0) (N := some 102) (v := ?_) (a' := ?_) #[true, false, false, false, false, false, false, false, false, false, false, false, false, false, false, false, false, false, false, false] rfl rfl (by kernel_rfl) (fun _ _ _ h => h) (Or.inl ⟨by rfl, ?_⟩) ?_ ?_
                rotate_left
                · intro w'
                  go_simp
                  with_reducible rfl
                rotate_left
                · simp only [Act.put, List.setIfInBounds_toArray, List.set_cons_zero, List.set_cons_succ]
                  rfl
                refine PrintLast.pure_ (i := 1) (N := some 103) (v := ?_) (a' := ?_) #[true, true, false, false, false, false, false, false, false, false, false, false, false, false, false, false, false, false, false, false] rfl rfl (by kernel_rfl) (fun _ _ _ h => h) (Or.inl ⟨by rfl, ?_⟩) ?_ ?_
                rotate_left
                · intro w'
                  go_simp
                  with_reducible rfl
                rotate_left
                · simp only [Act.put, List.setIfInBounds_toArray, List.set_cons_zero, List.set_cons_succ]
                  rfl
                refine PrintLast.pure_ (i := 2) (N := some 104) (v := ?_) (a' := ?_) #[true, true, true, false, false, false, false, false, false, false, false, false, false, false, false, false, false, false, false, false] rfl rfl (by kernel_rfl) (fun _ _ _ h => h) (Or.inl ⟨by rfl, ?_⟩) ?_ ?_
                rotate_left
                · intro w'
                  go_simp
                  with_reducible rfl
                rotate_left
                · simp only [Act.put, List.setIfInBounds_toArray, List.set_cons_zero, List.set_cons_succ]
                  rfl
                refine PrintLast.pure_ (i := 3) (N := some 105) (v := .bool true) (a' := ?_) #[true, true, true, true, false, false, false, false, false, false, false, false, false, false, false, false, false, false, false, false] rfl rfl (by kernel_rfl) (fun _ _ _ h => h) (Or.inl ⟨by rfl, ?_⟩) ?_ ?_
                · intro w'
                  go_simp
                  exact GI.out
                rotate_left
                · simp only [Act.put, List.setIfInBounds_toArray, List.set_cons_zero, List.set_cons_succ]
                  rfl
                refine PrintLast.pure_ (i := 4) (N := some 106) (v := ?_) (a' := ?_) #[true, true, true, true, true, false, false, false, false, false, false, false, false, false, false, false, false, false, false, false] rfl rfl (by kernel_rfl) (fun _ _ _ h => h) (Or.inl ⟨by rfl, ?_⟩) ?_ ?_
                rotate_left
                · intro w'
                  go_simp
                  with_reducible rfl
                rotate_left
                · simp only [Act.put, List.setIfInBounds_toArray, List.set_cons_zero, List.set_cons_succ]
                  rfl
                refine PrintLast.pure_ (i := 5) (N := some 107) (v := ?_) (a' := ?_) #[true, true, true, true, true, true, false, false, false, false, false, false, false, false, false, false, false, false, false, false] rfl rfl (by kernel_rfl) (fun _ _ _ h => h) (Or.inl ⟨by rfl, ?_⟩) ?_ ?_
                rotate_left
                · intro w'
                  go_simp
                  with_reducible rfl
                rotate_left
                · simp only [Act.put, List.setIfInBounds_toArray, List.set_cons_zero, List.set_cons_succ]
                  rfl
                refine PrintLast.pure_ (i := 6) (N := some 108) (v := ?_) (a' := ?_) #[true, true, true, true, true, true, true, false, false, false, false, false, false, false, false, false, false, false, false, false] rfl rfl (by kernel_rfl) (fun _ _ _ h => h) (Or.inl ⟨by rfl, ?_⟩) ?_ ?_
                rotate_left
                · intro w'
                  go_simp
                  with_reducible rfl
                rotate_left
                · simp only [Act.put, List.setIfInBounds_toArray, List.set_cons_zero, List.set_cons_succ]
                  rfl
                refine PrintLast.pure_ (i := 7) (N := some 109) (v := ?_) (a' := ?_) #[true, true, true, true, true, true, true, true, false, false, false, false, false, false, false, false, false, false, false, false] rfl rfl (by kernel_rfl) (fun _ _ _ h => h) (Or.inl ⟨by rfl, ?_⟩) ?_ ?_
                rotate_left
                · intro w'
                  go_simp
                  with_reducible rfl
                rotate_left
                · simp only [Act.put, List.setIfInBounds_toArray, List.set_cons_zero, List.set_cons_succ]
                  rfl
                refine PrintLast.pure_ (i := 8) (N := some 110) (v := ?_) (a' := ?_) #[true, true, true, true, true, true, true, true, true, false, false, false, false, false, false, false, false, false, false, false] rfl rfl (by kernel_rfl) (fun _ _ _ h => h) (Or.inl ⟨by rfl, ?_⟩) ?_ ?_
                rotate_left
                · intro w'
                  go_simp
                  with_reducible rfl
                rotate_left
                · simp only [Act.put, List.setIfInBounds_toArray, List.set_cons_zero, List.set_cons_succ]
                  rfl
                refine PrintLast.pure_ (i := 9) (N := some 111) (v := ?_) (a' := ?_) #[true, true, true, true, true, true, true, true, true, true, false, false, false, false, false, false, false, false, false, false] rfl rfl (by kernel_rfl) (fun _ _ _ h => h) (Or.inl ⟨by rfl, ?_⟩) ?_ ?_
                rotate_left
                · intro w'
                  go_simp
                  with_reducible rfl
                rotate_left
                · simp only [Act.put, List.setIfInBounds_toArray, List.set_cons_zero, List.set_cons_succ]
                  rfl
                refine PrintLast.pure_ (i := 10) (N := some 112) (v := .pointer (some ⟨g, 0, none⟩)) (a' := ?_) #[true, true, true, true, true, true, true, true, true, true, true, false, false, false, false, false, false, false, false, false] rfl rfl (by kernel_rfl) (fun _ _ _ h => h) (Or.inl ⟨by rfl, ?_⟩) ?_ ?_
                · intro w'
                  have hg0 := GI.out
                  go_simp
                rotate_left
                · simp only [Act.put, List.setIfInBounds_toArray, List.set_cons_zero, List.set_cons_succ]
                  rfl
                refine PrintLast.take_ (i := 11) (N := some 113) (v := ev (e)) (a' := ?_) #[true, true, true, true, true, true, true, true, true, true, true, true, false, false, false, false, false, false, false, false] rfl rfl (by kernel_rfl) (fun _ _ _ h => h) (yieldsIf_load_mid (by rfl) 26 (.tmp 112) rfl g 0 rfl (pe (e)) _ (fun w hS => HER.out w hS.2.1) Try.underlying26 rfl size26) hHeld ?_ ?_
                rotate_left
                · simp only [Act.put, List.setIfInBounds_toArray, List.set_cons_zero, List.set_cons_succ]
                  rfl
                refine PrintLast.take_ (i := 12) (N := some 114) (v := ev (e)) (a' := ?_) #[true, true, true, true, true, true, true, true, true, true, true, true, true, false, false, false, false, false, false, false] rfl rfl (by kernel_rfl) (fun _ _ _ h => h) (yieldsIf_load_mid (by rfl) 26 (.tmp 14) rfl p14 0 rfl (pe (e)) _ (fun w hS => hS.2.2.range) Try.underlying26 rfl size26) hHeld ?_ ?_
                rotate_left
                · simp only [Act.put, List.setIfInBounds_toArray, List.set_cons_zero, List.set_cons_succ]
                  rfl
                refine PrintLast.pure_ (i := 13) (N := some 115) (v := .bool true) (a' := ?_) #[true, true, true, true, true, true, true, true, true, true, true, true, true, true, false, false, false, false, false, false] rfl rfl (by kernel_rfl) (fun _ _ _ h => h) (Or.inl ⟨by rfl, ?_⟩) ?_ ?_
                · intro w'
                  have hq := eql26_self e w'
                  go_simp
                rotate_left
                · simp only [Act.put, List.setIfInBounds_toArray, List.set_cons_zero, List.set_cons_succ]
                  rfl
                refine PrintLast.pure_ (i := 14) (N := some 116) (v := ?_) (a' := ?_) #[true, true, true, true, true, true, true, true, true, true, true, true, true, true, true, false, false, false, false, false] rfl rfl (by kernel_rfl) (fun _ _ _ h => h) (Or.inl ⟨by rfl, ?_⟩) ?_ ?_
                rotate_left
                · intro w'
                  go_simp
                  with_reducible rfl
                rotate_left
                · simp only [Act.put, List.setIfInBounds_toArray, List.set_cons_zero, List.set_cons_succ]
                  rfl
                refine PrintLast.pure_ (i := 15) (N := some 117) (v := ?_) (a' := ?_) #[true, true, true, true, true, true, true, true, true, true, true, true, true, true, true, true, false, false, false, false] rfl rfl (by kernel_rfl) (fun _ _ _ h => h) (Or.inl ⟨by rfl, ?_⟩) ?_ ?_
                rotate_left
                · intro w'
                  go_simp
                  with_reducible rfl
                rotate_left
                · simp only [Act.put, List.setIfInBounds_toArray, List.set_cons_zero, List.set_cons_succ]
                  rfl
                refine PrintLast.pure_ (i := 16) (N := some 118) (v := ?_) (a' := ?_) #[true, true, true, true, true, true, true, true, true, true, true, true, true, true, true, true, true, false, false, false] rfl rfl (by kernel_rfl) (fun _ _ _ h => h) (Or.inl ⟨by rfl, ?_⟩) ?_ ?_
                rotate_left
                · intro w'
                  go_simp
                  with_reducible rfl
                rotate_left
                · simp only [Act.put, List.setIfInBounds_toArray, List.set_cons_zero, List.set_cons_succ]
                  rfl
                refine PrintLast.one_ (i := 17) (N := some 119) #[true, true, true, true, true, true, true, true, true, true, true, true, true, true, true, true, true, true, false, false] rfl rfl (by kernel_rfl) (by decide) (fun K hK => ?_)
                refine PrintLast.goes_ Try.func9 (by kernel_rfl) rfl #[] (by rfl) rfl rfl (by simp only [List.map_toArray, List.map_nil]) ?_
                refine (lives_c _).mono ?_
                rintro e w5 ⟨rfl, hb⟩
                refine ⟨_, rfl, ?_⟩
                skip
                refine hK.out _ _ (⟨below_step hHeld.1 hb, Kd.C_below hHeld.2.1 hb, hHeld.2.2.below hb⟩) (fun hHeld => ?_)
                clear hK K
                refine PrintLast.norm_ (a' := ?_) ?_ ?_
                rotate_left
                · show Act.put _ (some 119) _ = _
                  simp only [Act.put, List.setIfInBounds_toArray, List.set_cons_zero, List.set_cons_succ]
                  rfl
                refine PrintLast.pure_ (i := 18) (N := some 120) (v := ?_) (a' := ?_) #[true, true, true, true, true, true, true, true, true, true, true, true, true, true, true, true, true, true, true, false] rfl rfl (by kernel_rfl) (fun _ _ _ h => h) (Or.inl ⟨by rfl, ?_⟩) ?_ ?_
                rotate_left
                · intro w'
                  go_simp
                  with_reducible rfl
                rotate_left
                · simp only [Act.put, List.setIfInBounds_toArray, List.set_cons_zero, List.set_cons_succ]
                  rfl
                refine PrintLast.pure_ (i := 19) (N := some 4) (v := ?_) (a' := ?_) #[true, true, true, true, true, true, true, true, true, true, true, true, true, true, true, true, true, true, true, true] rfl rfl (by kernel_rfl) (fun _ _ _ h => h) (Or.inl ⟨by rfl, ?_⟩) ?_ ?_
                rotate_left
                · intro w'
                  go_simp
                  with_reducible rfl
                rotate_left
                · simp only [Act.put, List.setIfInBounds_toArray, List.set_cons_zero, List.set_cons_succ]
                  rfl
                refine PrintLast.done_ (by kernel_rfl) ?_
                have HZ := Aside0.mk hHeld
                clear hHeld HS7
                go_wp2_with fail
                go_ret
                exact ⟨rfl, HZ.out.1⟩
end Go.Proofs.Ytahihhklijcghaa
