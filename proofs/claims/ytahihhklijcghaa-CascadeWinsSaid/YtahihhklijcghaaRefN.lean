/-
  The document's Winners (printed by print.sh for CascadeWins).
-/
import Derived.Test.YtahihhklijcghaaRefC
import Derived.OwnWalk
namespace Go.Proofs.Ytahihhklijcghaa.PCascadeSorts
open Go.RowKit Go.Proofs.Ytahihhklijcghaa Go.Proofs.YtahihhklijcghaaW.PrintWords Go.Proofs.YtahihhklijcghaaW.PrintLast Go.Proofs.YtahihhklijcghaaW.PrintMore
attribute [local go_sem] max2_int min2_int max_two min_two max_three min_three max_four min_four   -- for this text's walks alone
set_option linter.unusedVariables false
set_option linter.unusedSimpArgs false
theorem info9 : (Try.prog.info? 9).map (fun i => (i.zero, i.size, i.bytes)) = some (some (.string ⟨#[]⟩), 1, 16) := by kernel_rfl
theorem wpList_geq9 (w : World) {ops : Array Oper} {rest : List Oper} {o : Oper} {a : Act} {Q : Exit → Act → World → Prop}
    (hg : o.guard = none) (x y : Operand) (t : TypeId) (hop : o.op = Op.binOp .geq 9 x y t) (p q : ByteArray) (hx : a.eval x = .string p) (hy : a.eval y = .string q) (r : Bool) (hr : (!Op.bytesLess p.toList q.toList) = r)
    (hK : wpList Try.prog ops Q rest (a.put o.dst (.bool r)) w) : wpList Try.prog ops Q (o :: rest) a w := by
  refine wpList_plain hg fun K' hK' => ?_
  subst hr
  unfold Oper.wp
  simp [execOp, hop, hx, hy, Result.andThen]
  exact hK' _ _ hK
/-! ### gouacheref17_Winners: function 22 -/
mutual
def gouacheref17_Winners.l0 : Nat → List (S33) → List ByteArray → List (S33) → Int → Int → Option ((List (S33)))
  | 0, _, _, _, _, _ => none
  | k + 1, x0, x3, x15, x16, x17 => if x17 < x16 then (if 0 ≤ x17 then (if x17 < (x15.length : Int) then (gouacheref17_Winners.l1 k x0 ([] : List ByteArray) false x15 x16 x17 x3 (x3.length : Int) 0 ((rd_T33 x15 x17).f0) ((rd_T33 x15 x17).f1) ((rd_T33 x15 x17).f2) ((rd_T33 x15 x17).f3) ((rd_T33 x15 x17).f4.f0) ((rd_T33 x15 x17).f4.f1) ((rd_T33 x15 x17).f4.f2) ((rd_T33 x15 x17).f5)) else (none)) else (none)) else (gouacheref17_Winners.l2 k x0 ([] : List (S33)) x3 (x3.length : Int) 0)
def gouacheref17_Winners.l1 : Nat → List (S33) → List ByteArray → Bool → List (S33) → Int → Int → List ByteArray → Int → Int → ByteArray → ByteArray → Int → Bool → Int → Int → Int → Int → Option ((List (S33)))
  | 0, _, _, _, _, _, _, _, _, _, _, _, _, _, _, _, _, _ => none
  | k + 1, x0, x6, x7, x15, x16, x17, x21, x22, x23, x305000, x305001, x305002, x305003, x305004, x305005, x305006, x305007 => if x23 < x22 then (if 0 ≤ x23 then (if x23 < (x21.length : Int) then (if ((Op.bytesLess ((rdOf ByteArray.empty x21 x23).toList) x305000.toList) = true) then (gouacheref17_Winners.j2 k x0 x6 x7 (rdOf ByteArray.empty x21 x23) x15 x16 x17 x21 x22 x23 false x305000 x305001 x305002 x305003 x305004 x305005 x305006 x305007) else (gouacheref17_Winners.j2 k x0 x6 x7 (rdOf ByteArray.empty x21 x23) x15 x16 x17 x21 x22 x23 (!x7) x305000 x305001 x305002 x305003 x305004 x305005 x305006 x305007)) else (none)) else (none)) else (if x7 = true then (gouacheref17_Winners.l0 k x0 x6 x15 x16 (wrap64 (x17 + 1))) else (if x6.length < 8796093022208 then (gouacheref17_Winners.l0 k x0 (x6 ++ [x305000]) x15 x16 (wrap64 (x17 + 1))) else (none)))
def gouacheref17_Winners.j2 : Nat → List (S33) → List ByteArray → Bool → ByteArray → List (S33) → Int → Int → List ByteArray → Int → Int → Bool → ByteArray → ByteArray → Int → Bool → Int → Int → Int → Int → Option ((List (S33)))
  | 0, _, _, _, _, _, _, _, _, _, _, _, _, _, _, _, _, _, _, _ => none
  | k + 1, x0, x6, x7, x9, x15, x16, x17, x21, x22, x23, x34, x305000, x305001, x305002, x305003, x305004, x305005, x305006, x305007 => if x34 = true then (if x6.length < 8796093022208 then ((some (x6 ++ [x305000] : List ByteArray)).bind fun y309 => (if x9.toList = x305000.toList then (gouacheref17_Winners.l1 k x0 y309 true x15 x16 x17 x21 x22 (wrap64 (x23 + 1)) x305000 x305001 x305002 x305003 x305004 x305005 x305006 x305007) else (if y309.length < 8796093022208 then (gouacheref17_Winners.l1 k x0 (y309 ++ [x9]) true x15 x16 x17 x21 x22 (wrap64 (x23 + 1)) x305000 x305001 x305002 x305003 x305004 x305005 x305006 x305007) else (none)))) else (none)) else (if x9.toList = x305000.toList then (gouacheref17_Winners.l1 k x0 x6 x7 x15 x16 x17 x21 x22 (wrap64 (x23 + 1)) x305000 x305001 x305002 x305003 x305004 x305005 x305006 x305007) else (if x6.length < 8796093022208 then (gouacheref17_Winners.l1 k x0 (x6 ++ [x9]) x7 x15 x16 x17 x21 x22 (wrap64 (x23 + 1)) x305000 x305001 x305002 x305003 x305004 x305005 x305006 x305007) else (none)))
def gouacheref17_Winners.l2 : Nat → List (S33) → List (S33) → List ByteArray → Int → Int → Option ((List (S33)))
  | 0, _, _, _, _, _ => none
  | k + 1, x0, x10, x58, x59, x60 => if x60 < x59 then (if 0 ≤ x60 then (if x60 < (x58.length : Int) then ((gouacheref17_Winner.f k x0 (rdOf ByteArray.empty x58 x60)).bind fun bt319 => (if x10.length < 1759218604441 then (gouacheref17_Winners.l2 k x0 (x10 ++ [(⟨bt319.1, bt319.2.1, bt319.2.2.1, bt319.2.2.2.1, (⟨bt319.2.2.2.2.1, bt319.2.2.2.2.2.1, bt319.2.2.2.2.2.2.1⟩ : S24), bt319.2.2.2.2.2.2.2.1⟩ : S33)]) x58 x59 (wrap64 (x60 + 1))) else (none))) else (none)) else (none)) else (some x10)
end
def gouacheref17_Winners.f (k : Nat) (l0 : List (S33)) : Option ((List (S33))) := gouacheref17_Winners.l0 k l0 ([] : List ByteArray) l0 (l0.length : Int) 0
theorem gouacheref17_Winners.mono_l : ∀ k, (∀ y0 y1 y2 y3 y4, LeO (gouacheref17_Winners.l0 k y0 y1 y2 y3 y4) (gouacheref17_Winners.l0 (k + 1) y0 y1 y2 y3 y4)) ∧ (∀ y0 y1 y2 y3 y4 y5 y6 y7 y8 y9 y10 y11 y12 y13 y14 y15 y16, LeO (gouacheref17_Winners.l1 k y0 y1 y2 y3 y4 y5 y6 y7 y8 y9 y10 y11 y12 y13 y14 y15 y16) (gouacheref17_Winners.l1 (k + 1) y0 y1 y2 y3 y4 y5 y6 y7 y8 y9 y10 y11 y12 y13 y14 y15 y16)) ∧ (∀ y0 y1 y2 y3 y4 y5 y6 y7 y8 y9 y10 y11 y12 y13 y14 y15 y16 y17 y18, LeO (gouacheref17_Winners.j2 k y0 y1 y2 y3 y4 y5 y6 y7 y8 y9 y10 y11 y12 y13 y14 y15 y16 y17 y18) (gouacheref17_Winners.j2 (k + 1) y0 y1 y2 y3 y4 y5 y6 y7 y8 y9 y10 y11 y12 y13 y14 y15 y16 y17 y18)) ∧ (∀ y0 y1 y2 y3 y4, LeO (gouacheref17_Winners.l2 k y0 y1 y2 y3 y4) (gouacheref17_Winners.l2 (k + 1) y0 y1 y2 y3 y4))
  | 0 => ⟨fun _ _ _ _ _ r h => by simp [gouacheref17_Winners.l0] at h, fun _ _ _ _ _ _ _ _ _ _ _ _ _ _ _ _ _ r h => by simp [gouacheref17_Winners.l1] at h, fun _ _ _ _ _ _ _ _ _ _ _ _ _ _ _ _ _ _ _ r h => by simp [gouacheref17_Winners.j2] at h, fun _ _ _ _ _ r h => by simp [gouacheref17_Winners.l2] at h⟩
  | k + 1 => by
    obtain ⟨ih0, ih1, ih2, ih3⟩ := gouacheref17_Winners.mono_l k
    refine ⟨?_, ?_, ?_, ?_⟩
    · intro y0 y1 y2 y3 y4
      unfold gouacheref17_Winners.l0
      repeat' first
      | (with_reducible exact ih0 _ _ _ _ _)
      | (with_reducible exact ih1 _ _ _ _ _ _ _ _ _ _ _ _ _ _ _ _ _)
      | (with_reducible exact ih2 _ _ _ _ _ _ _ _ _ _ _ _ _ _ _ _ _ _ _)
      | (with_reducible exact ih3 _ _ _ _ _)
      | (with_reducible exact gouacheref17_Winner.mono _ _ _)
      | (with_reducible exact LeO.refl _)
      | (with_reducible exact LeO.none _)
      | (with_reducible refine LeO.ite ?_ ?_)
      | (with_reducible refine LeO.bind ?_ (fun _ => ?_))
      | exact ih0 _ _ _ _ _
      | exact ih1 _ _ _ _ _ _ _ _ _ _ _ _ _ _ _ _ _
      | exact ih2 _ _ _ _ _ _ _ _ _ _ _ _ _ _ _ _ _ _ _
      | exact ih3 _ _ _ _ _
      | exact gouacheref17_Winner.mono _ _ _
      | exact LeO.none _
      | refine LeO.ite ?_ ?_
      | refine LeO.bind ?_ (fun _ => ?_)
    · intro y0 y1 y2 y3 y4 y5 y6 y7 y8 y9 y10 y11 y12 y13 y14 y15 y16
      unfold gouacheref17_Winners.l1
      repeat' first
      | (with_reducible exact ih0 _ _ _ _ _)
      | (with_reducible exact ih1 _ _ _ _ _ _ _ _ _ _ _ _ _ _ _ _ _)
      | (with_reducible exact ih2 _ _ _ _ _ _ _ _ _ _ _ _ _ _ _ _ _ _ _)
      | (with_reducible exact ih3 _ _ _ _ _)
      | (with_reducible exact gouacheref17_Winner.mono _ _ _)
      | (with_reducible exact LeO.refl _)
      | (with_reducible exact LeO.none _)
      | (with_reducible refine LeO.ite ?_ ?_)
      | (with_reducible refine LeO.bind ?_ (fun _ => ?_))
      | exact ih0 _ _ _ _ _
      | exact ih1 _ _ _ _ _ _ _ _ _ _ _ _ _ _ _ _ _
      | exact ih2 _ _ _ _ _ _ _ _ _ _ _ _ _ _ _ _ _ _ _
      | exact ih3 _ _ _ _ _
      | exact gouacheref17_Winner.mono _ _ _
      | exact LeO.none _
      | refine LeO.ite ?_ ?_
      | refine LeO.bind ?_ (fun _ => ?_)
    · intro y0 y1 y2 y3 y4 y5 y6 y7 y8 y9 y10 y11 y12 y13 y14 y15 y16 y17 y18
      unfold gouacheref17_Winners.j2
      repeat' first
      | (with_reducible exact ih0 _ _ _ _ _)
      | (with_reducible exact ih1 _ _ _ _ _ _ _ _ _ _ _ _ _ _ _ _ _)
      | (with_reducible exact ih2 _ _ _ _ _ _ _ _ _ _ _ _ _ _ _ _ _ _ _)
      | (with_reducible exact ih3 _ _ _ _ _)
      | (with_reducible exact gouacheref17_Winner.mono _ _ _)
      | (with_reducible exact LeO.refl _)
      | (with_reducible exact LeO.none _)
      | (with_reducible refine LeO.ite ?_ ?_)
      | (with_reducible refine LeO.bind ?_ (fun _ => ?_))
      | exact ih0 _ _ _ _ _
      | exact ih1 _ _ _ _ _ _ _ _ _ _ _ _ _ _ _ _ _
      | exact ih2 _ _ _ _ _ _ _ _ _ _ _ _ _ _ _ _ _ _ _
      | exact ih3 _ _ _ _ _
      | exact gouacheref17_Winner.mono _ _ _
      | exact LeO.none _
      | refine LeO.ite ?_ ?_
      | refine LeO.bind ?_ (fun _ => ?_)
    · intro y0 y1 y2 y3 y4
      unfold gouacheref17_Winners.l2
      repeat' first
      | (with_reducible exact ih0 _ _ _ _ _)
      | (with_reducible exact ih1 _ _ _ _ _ _ _ _ _ _ _ _ _ _ _ _ _)
      | (with_reducible exact ih2 _ _ _ _ _ _ _ _ _ _ _ _ _ _ _ _ _ _ _)
      | (with_reducible exact ih3 _ _ _ _ _)
      | (with_reducible exact gouacheref17_Winner.mono _ _ _)
      | (with_reducible exact LeO.refl _)
      | (with_reducible exact LeO.none _)
      | (with_reducible refine LeO.ite ?_ ?_)
      | (with_reducible refine LeO.bind ?_ (fun _ => ?_))
      | exact ih0 _ _ _ _ _
      | exact ih1 _ _ _ _ _ _ _ _ _ _ _ _ _ _ _ _ _
      | exact ih2 _ _ _ _ _ _ _ _ _ _ _ _ _ _ _ _ _ _ _
      | exact ih3 _ _ _ _ _
      | exact gouacheref17_Winner.mono _ _ _
      | exact LeO.none _
      | refine LeO.ite ?_ ?_
      | refine LeO.bind ?_ (fun _ => ?_)
theorem gouacheref17_Winners.mono : ∀ a0 k, LeO (gouacheref17_Winners.f k a0) (gouacheref17_Winners.f (k + 1) a0) := by
  intro a0 k
  obtain ⟨ih0, ih1, ih2, ih3⟩ := gouacheref17_Winners.mono_l k
  unfold gouacheref17_Winners.f
  repeat' first
      | (with_reducible exact ih0 _ _ _ _ _)
      | (with_reducible exact ih1 _ _ _ _ _ _ _ _ _ _ _ _ _ _ _ _ _)
      | (with_reducible exact ih2 _ _ _ _ _ _ _ _ _ _ _ _ _ _ _ _ _ _ _)
      | (with_reducible exact ih3 _ _ _ _ _)
      | (with_reducible exact gouacheref17_Winner.mono _ _ _)
      | (with_reducible exact LeO.refl _)
      | (with_reducible exact LeO.none _)
      | (with_reducible refine LeO.ite ?_ ?_)
      | (with_reducible refine LeO.bind ?_ (fun _ => ?_))
      | exact ih0 _ _ _ _ _
      | exact ih1 _ _ _ _ _ _ _ _ _ _ _ _ _ _ _ _ _
      | exact ih2 _ _ _ _ _ _ _ _ _ _ _ _ _ _ _ _ _ _ _
      | exact ih3 _ _ _ _ _
      | exact gouacheref17_Winner.mono _ _ _
      | exact LeO.none _
      | refine LeO.ite ?_ ?_
      | refine LeO.bind ?_ (fun _ => ?_)
set_option maxHeartbeats 8000000 in
set_option maxRecDepth 100000 in
theorem gouacheref17_Winners.calls (k : Nat) (A0 : Option Addr) (c0 : Nat) (l0 : List (S33)) (r : List (S33)) (w : World) (hr0 : Kd.C k33 w A0 l0.length l0) (hc0 : l0.length ≤ c0) (h : gouacheref17_Winners.f k l0 = some r) :
    Calls Try.prog 22 #[.slice A0 l0.length c0] w fun e w' => ∃ v0_ : Value, e = .returned (v0_) ∧ Kd.R k33 33 w' w.heap.size (fun _ => True) v0_ r ∧ Below w.heap.size w w' := by
  have hu33 := Try.underlying33
  have HR0 := Aside0.mk hr0
  have HC0 := Aside0.mk hc0
  clear hr0 hc0
  have HB := Aside0.mk (Below.refl w.heap.size w)
  have H : (gouacheref17_Winners.l0 k l0 ([] : List ByteArray) l0 (l0.length : Int) 0) = some r := h
  clear h
  have H' := Aside0.mk H
  clear H
  go_enter Try.func22, Try.ntmps22
  go_wp2
  go_loopg [3, 17] k (fun kq v3 v17 w' => ∃ (x3_1 : List ByteArray) (x17_1 : Int), v17 = .int .i64 x17_1 ∧ Aside0 (gouacheref17_Winners.l0 kq l0 x3_1 l0 (l0.length : Int) x17_1 = some r) ∧ Aside0 (kq ≤ k) ∧ Aside0 (Kd.R Kd.string 9 w' w.heap.size (fun _ => True) v3 x3_1) ∧ Aside0 (Below w.heap.size w w'))
  case atStart => exact ⟨(([] : List ByteArray)), (0), (by first | rfl | (simp; done) | (simp [*]; done)), H', ⟨Nat.le_refl _⟩, ⟨by first | exact Kd.R_nil _ _ _ _ _ | exact Kd.N_nil _ _ _ _ _ | exact Kd.V_nil _ _ _ _ _ | exact Kd.Q_nil _ _ _ _ _ | exact Kd.S_nil _ _ _ _ _⟩, ⟨by repeat (first | (with_reducible first | exact HB.out | apply below_alloc | apply pw_below_drewN | apply below_drew1) | exact HB.out)⟩⟩
  case round =>
    clear H'
    obtain ⟨x3_1, x17_1, rfl, HA, HK1, HO_3, HB⟩ := hrel
    cases gk with
    | zero => exact absurd HA.out (by simp [gouacheref17_Winners.l0])
    | succ k1 =>
      have H := HA.out
      clear HA
      simp only [gouacheref17_Winners.l0] at H
      by_cases c2 : x17_1 < (l0.length : Int)
      · rw [if_pos c2] at H
        have c2b0 : decide (x17_1 < (l0.length : Int)) = true := decide_eq_true c2
        clear c2
        by_cases c3 : 0 ≤ x17_1
        · rw [if_pos c3] at H
          have c3b0 : decide (0 ≤ x17_1) = true := decide_eq_true c3
          clear c3
          by_cases c4 : x17_1 < (l0.length : Int)
          · rw [if_pos c4] at H
            have c4b0 : decide (x17_1 < (l0.length : Int)) = true := decide_eq_true c4
            clear c4
            have H' := Aside0.mk H
            clear H
            have p303 : 0 ≤ (x17_1 : Int) := of_decide_eq_true (by first | (with_reducible assumption) | assumption)
            have q303 : x17_1 < (l0.length : Int) := of_decide_eq_true (by first | (with_reducible assumption) | assumption)
            obtain ⟨ad303, e303, hx303_0, hx303_1, hx303_2, hx303_3, hx303_4, hx303_5, hx303_6, hx303_7⟩ := at_T33 HR0.out x17_1 p303 q303
            cases e303
            replace hx303_0 := (HB.out.cell (World.block_lt_of_cell? w _ hx303_0)).trans hx303_0
            replace hx303_1 := (HB.out.cell (World.block_lt_of_cell? w _ hx303_1)).trans hx303_1
            replace hx303_2 := (HB.out.cell (World.block_lt_of_cell? w _ hx303_2)).trans hx303_2
            replace hx303_3 := (HB.out.cell (World.block_lt_of_cell? w _ hx303_3)).trans hx303_3
            replace hx303_4 := (HB.out.cell (World.block_lt_of_cell? w _ hx303_4)).trans hx303_4
            replace hx303_5 := (HB.out.cell (World.block_lt_of_cell? w _ hx303_5)).trans hx303_5
            replace hx303_6 := (HB.out.cell (World.block_lt_of_cell? w _ hx303_6)).trans hx303_6
            replace hx303_7 := (HB.out.cell (World.block_lt_of_cell? w _ hx303_7)).trans hx303_7
            replace p303 := eq_true p303
            replace q303 := eq_true q303
            go_wp2_with (first | ((with_reducible refine gate_dst (N := 5) rfl ?_); refine box_event ?hg (N := 5) ?hd (cs := #[.string (⟨#[]⟩ : ByteArray), .string (⟨#[]⟩ : ByteArray), .int .i64 0, .bool false, .int .i64 0, .int .i64 0, .int .i64 0, .int .i64 0]) (t := 33) ?hr ?_; (case hd => rfl); (case hg => rfl); (case hr => first | (go_simp; done) | (go_simp; rfl)); intro gb304 hg w5 hbox hb; have n0_ := Aside0.mk (Kd.R_below (by (with_reducible repeat (first | apply Kd.R_alloc | apply Kd.R_drewN | apply Kd.R_drew)); exact HO_3.out) hb); have n1_ := Aside0.mk (below_step (by repeat (first | (with_reducible first | exact HB.out | apply below_alloc | apply pw_below_drewN | apply below_drew1) | exact HB.out)) hb); have n2_ := Aside0.mk (hbox); have n3_ := Aside0.mk ((by rw [hg]; exact (below_size (by repeat (first | (with_reducible first | exact HB.out | apply below_alloc | apply pw_below_drewN | apply below_drew1) | exact HB.out))) : w.heap.size ≤ gb304)); have n4_ := Aside0.mk ((by rw [hg]; exact (below_size (by repeat (first | (with_reducible first | exact HB.out | apply below_alloc | apply pw_below_drewN | apply below_drew1) | exact HB.out))) : w.heap.size ≤ gb304)); clear HO_3; clear HB; have HO_3 := n0_; have HB := n1_; have BK304 := n2_; have GW304 := n3_; have GE304 := n4_; clear n0_ n1_ n2_ n3_ n4_; clear hb hbox hg; have hcz6_0 : w5.cell? ⟨gb304, 0, none⟩ = some (.string (⟨#[]⟩ : ByteArray)) := (blk_cell BK304.out 0).trans rfl; have hcz6_1 : w5.cell? ⟨gb304, 1, none⟩ = some (.string (⟨#[]⟩ : ByteArray)) := (blk_cell BK304.out 1).trans rfl; have hcz6_2 : w5.cell? ⟨gb304, 2, none⟩ = some (.int .i64 0) := (blk_cell BK304.out 2).trans rfl; have hcz6_3 : w5.cell? ⟨gb304, 3, none⟩ = some (.bool false) := (blk_cell BK304.out 3).trans rfl; have hcz6_4 : w5.cell? ⟨gb304, 4, none⟩ = some (.int .i64 0) := (blk_cell BK304.out 4).trans rfl; have hcz6_5 : w5.cell? ⟨gb304, 5, none⟩ = some (.int .i64 0) := (blk_cell BK304.out 5).trans rfl; have hcz6_6 : w5.cell? ⟨gb304, 6, none⟩ = some (.int .i64 0) := (blk_cell BK304.out 6).trans rfl; have hcz6_7 : w5.cell? ⟨gb304, 7, none⟩ = some (.int .i64 0) := (blk_cell BK304.out 7).trans rfl; have hfz6_0 := blk_frozen BK304.out 0; have hfz6_1 := blk_frozen BK304.out 1; have hfz6_2 := blk_frozen BK304.out 2; have hfz6_3 := blk_frozen BK304.out 3; have hfz6_4 := blk_frozen BK304.out 4; have hfz6_5 := blk_frozen BK304.out 5; have hfz6_6 := blk_frozen BK304.out 6; have hfz6_7 := blk_frozen BK304.out 7; obtain ⟨Ao7, co7, eo7⟩ := Kd.R_slice HO_3.out; subst eo7))
            go_loopg [6, 7, 23] k1 (fun kq v6 v7 v23 w' => ∃ (x6_2 : List ByteArray) (x7_2 : Bool) (x23_2 : Int), v7 = .bool x7_2 ∧ v23 = .int .i64 x23_2 ∧ Aside0 (gouacheref17_Winners.l1 kq l0 x6_2 x7_2 l0 (l0.length : Int) x17_1 x3_1 (x3_1.length : Int) x23_2 ((rd_T33 l0 x17_1).f0) ((rd_T33 l0 x17_1).f1) ((rd_T33 l0 x17_1).f2) ((rd_T33 l0 x17_1).f3) ((rd_T33 l0 x17_1).f4.f0) ((rd_T33 l0 x17_1).f4.f1) ((rd_T33 l0 x17_1).f4.f2) ((rd_T33 l0 x17_1).f5) = some r) ∧ Aside0 (kq ≤ k1) ∧ Aside0 (Kd.R Kd.string 9 w' w.heap.size (fun k_ => some k_ ≠ ((.slice Ao7 x3_1.length co7) : Value).ownBlock) v6 x6_2) ∧ Aside0 (Kd.R Kd.string 9 w' w.heap.size (fun k_ => some k_ ≠ (v6 : Value).ownBlock) (.slice Ao7 x3_1.length co7) x3_1) ∧ Aside0 (w'.heap[gb304]? = some (.cells #[.string ((rd_T33 l0 x17_1).f0), .string ((rd_T33 l0 x17_1).f1), .int .i64 ((rd_T33 l0 x17_1).f2), .bool ((rd_T33 l0 x17_1).f3), .int .i64 ((rd_T33 l0 x17_1).f4.f0), .int .i64 ((rd_T33 l0 x17_1).f4.f1), .int .i64 ((rd_T33 l0 x17_1).f4.f2), .int .i64 ((rd_T33 l0 x17_1).f5)] 33 (0, 0))) ∧ Aside0 (Below w.heap.size w w'))
            case atStart => exact ⟨(([] : List ByteArray)), (false), (0), (by first | rfl | (simp; done) | (simp [*]; done)), (by first | rfl | (simp; done) | (simp [*]; done)), H', ⟨Nat.le_refl _⟩, ⟨by first | exact Kd.R_nil _ _ _ _ _ | exact Kd.N_nil _ _ _ _ _ | exact Kd.V_nil _ _ _ _ _ | exact Kd.Q_nil _ _ _ _ _ | exact Kd.S_nil _ _ _ _ _⟩, ⟨by (with_reducible repeat (first | apply Kd.R_alloc | apply Kd.R_drewN | apply Kd.R_drew)); exact Kd.R_mono (Kd.R_far (p := ⟨gb304, 7, none⟩) (Kd.R_far (p := ⟨gb304, 6, none⟩) (Kd.R_far (p := ⟨gb304, 5, none⟩) (Kd.R_far (p := ⟨gb304, 4, none⟩) (Kd.R_far (p := ⟨gb304, 3, none⟩) (Kd.R_far (p := ⟨gb304, 2, none⟩) (Kd.R_far (p := ⟨gb304, 1, none⟩) (Kd.R_far (p := ⟨gb304, 0, none⟩) (Kd.R_types HO_3.out BK304.out (by decide)) (fun _ hk => hk.2) (.string ((rd_T33 l0 x17_1).f0))) (fun _ hk => hk.2) (.string ((rd_T33 l0 x17_1).f1))) (fun _ hk => hk.2) (.int .i64 ((rd_T33 l0 x17_1).f2))) (fun _ hk => hk.2) (.bool ((rd_T33 l0 x17_1).f3))) (fun _ hk => hk.2) (.int .i64 ((rd_T33 l0 x17_1).f4.f0))) (fun _ hk => hk.2) (.int .i64 ((rd_T33 l0 x17_1).f4.f1))) (fun _ hk => hk.2) (.int .i64 ((rd_T33 l0 x17_1).f4.f2))) (fun _ hk => hk.2) (.int .i64 ((rd_T33 l0 x17_1).f5))) (fun _ hk => (by simp [Value.ownBlock]))⟩, ⟨by (with_reducible repeat (first | refine blk_drewN ?_ _ | refine blk_drew ?_ | refine blk_alloc ?_ _)); refine blk_put (cs := #[.string ((rd_T33 l0 x17_1).f0), .string ((rd_T33 l0 x17_1).f1), .int .i64 ((rd_T33 l0 x17_1).f2), .bool ((rd_T33 l0 x17_1).f3), .int .i64 ((rd_T33 l0 x17_1).f4.f0), .int .i64 ((rd_T33 l0 x17_1).f4.f1), .int .i64 ((rd_T33 l0 x17_1).f4.f2), .int .i64 0]) ?_ 7 _ rfl; (with_reducible repeat (first | refine blk_drewN ?_ _ | refine blk_drew ?_ | refine blk_alloc ?_ _)); refine blk_put (cs := #[.string ((rd_T33 l0 x17_1).f0), .string ((rd_T33 l0 x17_1).f1), .int .i64 ((rd_T33 l0 x17_1).f2), .bool ((rd_T33 l0 x17_1).f3), .int .i64 ((rd_T33 l0 x17_1).f4.f0), .int .i64 ((rd_T33 l0 x17_1).f4.f1), .int .i64 0, .int .i64 0]) ?_ 6 _ rfl; (with_reducible repeat (first | refine blk_drewN ?_ _ | refine blk_drew ?_ | refine blk_alloc ?_ _)); refine blk_put (cs := #[.string ((rd_T33 l0 x17_1).f0), .string ((rd_T33 l0 x17_1).f1), .int .i64 ((rd_T33 l0 x17_1).f2), .bool ((rd_T33 l0 x17_1).f3), .int .i64 ((rd_T33 l0 x17_1).f4.f0), .int .i64 0, .int .i64 0, .int .i64 0]) ?_ 5 _ rfl; (with_reducible repeat (first | refine blk_drewN ?_ _ | refine blk_drew ?_ | refine blk_alloc ?_ _)); refine blk_put (cs := #[.string ((rd_T33 l0 x17_1).f0), .string ((rd_T33 l0 x17_1).f1), .int .i64 ((rd_T33 l0 x17_1).f2), .bool ((rd_T33 l0 x17_1).f3), .int .i64 0, .int .i64 0, .int .i64 0, .int .i64 0]) ?_ 4 _ rfl; (with_reducible repeat (first | refine blk_drewN ?_ _ | refine blk_drew ?_ | refine blk_alloc ?_ _)); refine blk_put (cs := #[.string ((rd_T33 l0 x17_1).f0), .string ((rd_T33 l0 x17_1).f1), .int .i64 ((rd_T33 l0 x17_1).f2), .bool false, .int .i64 0, .int .i64 0, .int .i64 0, .int .i64 0]) ?_ 3 _ rfl; (with_reducible repeat (first | refine blk_drewN ?_ _ | refine blk_drew ?_ | refine blk_alloc ?_ _)); refine blk_put (cs := #[.string ((rd_T33 l0 x17_1).f0), .string ((rd_T33 l0 x17_1).f1), .int .i64 0, .bool false, .int .i64 0, .int .i64 0, .int .i64 0, .int .i64 0]) ?_ 2 _ rfl; (with_reducible repeat (first | refine blk_drewN ?_ _ | refine blk_drew ?_ | refine blk_alloc ?_ _)); refine blk_put (cs := #[.string ((rd_T33 l0 x17_1).f0), .string (⟨#[]⟩ : ByteArray), .int .i64 0, .bool false, .int .i64 0, .int .i64 0, .int .i64 0, .int .i64 0]) ?_ 1 _ rfl; (with_reducible repeat (first | refine blk_drewN ?_ _ | refine blk_drew ?_ | refine blk_alloc ?_ _)); refine blk_put (cs := #[.string (⟨#[]⟩ : ByteArray), .string (⟨#[]⟩ : ByteArray), .int .i64 0, .bool false, .int .i64 0, .int .i64 0, .int .i64 0, .int .i64 0]) ?_ 0 _ rfl; (with_reducible repeat (first | refine blk_drewN ?_ _ | refine blk_drew ?_ | refine blk_alloc ?_ _)); exact BK304.out⟩, ⟨by repeat (first | (with_reducible first | exact HB.out | apply below_alloc | apply pw_below_drewN | apply below_drew1 | refine below_set ?_ GE304.out) | exact HB.out)⟩⟩
            case round =>
              clear H'
              try clear c2
              try clear c2b0
              try clear p2
              try clear c3
              try clear c3b0
              try clear p3
              try clear q3
              try clear hx3
              try clear c4
              try clear c4b0
              try clear hcz6_0
              try clear hcz6_1
              try clear hcz6_2
              try clear hcz6_3
              try clear hcz6_4
              try clear hcz6_5
              try clear hcz6_6
              try clear hcz6_7
              try clear hfz6_0
              try clear hfz6_1
              try clear hfz6_2
              try clear hfz6_3
              try clear hfz6_4
              try clear hfz6_5
              try clear hfz6_6
              try clear hfz6_7
              try clear hx303_0
              try clear hx303_1
              try clear hx303_2
              try clear hx303_3
              try clear hx303_4
              try clear hx303_5
              try clear hx303_6
              try clear hx303_7
              try clear p303
              try clear q303
              obtain ⟨x6_2, x7_2, x23_2, rfl, rfl, HA, HK2, HO_6, HO_21, BK304, HB⟩ := hrel
              cases gk with
              | zero => exact absurd HA.out (by simp [gouacheref17_Winners.l1])
              | succ k2 =>
                have H := HA.out
                clear HA
                simp only [gouacheref17_Winners.l1] at H
                by_cases c8 : x23_2 < (x3_1.length : Int)
                · rw [if_pos c8] at H
                  have c8b0 : decide (x23_2 < (x3_1.length : Int)) = true := decide_eq_true c8
                  clear c8
                  by_cases c9 : 0 ≤ x23_2
                  · rw [if_pos c9] at H
                    have c9b0 : decide (0 ≤ x23_2) = true := decide_eq_true c9
                    clear c9
                    by_cases c10 : x23_2 < (x3_1.length : Int)
                    · rw [if_pos c10] at H
                      have c10b0 : decide (x23_2 < (x3_1.length : Int)) = true := decide_eq_true c10
                      clear c10
                      have HC11 := Aside0.mk H
                      clear H
                      have p308 : 0 ≤ (x23_2 : Int) := of_decide_eq_true (by first | (with_reducible assumption) | assumption)
                      have q308 : x23_2 < (x3_1.length : Int) := of_decide_eq_true (by first | (with_reducible assumption) | assumption)
                      obtain ⟨ad308, e308, hx308_0⟩ := Kd.at_string (Kd.R_reads' HO_21.out).2.2 x23_2 p308 q308
                      cases e308
                      replace p308 := eq_true p308
                      replace q308 := eq_true q308
                      go_upto_region 10 with (fail)
                      go_cut [34] (fun v34 wc => ∃ (kq : Nat) (x34_10 : Bool), v34 = .bool x34_10 ∧ Aside0 (gouacheref17_Winners.j2 kq l0 x6_2 x7_2 (rdOf ByteArray.empty x3_1 x23_2) l0 (l0.length : Int) x17_1 x3_1 (x3_1.length : Int) x23_2 x34_10 ((rd_T33 l0 x17_1).f0) ((rd_T33 l0 x17_1).f1) ((rd_T33 l0 x17_1).f2) ((rd_T33 l0 x17_1).f3) ((rd_T33 l0 x17_1).f4.f0) ((rd_T33 l0 x17_1).f4.f1) ((rd_T33 l0 x17_1).f4.f2) ((rd_T33 l0 x17_1).f5) = some r) ∧ Aside0 (kq ≤ k2) ∧ Aside0 (Kd.R Kd.string 9 wc w.heap.size (fun k_ => some k_ ≠ ((.slice (some ad308) x3_1.length co7) : Value).ownBlock) u6 x6_2) ∧ Aside0 (Kd.R Kd.string 9 wc w.heap.size (fun k_ => some k_ ≠ (u6 : Value).ownBlock) (.slice (some ad308) x3_1.length co7) x3_1) ∧ Aside0 (wc.heap[gb304]? = some (.cells #[.string ((rd_T33 l0 x17_1).f0), .string ((rd_T33 l0 x17_1).f1), .int .i64 ((rd_T33 l0 x17_1).f2), .bool ((rd_T33 l0 x17_1).f3), .int .i64 ((rd_T33 l0 x17_1).f4.f0), .int .i64 ((rd_T33 l0 x17_1).f4.f1), .int .i64 ((rd_T33 l0 x17_1).f4.f2), .int .i64 ((rd_T33 l0 x17_1).f5)] 33 (0, 0))) ∧ Aside0 (Below w.heap.size w wc))
                      case first =>
                        have H := HC11.out
                        clear HC11
                        by_cases c12 : ((Op.bytesLess ((rdOf ByteArray.empty x3_1 x23_2).toList) ((rd_T33 l0 x17_1).f0).toList) = true)
                        · rw [if_pos c12] at H
                          have c12b0 : (Op.bytesLess ((rdOf ByteArray.empty x3_1 x23_2).toList) ((rd_T33 l0 x17_1).f0).toList) = true := c12
                          have c12n : (!(Op.bytesLess ((rdOf ByteArray.empty x3_1 x23_2).toList) ((rd_T33 l0 x17_1).f0).toList)) = false := by rw [c12b0]; rfl
                          clear c12
                          (first | rw [c12b0] | (simp only [i64_w, i32_w]; rw [c12b0]) | skip)
                          have H' := Aside0.mk H
                          clear H
                          have hcz13_0 : wr.cell? ⟨gb304, 0, none⟩ = some (.string ((rd_T33 l0 x17_1).f0)) := (blk_cell BK304.out 0).trans rfl
                          have hcz13_1 : wr.cell? ⟨gb304, 1, none⟩ = some (.string ((rd_T33 l0 x17_1).f1)) := (blk_cell BK304.out 1).trans rfl
                          have hcz13_2 : wr.cell? ⟨gb304, 2, none⟩ = some (.int .i64 ((rd_T33 l0 x17_1).f2)) := (blk_cell BK304.out 2).trans rfl
                          have hcz13_3 : wr.cell? ⟨gb304, 3, none⟩ = some (.bool ((rd_T33 l0 x17_1).f3)) := (blk_cell BK304.out 3).trans rfl
                          have hcz13_4 : wr.cell? ⟨gb304, 4, none⟩ = some (.int .i64 ((rd_T33 l0 x17_1).f4.f0)) := (blk_cell BK304.out 4).trans rfl
                          have hcz13_5 : wr.cell? ⟨gb304, 5, none⟩ = some (.int .i64 ((rd_T33 l0 x17_1).f4.f1)) := (blk_cell BK304.out 5).trans rfl
                          have hcz13_6 : wr.cell? ⟨gb304, 6, none⟩ = some (.int .i64 ((rd_T33 l0 x17_1).f4.f2)) := (blk_cell BK304.out 6).trans rfl
                          have hcz13_7 : wr.cell? ⟨gb304, 7, none⟩ = some (.int .i64 ((rd_T33 l0 x17_1).f5)) := (blk_cell BK304.out 7).trans rfl
                          have hfz13_0 := blk_frozen BK304.out 0
                          have hfz13_1 := blk_frozen BK304.out 1
                          have hfz13_2 := blk_frozen BK304.out 2
                          have hfz13_3 := blk_frozen BK304.out 3
                          have hfz13_4 := blk_frozen BK304.out 4
                          have hfz13_5 := blk_frozen BK304.out 5
                          have hfz13_6 := blk_frozen BK304.out 6
                          have hfz13_7 := blk_frozen BK304.out 7
                          go_wp2_with (refine wpList_geq9 _ rfl _ _ _ rfl _ _ rfl rfl _ c12n ?_)
                          go_meet
                          case rel => exact ⟨_, (false), (by first | rfl | (simp; done) | (simp [*]; done)), H', ⟨by have := HK1.out; have := HK2.out; first | omega | exact Nat.le_refl _⟩, ⟨by (with_reducible repeat (first | apply Kd.R_alloc | apply Kd.R_drewN | apply Kd.R_drew)); exact HO_6.out⟩, ⟨by (with_reducible repeat (first | apply Kd.R_alloc | apply Kd.R_drewN | apply Kd.R_drew)); exact HO_21.out⟩, ⟨by (with_reducible repeat (first | refine blk_drewN ?_ _ | refine blk_drew ?_ | refine blk_alloc ?_ _)); exact BK304.out⟩, ⟨by repeat (first | (with_reducible first | exact HB.out | apply below_alloc | apply pw_below_drewN | apply below_drew1 | refine below_set ?_ GE304.out) | exact HB.out)⟩⟩
                        · rw [if_neg c12] at H
                          have c12b0 : (Op.bytesLess ((rdOf ByteArray.empty x3_1 x23_2).toList) ((rd_T33 l0 x17_1).f0).toList) = false := by simpa using c12
                          have c12n : (!(Op.bytesLess ((rdOf ByteArray.empty x3_1 x23_2).toList) ((rd_T33 l0 x17_1).f0).toList)) = true := by rw [c12b0]; rfl
                          clear c12
                          (first | rw [c12b0] | (simp only [i64_w, i32_w]; rw [c12b0]) | skip)
                          have H' := Aside0.mk H
                          clear H
                          have hcz14_0 : wr.cell? ⟨gb304, 0, none⟩ = some (.string ((rd_T33 l0 x17_1).f0)) := (blk_cell BK304.out 0).trans rfl
                          have hcz14_1 : wr.cell? ⟨gb304, 1, none⟩ = some (.string ((rd_T33 l0 x17_1).f1)) := (blk_cell BK304.out 1).trans rfl
                          have hcz14_2 : wr.cell? ⟨gb304, 2, none⟩ = some (.int .i64 ((rd_T33 l0 x17_1).f2)) := (blk_cell BK304.out 2).trans rfl
                          have hcz14_3 : wr.cell? ⟨gb304, 3, none⟩ = some (.bool ((rd_T33 l0 x17_1).f3)) := (blk_cell BK304.out 3).trans rfl
                          have hcz14_4 : wr.cell? ⟨gb304, 4, none⟩ = some (.int .i64 ((rd_T33 l0 x17_1).f4.f0)) := (blk_cell BK304.out 4).trans rfl
                          have hcz14_5 : wr.cell? ⟨gb304, 5, none⟩ = some (.int .i64 ((rd_T33 l0 x17_1).f4.f1)) := (blk_cell BK304.out 5).trans rfl
                          have hcz14_6 : wr.cell? ⟨gb304, 6, none⟩ = some (.int .i64 ((rd_T33 l0 x17_1).f4.f2)) := (blk_cell BK304.out 6).trans rfl
                          have hcz14_7 : wr.cell? ⟨gb304, 7, none⟩ = some (.int .i64 ((rd_T33 l0 x17_1).f5)) := (blk_cell BK304.out 7).trans rfl
                          have hfz14_0 := blk_frozen BK304.out 0
                          have hfz14_1 := blk_frozen BK304.out 1
                          have hfz14_2 := blk_frozen BK304.out 2
                          have hfz14_3 := blk_frozen BK304.out 3
                          have hfz14_4 := blk_frozen BK304.out 4
                          have hfz14_5 := blk_frozen BK304.out 5
                          have hfz14_6 := blk_frozen BK304.out 6
                          have hfz14_7 := blk_frozen BK304.out 7
                          go_wp2_with (refine wpList_geq9 _ rfl _ _ _ rfl _ _ rfl rfl _ c12n ?_)
                          go_meet
                          case rel => exact ⟨_, (!x7_2), (by first | rfl | (simp; done) | (simp [*]; done)), H', ⟨by have := HK1.out; have := HK2.out; first | omega | exact Nat.le_refl _⟩, ⟨by (with_reducible repeat (first | apply Kd.R_alloc | apply Kd.R_drewN | apply Kd.R_drew)); exact HO_6.out⟩, ⟨by (with_reducible repeat (first | apply Kd.R_alloc | apply Kd.R_drewN | apply Kd.R_drew)); exact HO_21.out⟩, ⟨by (with_reducible repeat (first | refine blk_drewN ?_ _ | refine blk_drew ?_ | refine blk_alloc ?_ _)); exact BK304.out⟩, ⟨by repeat (first | (with_reducible first | exact HB.out | apply below_alloc | apply pw_below_drewN | apply below_drew1 | refine below_set ?_ GE304.out) | exact HB.out)⟩⟩
                      case rest =>
                        clear HC11
                        try clear c1
                        try clear c2
                        try clear c2b0
                        try clear p2
                        try clear c3
                        try clear c3b0
                        try clear p3
                        try clear q3
                        try clear hx3
                        try clear c4
                        try clear c4b0
                        try clear c8
                        try clear c8b0
                        try clear c9
                        try clear c9b0
                        try clear c10
                        try clear c10b0
                        try clear c12
                        try clear c12b0
                        try clear hcz13_0
                        try clear hcz13_1
                        try clear hcz13_2
                        try clear hcz13_3
                        try clear hcz13_4
                        try clear hcz13_5
                        try clear hcz13_6
                        try clear hcz13_7
                        try clear hcz14_0
                        try clear hcz14_1
                        try clear hcz14_2
                        try clear hcz14_3
                        try clear hcz14_4
                        try clear hcz14_5
                        try clear hcz14_6
                        try clear hcz14_7
                        try clear hcz6_0
                        try clear hcz6_1
                        try clear hcz6_2
                        try clear hcz6_3
                        try clear hcz6_4
                        try clear hcz6_5
                        try clear hcz6_6
                        try clear hcz6_7
                        try clear hfz13_0
                        try clear hfz13_1
                        try clear hfz13_2
                        try clear hfz13_3
                        try clear hfz13_4
                        try clear hfz13_5
                        try clear hfz13_6
                        try clear hfz13_7
                        try clear hfz14_0
                        try clear hfz14_1
                        try clear hfz14_2
                        try clear hfz14_3
                        try clear hfz14_4
                        try clear hfz14_5
                        try clear hfz14_6
                        try clear hfz14_7
                        try clear hfz6_0
                        try clear hfz6_1
                        try clear hfz6_2
                        try clear hfz6_3
                        try clear hfz6_4
                        try clear hfz6_5
                        try clear hfz6_6
                        try clear hfz6_7
                        try clear hx303_0
                        try clear hx303_1
                        try clear hx303_2
                        try clear hx303_3
                        try clear hx303_4
                        try clear hx303_5
                        try clear hx303_6
                        try clear hx303_7
                        try clear hx308_0
                        try clear p2
                        try clear p3
                        try clear p303
                        try clear p308
                        try clear q3
                        try clear q303
                        try clear q308
                        obtain ⟨kq, x34_10, rfl, HA, HJ10, HO_6, HO_21, BK304, HB⟩ := hcut
                        cases kq with
                        | zero => exact absurd HA.out (by simp [gouacheref17_Winners.j2])
                        | succ kj10 =>
                          have H := HA.out
                          clear HA
                          simp only [gouacheref17_Winners.j2] at H
                          by_cases c15 : x34_10 = true
                          · subst c15
                            have H1 : (if x6_2.length < 8796093022208 then ((some (x6_2 ++ [((rd_T33 l0 x17_1).f0)] : List ByteArray)).bind fun y309 => (if (rdOf ByteArray.empty x3_1 x23_2).toList = ((rd_T33 l0 x17_1).f0).toList then (gouacheref17_Winners.l1 kj10 l0 y309 true l0 (l0.length : Int) x17_1 x3_1 (x3_1.length : Int) (wrap64 (x23_2 + 1)) ((rd_T33 l0 x17_1).f0) ((rd_T33 l0 x17_1).f1) ((rd_T33 l0 x17_1).f2) ((rd_T33 l0 x17_1).f3) ((rd_T33 l0 x17_1).f4.f0) ((rd_T33 l0 x17_1).f4.f1) ((rd_T33 l0 x17_1).f4.f2) ((rd_T33 l0 x17_1).f5)) else (if y309.length < 8796093022208 then (gouacheref17_Winners.l1 kj10 l0 (y309 ++ [(rdOf ByteArray.empty x3_1 x23_2)]) true l0 (l0.length : Int) x17_1 x3_1 (x3_1.length : Int) (wrap64 (x23_2 + 1)) ((rd_T33 l0 x17_1).f0) ((rd_T33 l0 x17_1).f1) ((rd_T33 l0 x17_1).f2) ((rd_T33 l0 x17_1).f3) ((rd_T33 l0 x17_1).f4.f0) ((rd_T33 l0 x17_1).f4.f1) ((rd_T33 l0 x17_1).f4.f2) ((rd_T33 l0 x17_1).f5)) else (none)))) else (none)) = some r := by rw [if_pos rfl] at H; exact H
                            clear H
                            have H := H1
                            clear H1
                            by_cases c16 : x6_2.length < 8796093022208
                            · rw [if_pos c16] at H
                              have LMc16 := Aside0.mk c16
                              clear c16
                              obtain ⟨y309, hy309⟩ : ∃ y_ : List ByteArray, y_ = (x6_2 ++ [((rd_T33 l0 x17_1).f0)]) := ⟨_, rfl⟩
                              replace H : (if (rdOf ByteArray.empty x3_1 x23_2).toList = ((rd_T33 l0 x17_1).f0).toList then (gouacheref17_Winners.l1 kj10 l0 y309 true l0 (l0.length : Int) x17_1 x3_1 (x3_1.length : Int) (wrap64 (x23_2 + 1)) ((rd_T33 l0 x17_1).f0) ((rd_T33 l0 x17_1).f1) ((rd_T33 l0 x17_1).f2) ((rd_T33 l0 x17_1).f3) ((rd_T33 l0 x17_1).f4.f0) ((rd_T33 l0 x17_1).f4.f1) ((rd_T33 l0 x17_1).f4.f2) ((rd_T33 l0 x17_1).f5)) else (if y309.length < 8796093022208 then (gouacheref17_Winners.l1 kj10 l0 (y309 ++ [(rdOf ByteArray.empty x3_1 x23_2)]) true l0 (l0.length : Int) x17_1 x3_1 (x3_1.length : Int) (wrap64 (x23_2 + 1)) ((rd_T33 l0 x17_1).f0) ((rd_T33 l0 x17_1).f1) ((rd_T33 l0 x17_1).f2) ((rd_T33 l0 x17_1).f3) ((rd_T33 l0 x17_1).f4.f0) ((rd_T33 l0 x17_1).f4.f1) ((rd_T33 l0 x17_1).f4.f2) ((rd_T33 l0 x17_1).f5)) else (none))) = some r := by first | (rw [hy309]; with_reducible exact H) | (have H2_ := (Option.bind_some _ _).symm.trans H; rw [hy309]; with_reducible exact H2_) | (have H2_ := (Option.bind_some _ _).symm.trans H; with_reducible exact H2_) | with_reducible exact H | (rw [hy309]; exact H) | exact H
                              have Ny309 := Aside0.mk hy309
                              clear hy309
                              by_cases c17 : (rdOf ByteArray.empty x3_1 x23_2).toList = ((rd_T33 l0 x17_1).f0).toList
                              · rw [if_pos c17] at H
                                have c17b0 : ((rdOf ByteArray.empty x3_1 x23_2).toList == ((rd_T33 l0 x17_1).f0).toList) = true := beq_iff_eq.mpr c17
                                have c17b1 : ((rdOf ByteArray.empty x3_1 x23_2).toList != ((rd_T33 l0 x17_1).f0).toList) = false := bne_eq_false_iff_eq.mpr c17
                                clear c17
                                have H' := Aside0.mk H
                                clear H
                                have hcz18_0 : wc.cell? ⟨gb304, 0, none⟩ = some (.string ((rd_T33 l0 x17_1).f0)) := (blk_cell BK304.out 0).trans rfl
                                have hcz18_1 : wc.cell? ⟨gb304, 1, none⟩ = some (.string ((rd_T33 l0 x17_1).f1)) := (blk_cell BK304.out 1).trans rfl
                                have hcz18_2 : wc.cell? ⟨gb304, 2, none⟩ = some (.int .i64 ((rd_T33 l0 x17_1).f2)) := (blk_cell BK304.out 2).trans rfl
                                have hcz18_3 : wc.cell? ⟨gb304, 3, none⟩ = some (.bool ((rd_T33 l0 x17_1).f3)) := (blk_cell BK304.out 3).trans rfl
                                have hcz18_4 : wc.cell? ⟨gb304, 4, none⟩ = some (.int .i64 ((rd_T33 l0 x17_1).f4.f0)) := (blk_cell BK304.out 4).trans rfl
                                have hcz18_5 : wc.cell? ⟨gb304, 5, none⟩ = some (.int .i64 ((rd_T33 l0 x17_1).f4.f1)) := (blk_cell BK304.out 5).trans rfl
                                have hcz18_6 : wc.cell? ⟨gb304, 6, none⟩ = some (.int .i64 ((rd_T33 l0 x17_1).f4.f2)) := (blk_cell BK304.out 6).trans rfl
                                have hcz18_7 : wc.cell? ⟨gb304, 7, none⟩ = some (.int .i64 ((rd_T33 l0 x17_1).f5)) := (blk_cell BK304.out 7).trans rfl
                                have hfz18_0 := blk_frozen BK304.out 0
                                have hfz18_1 := blk_frozen BK304.out 1
                                have hfz18_2 := blk_frozen BK304.out 2
                                have hfz18_3 := blk_frozen BK304.out 3
                                have hfz18_4 := blk_frozen BK304.out 4
                                have hfz18_5 := blk_frozen BK304.out 5
                                have hfz18_6 := blk_frozen BK304.out 6
                                have hfz18_7 := blk_frozen BK304.out 7
                                go_wp2_with (first | ((with_reducible refine gate_builtin (b := .append) (xs := #[.tmp 35, .tmp 38]) rfl ?_); at_builtin; refine Kd.R_append Kd.string (w0 := w) w.heap.size rfl (.tmp 35) (.tmp 38) 64 9 (.string ⟨#[]⟩) 16 rfl Try.underlying64 info9 rfl (by decide) (by omega) u6 x6_2 ((rd_T33 l0 x17_1).f0) [.string ((rd_T33 l0 x17_1).f0)] (fun k_ => some k_ ≠ (.slice (some ad308) x3_1.length co7 : Value).ownBlock) (fun _ => False) rfl rfl ?aP (fun _ hk => hk.elim) ?aF ?aO ?aB ?aS ?aL ?_; (case aP => exact rfl); (case aB => exact (by repeat (first | (with_reducible first | exact HB.out | apply below_alloc | apply pw_below_drewN | apply below_drew1 | refine below_set ?_ GE304.out) | exact HB.out))); (case aF => exact (fun k_ hk => Kd.fresh' (Kd.R_lt (by (with_reducible repeat (first | apply Kd.R_alloc | apply Kd.R_drewN | apply Kd.R_drew)); exact HO_21.out)) k_ hk)); (case aO => exact (by (with_reducible repeat (first | apply Kd.R_alloc | apply Kd.R_drewN | apply Kd.R_drew)); exact HO_6.out)); (case aS => exact (below_size (by repeat (first | (with_reducible first | exact HB.out | apply below_alloc | apply pw_below_drewN | apply below_drew1 | refine below_set ?_ GE304.out) | exact HB.out)))); (case aL => have := LMc16.out; omega); intro v310 w19 ho hb hg hat; rw [← Ny309.out] at ho; have n0_ := Aside0.mk (Kd.R_after (ok := (fun _ => True)) (by (with_reducible repeat (first | apply Kd.R_alloc | apply Kd.R_drewN | apply Kd.R_drew)); exact Kd.R_mono HO_21.out (fun _ hk => ⟨trivial, hk⟩)) hg hat); have n1_ := Aside0.mk (blk_grown (g := gb304) (o := .cells #[.string ((rd_T33 l0 x17_1).f0), .string ((rd_T33 l0 x17_1).f1), .int .i64 ((rd_T33 l0 x17_1).f2), .bool ((rd_T33 l0 x17_1).f3), .int .i64 ((rd_T33 l0 x17_1).f4.f0), .int .i64 ((rd_T33 l0 x17_1).f4.f1), .int .i64 ((rd_T33 l0 x17_1).f4.f2), .int .i64 ((rd_T33 l0 x17_1).f5)] 33 (0, 0)) (by (with_reducible repeat (first | refine blk_drewN ?_ _ | refine blk_drew ?_ | refine blk_alloc ?_ _)); exact BK304.out) hg (Kd.R_ne HO_6.out BK304.out (by decide))); have n2_ := Aside0.mk (hb); have n3_ := Aside0.mk (ho); clear HO_21; clear BK304; clear HB; clear HO_6; have HO_21 := n0_; have BK304 := n1_; have HB := n2_; have HO311 := n3_; clear n0_ n1_ n2_ n3_; clear ho hb hg hat; have hcz20_0 : w19.cell? ⟨gb304, 0, none⟩ = some (.string ((rd_T33 l0 x17_1).f0)) := (blk_cell BK304.out 0).trans rfl; have hcz20_1 : w19.cell? ⟨gb304, 1, none⟩ = some (.string ((rd_T33 l0 x17_1).f1)) := (blk_cell BK304.out 1).trans rfl; have hcz20_2 : w19.cell? ⟨gb304, 2, none⟩ = some (.int .i64 ((rd_T33 l0 x17_1).f2)) := (blk_cell BK304.out 2).trans rfl; have hcz20_3 : w19.cell? ⟨gb304, 3, none⟩ = some (.bool ((rd_T33 l0 x17_1).f3)) := (blk_cell BK304.out 3).trans rfl; have hcz20_4 : w19.cell? ⟨gb304, 4, none⟩ = some (.int .i64 ((rd_T33 l0 x17_1).f4.f0)) := (blk_cell BK304.out 4).trans rfl; have hcz20_5 : w19.cell? ⟨gb304, 5, none⟩ = some (.int .i64 ((rd_T33 l0 x17_1).f4.f1)) := (blk_cell BK304.out 5).trans rfl; have hcz20_6 : w19.cell? ⟨gb304, 6, none⟩ = some (.int .i64 ((rd_T33 l0 x17_1).f4.f2)) := (blk_cell BK304.out 6).trans rfl; have hcz20_7 : w19.cell? ⟨gb304, 7, none⟩ = some (.int .i64 ((rd_T33 l0 x17_1).f5)) := (blk_cell BK304.out 7).trans rfl; have hfz20_0 := blk_frozen BK304.out 0; have hfz20_1 := blk_frozen BK304.out 1; have hfz20_2 := blk_frozen BK304.out 2; have hfz20_3 := blk_frozen BK304.out 3; have hfz20_4 := blk_frozen BK304.out 4; have hfz20_5 := blk_frozen BK304.out 5; have hfz20_6 := blk_frozen BK304.out 6; have hfz20_7 := blk_frozen BK304.out 7))
                                go_roundg kj10
                                case measure => have := HK1.out; have := HK2.out; have := HJ10.out; omega
                                case rel => exact ⟨(y309), (true), (wrap64 (x23_2 + 1)), (by first | rfl | (simp; done) | (simp [*]; done)), (by first | rfl | (simp; done) | (simp [*]; done)), H', ⟨by have := HK1.out; have := HK2.out; have := HJ10.out; omega⟩, ⟨by (with_reducible repeat (first | apply Kd.R_alloc | apply Kd.R_drewN | apply Kd.R_drew)); exact HO311.out⟩, ⟨by (with_reducible repeat (first | apply Kd.R_alloc | apply Kd.R_drewN | apply Kd.R_drew)); exact Kd.R_mono HO_21.out (fun _ hk => hk.2)⟩, ⟨by (with_reducible repeat (first | refine blk_drewN ?_ _ | refine blk_drew ?_ | refine blk_alloc ?_ _)); exact BK304.out⟩, ⟨by repeat (first | (with_reducible first | exact HB.out | apply below_alloc | apply pw_below_drewN | apply below_drew1 | refine below_set ?_ GE304.out) | exact HB.out)⟩⟩
                              · rw [if_neg c17] at H
                                have c17b0 : ((rdOf ByteArray.empty x3_1 x23_2).toList == ((rd_T33 l0 x17_1).f0).toList) = false := beq_eq_false_iff_ne.mpr c17
                                have c17b1 : ((rdOf ByteArray.empty x3_1 x23_2).toList != ((rd_T33 l0 x17_1).f0).toList) = true := bne_iff_ne.mpr c17
                                by_cases c21 : y309.length < 8796093022208
                                · rw [if_pos c21] at H
                                  have LMc21 := Aside0.mk c21
                                  clear c21
                                  obtain ⟨y312, hy312⟩ : ∃ y_ : List ByteArray, y_ = (y309 ++ [(rdOf ByteArray.empty x3_1 x23_2)]) := ⟨_, rfl⟩
                                  replace H : (gouacheref17_Winners.l1 kj10 l0 y312 true l0 (l0.length : Int) x17_1 x3_1 (x3_1.length : Int) (wrap64 (x23_2 + 1)) ((rd_T33 l0 x17_1).f0) ((rd_T33 l0 x17_1).f1) ((rd_T33 l0 x17_1).f2) ((rd_T33 l0 x17_1).f3) ((rd_T33 l0 x17_1).f4.f0) ((rd_T33 l0 x17_1).f4.f1) ((rd_T33 l0 x17_1).f4.f2) ((rd_T33 l0 x17_1).f5)) = some r := by first | (rw [hy312]; with_reducible exact H) | (have H2_ := (Option.bind_some _ _).symm.trans H; rw [hy312]; with_reducible exact H2_) | (have H2_ := (Option.bind_some _ _).symm.trans H; with_reducible exact H2_) | with_reducible exact H | (rw [hy312]; exact H) | exact H
                                  have Ny312 := Aside0.mk hy312
                                  clear hy312
                                  have H' := Aside0.mk H
                                  clear H
                                  have hcz22_0 : wc.cell? ⟨gb304, 0, none⟩ = some (.string ((rd_T33 l0 x17_1).f0)) := (blk_cell BK304.out 0).trans rfl
                                  have hcz22_1 : wc.cell? ⟨gb304, 1, none⟩ = some (.string ((rd_T33 l0 x17_1).f1)) := (blk_cell BK304.out 1).trans rfl
                                  have hcz22_2 : wc.cell? ⟨gb304, 2, none⟩ = some (.int .i64 ((rd_T33 l0 x17_1).f2)) := (blk_cell BK304.out 2).trans rfl
                                  have hcz22_3 : wc.cell? ⟨gb304, 3, none⟩ = some (.bool ((rd_T33 l0 x17_1).f3)) := (blk_cell BK304.out 3).trans rfl
                                  have hcz22_4 : wc.cell? ⟨gb304, 4, none⟩ = some (.int .i64 ((rd_T33 l0 x17_1).f4.f0)) := (blk_cell BK304.out 4).trans rfl
                                  have hcz22_5 : wc.cell? ⟨gb304, 5, none⟩ = some (.int .i64 ((rd_T33 l0 x17_1).f4.f1)) := (blk_cell BK304.out 5).trans rfl
                                  have hcz22_6 : wc.cell? ⟨gb304, 6, none⟩ = some (.int .i64 ((rd_T33 l0 x17_1).f4.f2)) := (blk_cell BK304.out 6).trans rfl
                                  have hcz22_7 : wc.cell? ⟨gb304, 7, none⟩ = some (.int .i64 ((rd_T33 l0 x17_1).f5)) := (blk_cell BK304.out 7).trans rfl
                                  have hfz22_0 := blk_frozen BK304.out 0
                                  have hfz22_1 := blk_frozen BK304.out 1
                                  have hfz22_2 := blk_frozen BK304.out 2
                                  have hfz22_3 := blk_frozen BK304.out 3
                                  have hfz22_4 := blk_frozen BK304.out 4
                                  have hfz22_5 := blk_frozen BK304.out 5
                                  have hfz22_6 := blk_frozen BK304.out 6
                                  have hfz22_7 := blk_frozen BK304.out 7
                                  go_wp2_with (first | ((with_reducible refine gate_builtin (b := .append) (xs := #[.tmp 35, .tmp 38]) rfl ?_); at_builtin; refine Kd.R_append Kd.string (w0 := w) w.heap.size rfl (.tmp 35) (.tmp 38) 64 9 (.string ⟨#[]⟩) 16 rfl Try.underlying64 info9 rfl (by decide) (by omega) u6 x6_2 ((rd_T33 l0 x17_1).f0) [.string ((rd_T33 l0 x17_1).f0)] (fun k_ => some k_ ≠ (.slice (some ad308) x3_1.length co7 : Value).ownBlock) (fun _ => False) rfl rfl ?aP (fun _ hk => hk.elim) ?aF ?aO ?aB ?aS ?aL ?_; (case aP => exact rfl); (case aB => exact (by repeat (first | (with_reducible first | exact HB.out | apply below_alloc | apply pw_below_drewN | apply below_drew1 | refine below_set ?_ GE304.out) | exact HB.out))); (case aF => exact (fun k_ hk => Kd.fresh' (Kd.R_lt (by (with_reducible repeat (first | apply Kd.R_alloc | apply Kd.R_drewN | apply Kd.R_drew)); exact HO_21.out)) k_ hk)); (case aO => exact (by (with_reducible repeat (first | apply Kd.R_alloc | apply Kd.R_drewN | apply Kd.R_drew)); exact HO_6.out)); (case aS => exact (below_size (by repeat (first | (with_reducible first | exact HB.out | apply below_alloc | apply pw_below_drewN | apply below_drew1 | refine below_set ?_ GE304.out) | exact HB.out)))); (case aL => have := LMc16.out; omega); intro v310 w23 ho hb hg hat; rw [← Ny309.out] at ho; have n0_ := Aside0.mk (Kd.R_after (ok := (fun _ => True)) (by (with_reducible repeat (first | apply Kd.R_alloc | apply Kd.R_drewN | apply Kd.R_drew)); exact Kd.R_mono HO_21.out (fun _ hk => ⟨trivial, hk⟩)) hg hat); have n1_ := Aside0.mk (blk_grown (g := gb304) (o := .cells #[.string ((rd_T33 l0 x17_1).f0), .string ((rd_T33 l0 x17_1).f1), .int .i64 ((rd_T33 l0 x17_1).f2), .bool ((rd_T33 l0 x17_1).f3), .int .i64 ((rd_T33 l0 x17_1).f4.f0), .int .i64 ((rd_T33 l0 x17_1).f4.f1), .int .i64 ((rd_T33 l0 x17_1).f4.f2), .int .i64 ((rd_T33 l0 x17_1).f5)] 33 (0, 0)) (by (with_reducible repeat (first | refine blk_drewN ?_ _ | refine blk_drew ?_ | refine blk_alloc ?_ _)); exact BK304.out) hg (Kd.R_ne HO_6.out BK304.out (by decide))); have n2_ := Aside0.mk (hb); have n3_ := Aside0.mk (ho); clear HO_21; clear BK304; clear HB; clear HO_6; have HO_21 := n0_; have BK304 := n1_; have HB := n2_; have HO311 := n3_; clear n0_ n1_ n2_ n3_; clear ho hb hg hat; have hcz24_0 : w23.cell? ⟨gb304, 0, none⟩ = some (.string ((rd_T33 l0 x17_1).f0)) := (blk_cell BK304.out 0).trans rfl; have hcz24_1 : w23.cell? ⟨gb304, 1, none⟩ = some (.string ((rd_T33 l0 x17_1).f1)) := (blk_cell BK304.out 1).trans rfl; have hcz24_2 : w23.cell? ⟨gb304, 2, none⟩ = some (.int .i64 ((rd_T33 l0 x17_1).f2)) := (blk_cell BK304.out 2).trans rfl; have hcz24_3 : w23.cell? ⟨gb304, 3, none⟩ = some (.bool ((rd_T33 l0 x17_1).f3)) := (blk_cell BK304.out 3).trans rfl; have hcz24_4 : w23.cell? ⟨gb304, 4, none⟩ = some (.int .i64 ((rd_T33 l0 x17_1).f4.f0)) := (blk_cell BK304.out 4).trans rfl; have hcz24_5 : w23.cell? ⟨gb304, 5, none⟩ = some (.int .i64 ((rd_T33 l0 x17_1).f4.f1)) := (blk_cell BK304.out 5).trans rfl; have hcz24_6 : w23.cell? ⟨gb304, 6, none⟩ = some (.int .i64 ((rd_T33 l0 x17_1).f4.f2)) := (blk_cell BK304.out 6).trans rfl; have hcz24_7 : w23.cell? ⟨gb304, 7, none⟩ = some (.int .i64 ((rd_T33 l0 x17_1).f5)) := (blk_cell BK304.out 7).trans rfl; have hfz24_0 := blk_frozen BK304.out 0; have hfz24_1 := blk_frozen BK304.out 1; have hfz24_2 := blk_frozen BK304.out 2; have hfz24_3 := blk_frozen BK304.out 3; have hfz24_4 := blk_frozen BK304.out 4; have hfz24_5 := blk_frozen BK304.out 5; have hfz24_6 := blk_frozen BK304.out 6; have hfz24_7 := blk_frozen BK304.out 7) | ((with_reducible refine gate_builtin (b := .append) (xs := #[.tmp 44, .tmp 46]) rfl ?_); at_builtin; refine Kd.R_append Kd.string (w0 := w) w.heap.size rfl (.tmp 44) (.tmp 46) 64 9 (.string ⟨#[]⟩) 16 rfl Try.underlying64 info9 rfl (by decide) (by omega) v310 y309 (rdOf ByteArray.empty x3_1 x23_2) [.string (rdOf ByteArray.empty x3_1 x23_2)] (fun k_ => some k_ ≠ (.slice (some ad308) x3_1.length co7 : Value).ownBlock) (fun _ => False) rfl rfl ?aP (fun _ hk => hk.elim) ?aF ?aO ?aB ?aS ?aL ?_; (case aP => exact rfl); (case aB => exact (by repeat (first | (with_reducible first | exact HB.out | apply below_alloc | apply pw_below_drewN | apply below_drew1 | refine below_set ?_ GE304.out) | exact HB.out))); (case aF => exact (fun k_ hk => Kd.fresh' (Kd.R_lt (by (with_reducible repeat (first | apply Kd.R_alloc | apply Kd.R_drewN | apply Kd.R_drew)); exact HO_21.out)) k_ hk)); (case aO => exact (by (with_reducible repeat (first | apply Kd.R_alloc | apply Kd.R_drewN | apply Kd.R_drew)); exact HO311.out)); (case aS => exact (below_size (by repeat (first | (with_reducible first | exact HB.out | apply below_alloc | apply pw_below_drewN | apply below_drew1 | refine below_set ?_ GE304.out) | exact HB.out)))); (case aL => have := LMc21.out; omega); intro v313 w25 ho hb hg hat; rw [← Ny312.out] at ho; have n0_ := Aside0.mk (Kd.R_after (ok := (fun _ => True)) (by (with_reducible repeat (first | apply Kd.R_alloc | apply Kd.R_drewN | apply Kd.R_drew)); exact HO_21.out) hg hat); have n1_ := Aside0.mk (blk_grown (g := gb304) (o := .cells #[.string ((rd_T33 l0 x17_1).f0), .string ((rd_T33 l0 x17_1).f1), .int .i64 ((rd_T33 l0 x17_1).f2), .bool ((rd_T33 l0 x17_1).f3), .int .i64 ((rd_T33 l0 x17_1).f4.f0), .int .i64 ((rd_T33 l0 x17_1).f4.f1), .int .i64 ((rd_T33 l0 x17_1).f4.f2), .int .i64 ((rd_T33 l0 x17_1).f5)] 33 (0, 0)) (by (with_reducible repeat (first | refine blk_drewN ?_ _ | refine blk_drew ?_ | refine blk_alloc ?_ _)); exact BK304.out) hg (Kd.R_ne HO311.out BK304.out (by decide))); have n2_ := Aside0.mk (hb); have n3_ := Aside0.mk (ho); clear HO_21; clear BK304; clear HB; clear HO311; have HO_21 := n0_; have BK304 := n1_; have HB := n2_; have HO314 := n3_; clear n0_ n1_ n2_ n3_; clear ho hb hg hat))
                                  go_roundg kj10
                                  case measure => have := HK1.out; have := HK2.out; have := HJ10.out; omega
                                  case rel => exact ⟨(y312), (true), (wrap64 (x23_2 + 1)), (by first | rfl | (simp; done) | (simp [*]; done)), (by first | rfl | (simp; done) | (simp [*]; done)), H', ⟨by have := HK1.out; have := HK2.out; have := HJ10.out; omega⟩, ⟨by (with_reducible repeat (first | apply Kd.R_alloc | apply Kd.R_drewN | apply Kd.R_drew)); exact HO314.out⟩, ⟨by (with_reducible repeat (first | apply Kd.R_alloc | apply Kd.R_drewN | apply Kd.R_drew)); exact Kd.R_mono HO_21.out (fun _ hk => hk.2)⟩, ⟨by (with_reducible repeat (first | refine blk_drewN ?_ _ | refine blk_drew ?_ | refine blk_alloc ?_ _)); exact BK304.out⟩, ⟨by repeat (first | (with_reducible first | exact HB.out | apply below_alloc | apply pw_below_drewN | apply below_drew1 | refine below_set ?_ GE304.out) | exact HB.out)⟩⟩
                                · rw [if_neg c21] at H
                                  exact absurd H (by simp)
                            · rw [if_neg c16] at H
                              exact absurd H (by simp)
                          · replace c15 := Bool.eq_false_iff.mpr c15
                            subst c15
                            have H1 : (if (rdOf ByteArray.empty x3_1 x23_2).toList = ((rd_T33 l0 x17_1).f0).toList then (gouacheref17_Winners.l1 kj10 l0 x6_2 x7_2 l0 (l0.length : Int) x17_1 x3_1 (x3_1.length : Int) (wrap64 (x23_2 + 1)) ((rd_T33 l0 x17_1).f0) ((rd_T33 l0 x17_1).f1) ((rd_T33 l0 x17_1).f2) ((rd_T33 l0 x17_1).f3) ((rd_T33 l0 x17_1).f4.f0) ((rd_T33 l0 x17_1).f4.f1) ((rd_T33 l0 x17_1).f4.f2) ((rd_T33 l0 x17_1).f5)) else (if x6_2.length < 8796093022208 then (gouacheref17_Winners.l1 kj10 l0 (x6_2 ++ [(rdOf ByteArray.empty x3_1 x23_2)]) x7_2 l0 (l0.length : Int) x17_1 x3_1 (x3_1.length : Int) (wrap64 (x23_2 + 1)) ((rd_T33 l0 x17_1).f0) ((rd_T33 l0 x17_1).f1) ((rd_T33 l0 x17_1).f2) ((rd_T33 l0 x17_1).f3) ((rd_T33 l0 x17_1).f4.f0) ((rd_T33 l0 x17_1).f4.f1) ((rd_T33 l0 x17_1).f4.f2) ((rd_T33 l0 x17_1).f5)) else (none))) = some r := by rw [if_neg (show ¬ (false = true) by decide)] at H; exact H
                            clear H
                            have H := H1
                            clear H1
                            by_cases c26 : (rdOf ByteArray.empty x3_1 x23_2).toList = ((rd_T33 l0 x17_1).f0).toList
                            · rw [if_pos c26] at H
                              have c26b0 : ((rdOf ByteArray.empty x3_1 x23_2).toList == ((rd_T33 l0 x17_1).f0).toList) = true := beq_iff_eq.mpr c26
                              have c26b1 : ((rdOf ByteArray.empty x3_1 x23_2).toList != ((rd_T33 l0 x17_1).f0).toList) = false := bne_eq_false_iff_eq.mpr c26
                              clear c26
                              have H' := Aside0.mk H
                              clear H
                              have hcz27_0 : wc.cell? ⟨gb304, 0, none⟩ = some (.string ((rd_T33 l0 x17_1).f0)) := (blk_cell BK304.out 0).trans rfl
                              have hcz27_1 : wc.cell? ⟨gb304, 1, none⟩ = some (.string ((rd_T33 l0 x17_1).f1)) := (blk_cell BK304.out 1).trans rfl
                              have hcz27_2 : wc.cell? ⟨gb304, 2, none⟩ = some (.int .i64 ((rd_T33 l0 x17_1).f2)) := (blk_cell BK304.out 2).trans rfl
                              have hcz27_3 : wc.cell? ⟨gb304, 3, none⟩ = some (.bool ((rd_T33 l0 x17_1).f3)) := (blk_cell BK304.out 3).trans rfl
                              have hcz27_4 : wc.cell? ⟨gb304, 4, none⟩ = some (.int .i64 ((rd_T33 l0 x17_1).f4.f0)) := (blk_cell BK304.out 4).trans rfl
                              have hcz27_5 : wc.cell? ⟨gb304, 5, none⟩ = some (.int .i64 ((rd_T33 l0 x17_1).f4.f1)) := (blk_cell BK304.out 5).trans rfl
                              have hcz27_6 : wc.cell? ⟨gb304, 6, none⟩ = some (.int .i64 ((rd_T33 l0 x17_1).f4.f2)) := (blk_cell BK304.out 6).trans rfl
                              have hcz27_7 : wc.cell? ⟨gb304, 7, none⟩ = some (.int .i64 ((rd_T33 l0 x17_1).f5)) := (blk_cell BK304.out 7).trans rfl
                              have hfz27_0 := blk_frozen BK304.out 0
                              have hfz27_1 := blk_frozen BK304.out 1
                              have hfz27_2 := blk_frozen BK304.out 2
                              have hfz27_3 := blk_frozen BK304.out 3
                              have hfz27_4 := blk_frozen BK304.out 4
                              have hfz27_5 := blk_frozen BK304.out 5
                              have hfz27_6 := blk_frozen BK304.out 6
                              have hfz27_7 := blk_frozen BK304.out 7
                              go_wp2
                              go_roundg kj10
                              case measure => have := HK1.out; have := HK2.out; have := HJ10.out; omega
                              case rel => exact ⟨(x6_2), (x7_2), (wrap64 (x23_2 + 1)), (by first | rfl | (simp; done) | (simp [*]; done)), (by first | rfl | (simp; done) | (simp [*]; done)), H', ⟨by have := HK1.out; have := HK2.out; have := HJ10.out; omega⟩, ⟨by (with_reducible repeat (first | apply Kd.R_alloc | apply Kd.R_drewN | apply Kd.R_drew)); exact HO_6.out⟩, ⟨by (with_reducible repeat (first | apply Kd.R_alloc | apply Kd.R_drewN | apply Kd.R_drew)); exact HO_21.out⟩, ⟨by (with_reducible repeat (first | refine blk_drewN ?_ _ | refine blk_drew ?_ | refine blk_alloc ?_ _)); exact BK304.out⟩, ⟨by repeat (first | (with_reducible first | exact HB.out | apply below_alloc | apply pw_below_drewN | apply below_drew1 | refine below_set ?_ GE304.out) | exact HB.out)⟩⟩
                            · rw [if_neg c26] at H
                              have c26b0 : ((rdOf ByteArray.empty x3_1 x23_2).toList == ((rd_T33 l0 x17_1).f0).toList) = false := beq_eq_false_iff_ne.mpr c26
                              have c26b1 : ((rdOf ByteArray.empty x3_1 x23_2).toList != ((rd_T33 l0 x17_1).f0).toList) = true := bne_iff_ne.mpr c26
                              by_cases c28 : x6_2.length < 8796093022208
                              · rw [if_pos c28] at H
                                have LMc28 := Aside0.mk c28
                                clear c28
                                obtain ⟨y315, hy315⟩ : ∃ y_ : List ByteArray, y_ = (x6_2 ++ [(rdOf ByteArray.empty x3_1 x23_2)]) := ⟨_, rfl⟩
                                replace H : (gouacheref17_Winners.l1 kj10 l0 y315 x7_2 l0 (l0.length : Int) x17_1 x3_1 (x3_1.length : Int) (wrap64 (x23_2 + 1)) ((rd_T33 l0 x17_1).f0) ((rd_T33 l0 x17_1).f1) ((rd_T33 l0 x17_1).f2) ((rd_T33 l0 x17_1).f3) ((rd_T33 l0 x17_1).f4.f0) ((rd_T33 l0 x17_1).f4.f1) ((rd_T33 l0 x17_1).f4.f2) ((rd_T33 l0 x17_1).f5)) = some r := by first | (rw [hy315]; with_reducible exact H) | (have H2_ := (Option.bind_some _ _).symm.trans H; rw [hy315]; with_reducible exact H2_) | (have H2_ := (Option.bind_some _ _).symm.trans H; with_reducible exact H2_) | with_reducible exact H | (rw [hy315]; exact H) | exact H
                                have Ny315 := Aside0.mk hy315
                                clear hy315
                                have H' := Aside0.mk H
                                clear H
                                have hcz29_0 : wc.cell? ⟨gb304, 0, none⟩ = some (.string ((rd_T33 l0 x17_1).f0)) := (blk_cell BK304.out 0).trans rfl
                                have hcz29_1 : wc.cell? ⟨gb304, 1, none⟩ = some (.string ((rd_T33 l0 x17_1).f1)) := (blk_cell BK304.out 1).trans rfl
                                have hcz29_2 : wc.cell? ⟨gb304, 2, none⟩ = some (.int .i64 ((rd_T33 l0 x17_1).f2)) := (blk_cell BK304.out 2).trans rfl
                                have hcz29_3 : wc.cell? ⟨gb304, 3, none⟩ = some (.bool ((rd_T33 l0 x17_1).f3)) := (blk_cell BK304.out 3).trans rfl
                                have hcz29_4 : wc.cell? ⟨gb304, 4, none⟩ = some (.int .i64 ((rd_T33 l0 x17_1).f4.f0)) := (blk_cell BK304.out 4).trans rfl
                                have hcz29_5 : wc.cell? ⟨gb304, 5, none⟩ = some (.int .i64 ((rd_T33 l0 x17_1).f4.f1)) := (blk_cell BK304.out 5).trans rfl
                                have hcz29_6 : wc.cell? ⟨gb304, 6, none⟩ = some (.int .i64 ((rd_T33 l0 x17_1).f4.f2)) := (blk_cell BK304.out 6).trans rfl
                                have hcz29_7 : wc.cell? ⟨gb304, 7, none⟩ = some (.int .i64 ((rd_T33 l0 x17_1).f5)) := (blk_cell BK304.out 7).trans rfl
                                have hfz29_0 := blk_frozen BK304.out 0
                                have hfz29_1 := blk_frozen BK304.out 1
                                have hfz29_2 := blk_frozen BK304.out 2
                                have hfz29_3 := blk_frozen BK304.out 3
                                have hfz29_4 := blk_frozen BK304.out 4
                                have hfz29_5 := blk_frozen BK304.out 5
                                have hfz29_6 := blk_frozen BK304.out 6
                                have hfz29_7 := blk_frozen BK304.out 7
                                go_wp2_with (first | ((with_reducible refine gate_builtin (b := .append) (xs := #[.tmp 44, .tmp 46]) rfl ?_); at_builtin; refine Kd.R_append Kd.string (w0 := w) w.heap.size rfl (.tmp 44) (.tmp 46) 64 9 (.string ⟨#[]⟩) 16 rfl Try.underlying64 info9 rfl (by decide) (by omega) u6 x6_2 (rdOf ByteArray.empty x3_1 x23_2) [.string (rdOf ByteArray.empty x3_1 x23_2)] (fun k_ => some k_ ≠ (.slice (some ad308) x3_1.length co7 : Value).ownBlock) (fun _ => False) rfl rfl ?aP (fun _ hk => hk.elim) ?aF ?aO ?aB ?aS ?aL ?_; (case aP => exact rfl); (case aB => exact (by repeat (first | (with_reducible first | exact HB.out | apply below_alloc | apply pw_below_drewN | apply below_drew1 | refine below_set ?_ GE304.out) | exact HB.out))); (case aF => exact (fun k_ hk => Kd.fresh' (Kd.R_lt (by (with_reducible repeat (first | apply Kd.R_alloc | apply Kd.R_drewN | apply Kd.R_drew)); exact HO_21.out)) k_ hk)); (case aO => exact (by (with_reducible repeat (first | apply Kd.R_alloc | apply Kd.R_drewN | apply Kd.R_drew)); exact HO_6.out)); (case aS => exact (below_size (by repeat (first | (with_reducible first | exact HB.out | apply below_alloc | apply pw_below_drewN | apply below_drew1 | refine below_set ?_ GE304.out) | exact HB.out)))); (case aL => have := LMc28.out; omega); intro v316 w30 ho hb hg hat; rw [← Ny315.out] at ho; have n0_ := Aside0.mk (Kd.R_after (ok := (fun _ => True)) (by (with_reducible repeat (first | apply Kd.R_alloc | apply Kd.R_drewN | apply Kd.R_drew)); exact Kd.R_mono HO_21.out (fun _ hk => ⟨trivial, hk⟩)) hg hat); have n1_ := Aside0.mk (blk_grown (g := gb304) (o := .cells #[.string ((rd_T33 l0 x17_1).f0), .string ((rd_T33 l0 x17_1).f1), .int .i64 ((rd_T33 l0 x17_1).f2), .bool ((rd_T33 l0 x17_1).f3), .int .i64 ((rd_T33 l0 x17_1).f4.f0), .int .i64 ((rd_T33 l0 x17_1).f4.f1), .int .i64 ((rd_T33 l0 x17_1).f4.f2), .int .i64 ((rd_T33 l0 x17_1).f5)] 33 (0, 0)) (by (with_reducible repeat (first | refine blk_drewN ?_ _ | refine blk_drew ?_ | refine blk_alloc ?_ _)); exact BK304.out) hg (Kd.R_ne HO_6.out BK304.out (by decide))); have n2_ := Aside0.mk (hb); have n3_ := Aside0.mk (ho); clear HO_21; clear BK304; clear HB; clear HO_6; have HO_21 := n0_; have BK304 := n1_; have HB := n2_; have HO317 := n3_; clear n0_ n1_ n2_ n3_; clear ho hb hg hat))
                                go_roundg kj10
                                case measure => have := HK1.out; have := HK2.out; have := HJ10.out; omega
                                case rel => exact ⟨(y315), (x7_2), (wrap64 (x23_2 + 1)), (by first | rfl | (simp; done) | (simp [*]; done)), (by first | rfl | (simp; done) | (simp [*]; done)), H', ⟨by have := HK1.out; have := HK2.out; have := HJ10.out; omega⟩, ⟨by (with_reducible repeat (first | apply Kd.R_alloc | apply Kd.R_drewN | apply Kd.R_drew)); exact HO317.out⟩, ⟨by (with_reducible repeat (first | apply Kd.R_alloc | apply Kd.R_drewN | apply Kd.R_drew)); exact Kd.R_mono HO_21.out (fun _ hk => hk.2)⟩, ⟨by (with_reducible repeat (first | refine blk_drewN ?_ _ | refine blk_drew ?_ | refine blk_alloc ?_ _)); exact BK304.out⟩, ⟨by repeat (first | (with_reducible first | exact HB.out | apply below_alloc | apply pw_below_drewN | apply below_drew1 | refine below_set ?_ GE304.out) | exact HB.out)⟩⟩
                              · rw [if_neg c28] at H
                                exact absurd H (by simp)
                    · rw [if_neg c10] at H
                      exact absurd H (by simp)
                  · rw [if_neg c9] at H
                    exact absurd H (by simp)
                · rw [if_neg c8] at H
                  have c8b0 : decide (x23_2 < (x3_1.length : Int)) = false := decide_eq_false c8
                  clear c8
                  by_cases c31 : x7_2 = true
                  · subst c31
                    have H1 : (gouacheref17_Winners.l0 k2 l0 x6_2 l0 (l0.length : Int) (wrap64 (x17_1 + 1))) = some r := by rw [if_pos rfl] at H; exact H
                    clear H
                    have H := H1
                    clear H1
                    have H' := Aside0.mk H
                    clear H
                    go_wp2
                    go_roundg k2
                    case measure => have := HK1.out; have := HK2.out; omega
                    case rel => exact ⟨(x6_2), (wrap64 (x17_1 + 1)), (by first | rfl | (simp; done) | (simp [*]; done)), H', ⟨by have := HK1.out; have := HK2.out; omega⟩, ⟨by (with_reducible repeat (first | apply Kd.R_alloc | apply Kd.R_drewN | apply Kd.R_drew)); exact Kd.R_mono HO_6.out (fun _ hk => trivial)⟩, ⟨by repeat (first | (with_reducible first | exact HB.out | apply below_alloc | apply pw_below_drewN | apply below_drew1 | refine below_set ?_ GE304.out) | exact HB.out)⟩⟩
                  · replace c31 := Bool.eq_false_iff.mpr c31
                    subst c31
                    have H1 : (if x6_2.length < 8796093022208 then (gouacheref17_Winners.l0 k2 l0 (x6_2 ++ [((rd_T33 l0 x17_1).f0)]) l0 (l0.length : Int) (wrap64 (x17_1 + 1))) else (none)) = some r := by rw [if_neg (show ¬ (false = true) by decide)] at H; exact H
                    clear H
                    have H := H1
                    clear H1
                    by_cases c32 : x6_2.length < 8796093022208
                    · rw [if_pos c32] at H
                      have LMc32 := Aside0.mk c32
                      clear c32
                      obtain ⟨y305, hy305⟩ : ∃ y_ : List ByteArray, y_ = (x6_2 ++ [((rd_T33 l0 x17_1).f0)]) := ⟨_, rfl⟩
                      replace H : (gouacheref17_Winners.l0 k2 l0 y305 l0 (l0.length : Int) (wrap64 (x17_1 + 1))) = some r := by first | (rw [hy305]; with_reducible exact H) | (have H2_ := (Option.bind_some _ _).symm.trans H; rw [hy305]; with_reducible exact H2_) | (have H2_ := (Option.bind_some _ _).symm.trans H; with_reducible exact H2_) | with_reducible exact H | (rw [hy305]; exact H) | exact H
                      have Ny305 := Aside0.mk hy305
                      clear hy305
                      have H' := Aside0.mk H
                      clear H
                      have hcz33_0 : wr.cell? ⟨gb304, 0, none⟩ = some (.string ((rd_T33 l0 x17_1).f0)) := (blk_cell BK304.out 0).trans rfl
                      have hcz33_1 : wr.cell? ⟨gb304, 1, none⟩ = some (.string ((rd_T33 l0 x17_1).f1)) := (blk_cell BK304.out 1).trans rfl
                      have hcz33_2 : wr.cell? ⟨gb304, 2, none⟩ = some (.int .i64 ((rd_T33 l0 x17_1).f2)) := (blk_cell BK304.out 2).trans rfl
                      have hcz33_3 : wr.cell? ⟨gb304, 3, none⟩ = some (.bool ((rd_T33 l0 x17_1).f3)) := (blk_cell BK304.out 3).trans rfl
                      have hcz33_4 : wr.cell? ⟨gb304, 4, none⟩ = some (.int .i64 ((rd_T33 l0 x17_1).f4.f0)) := (blk_cell BK304.out 4).trans rfl
                      have hcz33_5 : wr.cell? ⟨gb304, 5, none⟩ = some (.int .i64 ((rd_T33 l0 x17_1).f4.f1)) := (blk_cell BK304.out 5).trans rfl
                      have hcz33_6 : wr.cell? ⟨gb304, 6, none⟩ = some (.int .i64 ((rd_T33 l0 x17_1).f4.f2)) := (blk_cell BK304.out 6).trans rfl
                      have hcz33_7 : wr.cell? ⟨gb304, 7, none⟩ = some (.int .i64 ((rd_T33 l0 x17_1).f5)) := (blk_cell BK304.out 7).trans rfl
                      have hfz33_0 := blk_frozen BK304.out 0
                      have hfz33_1 := blk_frozen BK304.out 1
                      have hfz33_2 := blk_frozen BK304.out 2
                      have hfz33_3 := blk_frozen BK304.out 3
                      have hfz33_4 := blk_frozen BK304.out 4
                      have hfz33_5 := blk_frozen BK304.out 5
                      have hfz33_6 := blk_frozen BK304.out 6
                      have hfz33_7 := blk_frozen BK304.out 7
                      go_wp2_with (first | ((with_reducible refine gate_builtin (b := .append) (xs := #[.tmp 51, .tmp 54]) rfl ?_); at_builtin; refine Kd.R_append Kd.string (w0 := w) w.heap.size rfl (.tmp 51) (.tmp 54) 64 9 (.string ⟨#[]⟩) 16 rfl Try.underlying64 info9 rfl (by decide) (by omega) u6 x6_2 ((rd_T33 l0 x17_1).f0) [.string ((rd_T33 l0 x17_1).f0)] (fun k_ => some k_ ≠ (.slice Ao7 x3_1.length co7 : Value).ownBlock) (fun _ => False) rfl rfl ?aP (fun _ hk => hk.elim) ?aF ?aO ?aB ?aS ?aL ?_; (case aP => exact rfl); (case aB => exact (by repeat (first | (with_reducible first | exact HB.out | apply below_alloc | apply pw_below_drewN | apply below_drew1 | refine below_set ?_ GE304.out) | exact HB.out))); (case aF => exact (fun k_ hk => Kd.fresh' (Kd.R_lt (by (with_reducible repeat (first | apply Kd.R_alloc | apply Kd.R_drewN | apply Kd.R_drew)); exact HO_21.out)) k_ hk)); (case aO => exact (by (with_reducible repeat (first | apply Kd.R_alloc | apply Kd.R_drewN | apply Kd.R_drew)); exact HO_6.out)); (case aS => exact (below_size (by repeat (first | (with_reducible first | exact HB.out | apply below_alloc | apply pw_below_drewN | apply below_drew1 | refine below_set ?_ GE304.out) | exact HB.out)))); (case aL => have := LMc32.out; omega); intro v306 w34 ho hb hg hat; rw [← Ny305.out] at ho; have n0_ := Aside0.mk (Kd.R_after (ok := (fun _ => True)) (by (with_reducible repeat (first | apply Kd.R_alloc | apply Kd.R_drewN | apply Kd.R_drew)); exact Kd.R_mono HO_21.out (fun _ hk => ⟨trivial, hk⟩)) hg hat); have n1_ := Aside0.mk (blk_grown (g := gb304) (o := .cells #[.string ((rd_T33 l0 x17_1).f0), .string ((rd_T33 l0 x17_1).f1), .int .i64 ((rd_T33 l0 x17_1).f2), .bool ((rd_T33 l0 x17_1).f3), .int .i64 ((rd_T33 l0 x17_1).f4.f0), .int .i64 ((rd_T33 l0 x17_1).f4.f1), .int .i64 ((rd_T33 l0 x17_1).f4.f2), .int .i64 ((rd_T33 l0 x17_1).f5)] 33 (0, 0)) (by (with_reducible repeat (first | refine blk_drewN ?_ _ | refine blk_drew ?_ | refine blk_alloc ?_ _)); exact BK304.out) hg (Kd.R_ne HO_6.out BK304.out (by decide))); have n2_ := Aside0.mk (hb); have n3_ := Aside0.mk (ho); clear HO_21; clear BK304; clear HB; clear HO_6; have HO_21 := n0_; have BK304 := n1_; have HB := n2_; have HO307 := n3_; clear n0_ n1_ n2_ n3_; clear ho hb hg hat))
                      go_roundg k2
                      case measure => have := HK1.out; have := HK2.out; omega
                      case rel => exact ⟨(y305), (wrap64 (x17_1 + 1)), (by first | rfl | (simp; done) | (simp [*]; done)), H', ⟨by have := HK1.out; have := HK2.out; omega⟩, ⟨by (with_reducible repeat (first | apply Kd.R_alloc | apply Kd.R_drewN | apply Kd.R_drew)); exact Kd.R_mono HO307.out (fun _ hk => trivial)⟩, ⟨by repeat (first | (with_reducible first | exact HB.out | apply below_alloc | apply pw_below_drewN | apply below_drew1 | refine below_set ?_ GE304.out) | exact HB.out)⟩⟩
                    · rw [if_neg c32] at H
                      exact absurd H (by simp)
          · rw [if_neg c4] at H
            exact absurd H (by simp)
        · rw [if_neg c3] at H
          exact absurd H (by simp)
      · rw [if_neg c2] at H
        have c2b0 : decide (x17_1 < (l0.length : Int)) = false := decide_eq_false c2
        clear c2
        have H' := Aside0.mk H
        clear H
        obtain ⟨Ao35, co35, eo35⟩ := Kd.R_slice HO_3.out
        subst eo35
        go_wp2
        go_loopg [10, 60] k1 (fun kq v10 v60 w' => ∃ (x10_2 : List (S33)) (x60_2 : Int), v60 = .int .i64 x60_2 ∧ Aside0 (gouacheref17_Winners.l2 kq l0 x10_2 x3_1 (x3_1.length : Int) x60_2 = some r) ∧ Aside0 (kq ≤ k1) ∧ Aside0 (Kd.R k33 33 w' w.heap.size (fun _ => True) v10 x10_2) ∧ Aside0 (Kd.R Kd.string 9 w' w.heap.size (fun _ => True) (.slice Ao35 x3_1.length co35) x3_1) ∧ Aside0 (Below w.heap.size w w'))
        case atStart => exact ⟨(([] : List (S33))), (0), (by first | rfl | (simp; done) | (simp [*]; done)), H', ⟨Nat.le_refl _⟩, ⟨by first | exact Kd.R_nil _ _ _ _ _ | exact Kd.N_nil _ _ _ _ _ | exact Kd.V_nil _ _ _ _ _ | exact Kd.Q_nil _ _ _ _ _ | exact Kd.S_nil _ _ _ _ _⟩, ⟨by (with_reducible repeat (first | apply Kd.R_alloc | apply Kd.R_drewN | apply Kd.R_drew)); exact HO_3.out⟩, ⟨by repeat (first | (with_reducible first | exact HB.out | apply below_alloc | apply pw_below_drewN | apply below_drew1) | exact HB.out)⟩⟩
        case round =>
          clear H'
          try clear c1
          try clear c2
          try clear c2b0
          try clear p2
          try clear c3
          try clear c3b0
          try clear p3
          try clear q3
          try clear hx3
          try clear c4
          try clear c4b0
          try clear p6
          try clear c8
          try clear c8b0
          try clear c9
          try clear c9b0
          try clear c10
          try clear c10b0
          try clear c12
          try clear c12b0
          try clear c15
          try clear c16
          try clear c17
          try clear c17b0
          try clear c17b1
          try clear c21
          try clear c22
          try clear c26
          try clear c26b0
          try clear c26b1
          try clear c28
          try clear p30
          try clear q30
          try clear hx30
          try clear c31
          try clear c32
          try clear hcz13_0
          try clear hcz13_1
          try clear hcz13_2
          try clear hcz13_3
          try clear hcz13_4
          try clear hcz13_5
          try clear hcz13_6
          try clear hcz13_7
          try clear hcz14_0
          try clear hcz14_1
          try clear hcz14_2
          try clear hcz14_3
          try clear hcz14_4
          try clear hcz14_5
          try clear hcz14_6
          try clear hcz14_7
          try clear hcz18_0
          try clear hcz18_1
          try clear hcz18_2
          try clear hcz18_3
          try clear hcz18_4
          try clear hcz18_5
          try clear hcz18_6
          try clear hcz18_7
          try clear hcz20_0
          try clear hcz20_1
          try clear hcz20_2
          try clear hcz20_3
          try clear hcz20_4
          try clear hcz20_5
          try clear hcz20_6
          try clear hcz20_7
          try clear hcz22_0
          try clear hcz22_1
          try clear hcz22_2
          try clear hcz22_3
          try clear hcz22_4
          try clear hcz22_5
          try clear hcz22_6
          try clear hcz22_7
          try clear hcz24_0
          try clear hcz24_1
          try clear hcz24_2
          try clear hcz24_3
          try clear hcz24_4
          try clear hcz24_5
          try clear hcz24_6
          try clear hcz24_7
          try clear hcz27_0
          try clear hcz27_1
          try clear hcz27_2
          try clear hcz27_3
          try clear hcz27_4
          try clear hcz27_5
          try clear hcz27_6
          try clear hcz27_7
          try clear hcz29_0
          try clear hcz29_1
          try clear hcz29_2
          try clear hcz29_3
          try clear hcz29_4
          try clear hcz29_5
          try clear hcz29_6
          try clear hcz29_7
          try clear hcz33_0
          try clear hcz33_1
          try clear hcz33_2
          try clear hcz33_3
          try clear hcz33_4
          try clear hcz33_5
          try clear hcz33_6
          try clear hcz33_7
          try clear hcz6_0
          try clear hcz6_1
          try clear hcz6_2
          try clear hcz6_3
          try clear hcz6_4
          try clear hcz6_5
          try clear hcz6_6
          try clear hcz6_7
          try clear hfz13_0
          try clear hfz13_1
          try clear hfz13_2
          try clear hfz13_3
          try clear hfz13_4
          try clear hfz13_5
          try clear hfz13_6
          try clear hfz13_7
          try clear hfz14_0
          try clear hfz14_1
          try clear hfz14_2
          try clear hfz14_3
          try clear hfz14_4
          try clear hfz14_5
          try clear hfz14_6
          try clear hfz14_7
          try clear hfz18_0
          try clear hfz18_1
          try clear hfz18_2
          try clear hfz18_3
          try clear hfz18_4
          try clear hfz18_5
          try clear hfz18_6
          try clear hfz18_7
          try clear hfz20_0
          try clear hfz20_1
          try clear hfz20_2
          try clear hfz20_3
          try clear hfz20_4
          try clear hfz20_5
          try clear hfz20_6
          try clear hfz20_7
          try clear hfz22_0
          try clear hfz22_1
          try clear hfz22_2
          try clear hfz22_3
          try clear hfz22_4
          try clear hfz22_5
          try clear hfz22_6
          try clear hfz22_7
          try clear hfz24_0
          try clear hfz24_1
          try clear hfz24_2
          try clear hfz24_3
          try clear hfz24_4
          try clear hfz24_5
          try clear hfz24_6
          try clear hfz24_7
          try clear hfz27_0
          try clear hfz27_1
          try clear hfz27_2
          try clear hfz27_3
          try clear hfz27_4
          try clear hfz27_5
          try clear hfz27_6
          try clear hfz27_7
          try clear hfz29_0
          try clear hfz29_1
          try clear hfz29_2
          try clear hfz29_3
          try clear hfz29_4
          try clear hfz29_5
          try clear hfz29_6
          try clear hfz29_7
          try clear hfz33_0
          try clear hfz33_1
          try clear hfz33_2
          try clear hfz33_3
          try clear hfz33_4
          try clear hfz33_5
          try clear hfz33_6
          try clear hfz33_7
          try clear hfz6_0
          try clear hfz6_1
          try clear hfz6_2
          try clear hfz6_3
          try clear hfz6_4
          try clear hfz6_5
          try clear hfz6_6
          try clear hfz6_7
          try clear hx303_0
          try clear hx303_1
          try clear hx303_2
          try clear hx303_3
          try clear hx303_4
          try clear hx303_5
          try clear hx303_6
          try clear hx303_7
          try clear hx308_0
          try clear p2
          try clear p3
          try clear p303
          try clear p308
          try clear q3
          try clear q303
          try clear q308
          obtain ⟨x10_2, x60_2, rfl, HA, HK2, HO_10, HO_58, HB⟩ := hrel
          cases gk with
          | zero => exact absurd HA.out (by simp [gouacheref17_Winners.l2])
          | succ k2 =>
            have H := HA.out
            clear HA
            simp only [gouacheref17_Winners.l2] at H
            by_cases c36 : x60_2 < (x3_1.length : Int)
            · rw [if_pos c36] at H
              have c36b0 : decide (x60_2 < (x3_1.length : Int)) = true := decide_eq_true c36
              clear c36
              by_cases c37 : 0 ≤ x60_2
              · rw [if_pos c37] at H
                have c37b0 : decide (0 ≤ x60_2) = true := decide_eq_true c37
                clear c37
                by_cases c38 : x60_2 < (x3_1.length : Int)
                · rw [if_pos c38] at H
                  have c38b0 : decide (x60_2 < (x3_1.length : Int)) = true := decide_eq_true c38
                  clear c38
                  replace H := Option.bind_eq_some_iff.mp H
                  obtain ⟨⟨t319, t320, t321, t322, t323, t324, t325, t326, t327⟩, A390, H⟩ := H
                  replace H : (if x10_2.length < 1759218604441 then (gouacheref17_Winners.l2 k2 l0 (x10_2 ++ [(⟨t319, t320, t321, t322, (⟨t323, t324, t325⟩ : S24), t326⟩ : S33)]) x3_1 (x3_1.length : Int) (wrap64 (x60_2 + 1))) else (none)) = some r := H
                  have A39 := Aside0.mk A390
                  clear A390
                  by_cases c40 : x10_2.length < 1759218604441
                  · rw [if_pos c40] at H
                    have LMc40 := Aside0.mk c40
                    clear c40
                    obtain ⟨y329, hy329⟩ : ∃ y_ : List (S33), y_ = (x10_2 ++ [(⟨t319, t320, t321, t322, (⟨t323, t324, t325⟩ : S24), t326⟩ : S33)]) := ⟨_, rfl⟩
                    replace H : (gouacheref17_Winners.l2 k2 l0 y329 x3_1 (x3_1.length : Int) (wrap64 (x60_2 + 1))) = some r := by first | (rw [hy329]; with_reducible exact H) | (have H2_ := (Option.bind_some _ _).symm.trans H; rw [hy329]; with_reducible exact H2_) | (have H2_ := (Option.bind_some _ _).symm.trans H; with_reducible exact H2_) | with_reducible exact H | (rw [hy329]; exact H) | exact H
                    have Ny329 := Aside0.mk hy329
                    clear hy329
                    have H' := Aside0.mk H
                    clear H
                    have p318 : 0 ≤ (x60_2 : Int) := of_decide_eq_true (by first | (with_reducible assumption) | assumption)
                    have q318 : x60_2 < (x3_1.length : Int) := of_decide_eq_true (by first | (with_reducible assumption) | assumption)
                    obtain ⟨ad318, e318, hx318_0⟩ := Kd.at_string (Kd.R_reads' HO_58.out).2.2 x60_2 p318 q318
                    cases e318
                    replace p318 := eq_true p318
                    replace q318 := eq_true q318
                    go_wp2_with (first | ((with_reducible refine gate_callee (f := 20) rfl ?_); refine goesL_ (some 67) rfl rfl Try.func20 (by kernel_rfl) rfl #[.slice A0 l0.length c0, .string (rdOf ByteArray.empty x3_1 x60_2)] rfl (by (try simp only [List.map_toArray, List.map_cons, List.map_nil]); first | done | rfl | (simp only [List.length_drop, List.length_take]; rfl)) ?_; (with_reducible refine (gouacheref17_Winner.calls k2 _ _ l0 (rdOf ByteArray.empty x3_1 x60_2) t319 t320 t321 t322 t323 t324 t325 t326 t327 _ ?side1 ?side2 A39.out).mono ?_); (case side1 => repeat (first | exact (Kd.C_below HR0.out HB.out) | (with_reducible refine Kd.C_alloc ?_ _) | (with_reducible refine Kd.C_drewN ?_ _) | (with_reducible refine Kd.C_drew ?_))); (case side2 => exact HC0.out); rintro e w41 ⟨rfl, hb⟩; refine ⟨_, rfl, ?_⟩; have n0_ := Aside0.mk (Kd.R_below (by (with_reducible repeat (first | apply Kd.R_alloc | apply Kd.R_drewN | apply Kd.R_drew)); exact HO_10.out) hb); have n1_ := Aside0.mk (Kd.R_below (by (with_reducible repeat (first | apply Kd.R_alloc | apply Kd.R_drewN | apply Kd.R_drew)); exact HO_58.out) hb); have n2_ := Aside0.mk (below_step (by repeat (first | (with_reducible first | exact HB.out | apply below_alloc | apply pw_below_drewN | apply below_drew1) | exact HB.out)) hb); clear HO_10; clear HO_58; clear HB; have HO_10 := n0_; have HO_58 := n1_; have HB := n2_; clear n0_ n1_ n2_; (try clear hb); (try clear hb2); (try clear hk); (try clear hi)) | ((with_reducible refine gate_dst (N := 13) rfl ?_); refine box_event ?hg (N := 13) ?hd (cs := #[.string (⟨#[]⟩ : ByteArray), .string (⟨#[]⟩ : ByteArray), .int .i64 0, .bool false, .int .i64 0, .int .i64 0, .int .i64 0, .int .i64 0]) (t := 33) ?hr ?_; (case hd => rfl); (case hg => rfl); (case hr => first | (go_simp; done) | (go_simp; rfl)); intro gb328 hg w42 hbox hb; have n0_ := Aside0.mk (Kd.R_below (Kd.R_elderB (by (with_reducible repeat (first | apply Kd.R_alloc | apply Kd.R_drewN | apply Kd.R_drew)); exact HO_10.out) gb328 (Nat.le_of_eq hg.symm)) hb); have n1_ := Aside0.mk (Kd.R_below (by (with_reducible repeat (first | apply Kd.R_alloc | apply Kd.R_drewN | apply Kd.R_drew)); exact HO_58.out) hb); have n2_ := Aside0.mk (below_step (by repeat (first | (with_reducible first | exact HB.out | apply below_alloc | apply pw_below_drewN | apply below_drew1) | exact HB.out)) hb); have n3_ := Aside0.mk (hbox); have n4_ := Aside0.mk ((by rw [hg]; exact (below_size (by repeat (first | (with_reducible first | exact HB.out | apply below_alloc | apply pw_below_drewN | apply below_drew1) | exact HB.out))) : w.heap.size ≤ gb328)); have n5_ := Aside0.mk ((by rw [hg]; exact (below_size (by repeat (first | (with_reducible first | exact HB.out | apply below_alloc | apply pw_below_drewN | apply below_drew1) | exact HB.out))) : w.heap.size ≤ gb328)); clear HO_10; clear HO_58; clear HB; have HO_10 := n0_; have HO_58 := n1_; have HB := n2_; have BK328 := n3_; have GW328 := n4_; have GE328 := n5_; clear n0_ n1_ n2_ n3_ n4_ n5_; clear hb hbox hg; have hcz43_0 : w42.cell? ⟨gb328, 0, none⟩ = some (.string (⟨#[]⟩ : ByteArray)) := (blk_cell BK328.out 0).trans rfl; have hcz43_1 : w42.cell? ⟨gb328, 1, none⟩ = some (.string (⟨#[]⟩ : ByteArray)) := (blk_cell BK328.out 1).trans rfl; have hcz43_2 : w42.cell? ⟨gb328, 2, none⟩ = some (.int .i64 0) := (blk_cell BK328.out 2).trans rfl; have hcz43_3 : w42.cell? ⟨gb328, 3, none⟩ = some (.bool false) := (blk_cell BK328.out 3).trans rfl; have hcz43_4 : w42.cell? ⟨gb328, 4, none⟩ = some (.int .i64 0) := (blk_cell BK328.out 4).trans rfl; have hcz43_5 : w42.cell? ⟨gb328, 5, none⟩ = some (.int .i64 0) := (blk_cell BK328.out 5).trans rfl; have hcz43_6 : w42.cell? ⟨gb328, 6, none⟩ = some (.int .i64 0) := (blk_cell BK328.out 6).trans rfl; have hcz43_7 : w42.cell? ⟨gb328, 7, none⟩ = some (.int .i64 0) := (blk_cell BK328.out 7).trans rfl; have hfz43_0 := blk_frozen BK328.out 0; have hfz43_1 := blk_frozen BK328.out 1; have hfz43_2 := blk_frozen BK328.out 2; have hfz43_3 := blk_frozen BK328.out 3; have hfz43_4 := blk_frozen BK328.out 4; have hfz43_5 := blk_frozen BK328.out 5; have hfz43_6 := blk_frozen BK328.out 6; have hfz43_7 := blk_frozen BK328.out 7) | ((with_reducible refine gate_builtin (b := .append) (xs := #[.tmp 70, .tmp 72]) rfl ?_); at_builtin; refine Kd.R_append k33 (w0 := w) w.heap.size rfl (.tmp 70) (.tmp 72) 38 33 (.agg #[(.string ⟨#[]⟩), (.string ⟨#[]⟩), (.int .i64 0), (.bool false), (.int .i64 0), (.int .i64 0), (.int .i64 0), (.int .i64 0)]) 80 rfl Try.underlying38 info33 rfl (by decide) (by omega) u10 x10_2 (⟨t319, t320, t321, t322, (⟨t323, t324, t325⟩ : S24), t326⟩ : S33) [.string t319, .string t320, .int .i64 t321, .bool t322, .int .i64 t323, .int .i64 t324, .int .i64 t325, .int .i64 t326] (fun k_ => k_ ≠ gb328) (fun _ => False) rfl (by first | (go_simp; done) | (go_simp; rfl)) ?aP (fun _ hk => hk.elim) ?aF ?aO ?aB ?aS ?aL ?_; (case aP => exact k33_mkM _ _ _ (⟨t319, t320, t321, t322, (⟨t323, t324, t325⟩ : S24), t326⟩ : S33)); (case aB => exact (by repeat (first | (with_reducible first | exact HB.out | apply below_alloc | apply pw_below_drewN | apply below_drew1 | refine below_set ?_ GE328.out) | exact HB.out))); (case aF => exact (fun k_ hk => Kd.freshB (g := gb328) (o := .cells #[.string t319, .string t320, .int .i64 t321, .bool t322, .int .i64 t323, .int .i64 t324, .int .i64 t325, .int .i64 t326] 33 (0, 0)) (by (with_reducible repeat (first | refine blk_drewN ?_ _ | refine blk_drew ?_ | refine blk_alloc ?_ _)); refine blk_put (cs := #[.string t319, .string t320, .int .i64 t321, .bool t322, .int .i64 t323, .int .i64 t324, .int .i64 t325, .int .i64 0]) ?_ 7 _ rfl; (with_reducible repeat (first | refine blk_drewN ?_ _ | refine blk_drew ?_ | refine blk_alloc ?_ _)); refine blk_put (cs := #[.string t319, .string t320, .int .i64 t321, .bool t322, .int .i64 t323, .int .i64 t324, .int .i64 0, .int .i64 0]) ?_ 6 _ rfl; (with_reducible repeat (first | refine blk_drewN ?_ _ | refine blk_drew ?_ | refine blk_alloc ?_ _)); refine blk_put (cs := #[.string t319, .string t320, .int .i64 t321, .bool t322, .int .i64 t323, .int .i64 0, .int .i64 0, .int .i64 0]) ?_ 5 _ rfl; (with_reducible repeat (first | refine blk_drewN ?_ _ | refine blk_drew ?_ | refine blk_alloc ?_ _)); refine blk_put (cs := #[.string t319, .string t320, .int .i64 t321, .bool t322, .int .i64 0, .int .i64 0, .int .i64 0, .int .i64 0]) ?_ 4 _ rfl; (with_reducible repeat (first | refine blk_drewN ?_ _ | refine blk_drew ?_ | refine blk_alloc ?_ _)); refine blk_put (cs := #[.string t319, .string t320, .int .i64 t321, .bool false, .int .i64 0, .int .i64 0, .int .i64 0, .int .i64 0]) ?_ 3 _ rfl; (with_reducible repeat (first | refine blk_drewN ?_ _ | refine blk_drew ?_ | refine blk_alloc ?_ _)); refine blk_put (cs := #[.string t319, .string t320, .int .i64 0, .bool false, .int .i64 0, .int .i64 0, .int .i64 0, .int .i64 0]) ?_ 2 _ rfl; (with_reducible repeat (first | refine blk_drewN ?_ _ | refine blk_drew ?_ | refine blk_alloc ?_ _)); refine blk_put (cs := #[.string t319, .string (⟨#[]⟩ : ByteArray), .int .i64 0, .bool false, .int .i64 0, .int .i64 0, .int .i64 0, .int .i64 0]) ?_ 1 _ rfl; (with_reducible repeat (first | refine blk_drewN ?_ _ | refine blk_drew ?_ | refine blk_alloc ?_ _)); refine blk_put (cs := #[.string (⟨#[]⟩ : ByteArray), .string (⟨#[]⟩ : ByteArray), .int .i64 0, .bool false, .int .i64 0, .int .i64 0, .int .i64 0, .int .i64 0]) ?_ 0 _ rfl; (with_reducible repeat (first | refine blk_drewN ?_ _ | refine blk_drew ?_ | refine blk_alloc ?_ _)); exact BK328.out) k_ hk)); (case aO => exact (by (with_reducible repeat (first | apply Kd.R_alloc | apply Kd.R_drewN | apply Kd.R_drew)); exact Kd.R_mono (Kd.R_far (p := ⟨gb328, 7, none⟩) (Kd.R_far (p := ⟨gb328, 6, none⟩) (Kd.R_far (p := ⟨gb328, 5, none⟩) (Kd.R_far (p := ⟨gb328, 4, none⟩) (Kd.R_far (p := ⟨gb328, 3, none⟩) (Kd.R_far (p := ⟨gb328, 2, none⟩) (Kd.R_far (p := ⟨gb328, 1, none⟩) (Kd.R_far (p := ⟨gb328, 0, none⟩) (Kd.R_mono HO_10.out (fun k_ hk => (⟨hk, hk.2⟩ : _ ∧ k_ ≠ gb328))) (fun _ hk => hk.2) (.string t319)) (fun _ hk => hk.2) (.string t320)) (fun _ hk => hk.2) (.int .i64 t321)) (fun _ hk => hk.2) (.bool t322)) (fun _ hk => hk.2) (.int .i64 t323)) (fun _ hk => hk.2) (.int .i64 t324)) (fun _ hk => hk.2) (.int .i64 t325)) (fun _ hk => hk.2) (.int .i64 t326)) (fun _ hk => hk.1.2))); (case aS => exact (below_size (by repeat (first | (with_reducible first | exact HB.out | apply below_alloc | apply pw_below_drewN | apply below_drew1 | refine below_set ?_ GE328.out) | exact HB.out)))); (case aL => have := LMc40.out; omega); intro v330 w44 ho hb hg hat; rw [← Ny329.out] at ho; have n0_ := Aside0.mk (Kd.R_over' (by (with_reducible repeat (first | apply Kd.R_alloc | apply Kd.R_drewN | apply Kd.R_drew)); exact (Kd.R_mono (Kd.R_far (p := ⟨gb328, 7, none⟩) (Kd.R_far (p := ⟨gb328, 6, none⟩) (Kd.R_far (p := ⟨gb328, 5, none⟩) (Kd.R_far (p := ⟨gb328, 4, none⟩) (Kd.R_far (p := ⟨gb328, 3, none⟩) (Kd.R_far (p := ⟨gb328, 2, none⟩) (Kd.R_far (p := ⟨gb328, 1, none⟩) (Kd.R_far (p := ⟨gb328, 0, none⟩) (Kd.R_types HO_58.out BK328.out (by decide)) (fun _ hk => hk.2) (.string t319)) (fun _ hk => hk.2) (.string t320)) (fun _ hk => hk.2) (.int .i64 t321)) (fun _ hk => hk.2) (.bool t322)) (fun _ hk => hk.2) (.int .i64 t323)) (fun _ hk => hk.2) (.int .i64 t324)) (fun _ hk => hk.2) (.int .i64 t325)) (fun _ hk => hk.2) (.int .i64 t326)) (fun _ h_ => h_.1))) (Kd.R_typed (by (with_reducible repeat (first | apply Kd.R_alloc | apply Kd.R_drewN | apply Kd.R_drew)); exact (Kd.R_mono (Kd.R_far (p := ⟨gb328, 7, none⟩) (Kd.R_far (p := ⟨gb328, 6, none⟩) (Kd.R_far (p := ⟨gb328, 5, none⟩) (Kd.R_far (p := ⟨gb328, 4, none⟩) (Kd.R_far (p := ⟨gb328, 3, none⟩) (Kd.R_far (p := ⟨gb328, 2, none⟩) (Kd.R_far (p := ⟨gb328, 1, none⟩) (Kd.R_far (p := ⟨gb328, 0, none⟩) (Kd.R_mono HO_10.out (fun k_ hk => (⟨hk, hk.2⟩ : _ ∧ k_ ≠ gb328))) (fun _ hk => hk.2) (.string t319)) (fun _ hk => hk.2) (.string t320)) (fun _ hk => hk.2) (.int .i64 t321)) (fun _ hk => hk.2) (.bool t322)) (fun _ hk => hk.2) (.int .i64 t323)) (fun _ hk => hk.2) (.int .i64 t324)) (fun _ hk => hk.2) (.int .i64 t325)) (fun _ hk => hk.2) (.int .i64 t326)) (fun _ h_ => h_.1)))) (by decide) hg); have n1_ := Aside0.mk (blk_grown (g := gb328) (o := .cells #[.string t319, .string t320, .int .i64 t321, .bool t322, .int .i64 t323, .int .i64 t324, .int .i64 t325, .int .i64 t326] 33 (0, 0)) (by (with_reducible repeat (first | refine blk_drewN ?_ _ | refine blk_drew ?_ | refine blk_alloc ?_ _)); refine blk_put (cs := #[.string t319, .string t320, .int .i64 t321, .bool t322, .int .i64 t323, .int .i64 t324, .int .i64 t325, .int .i64 0]) ?_ 7 _ rfl; (with_reducible repeat (first | refine blk_drewN ?_ _ | refine blk_drew ?_ | refine blk_alloc ?_ _)); refine blk_put (cs := #[.string t319, .string t320, .int .i64 t321, .bool t322, .int .i64 t323, .int .i64 t324, .int .i64 0, .int .i64 0]) ?_ 6 _ rfl; (with_reducible repeat (first | refine blk_drewN ?_ _ | refine blk_drew ?_ | refine blk_alloc ?_ _)); refine blk_put (cs := #[.string t319, .string t320, .int .i64 t321, .bool t322, .int .i64 t323, .int .i64 0, .int .i64 0, .int .i64 0]) ?_ 5 _ rfl; (with_reducible repeat (first | refine blk_drewN ?_ _ | refine blk_drew ?_ | refine blk_alloc ?_ _)); refine blk_put (cs := #[.string t319, .string t320, .int .i64 t321, .bool t322, .int .i64 0, .int .i64 0, .int .i64 0, .int .i64 0]) ?_ 4 _ rfl; (with_reducible repeat (first | refine blk_drewN ?_ _ | refine blk_drew ?_ | refine blk_alloc ?_ _)); refine blk_put (cs := #[.string t319, .string t320, .int .i64 t321, .bool false, .int .i64 0, .int .i64 0, .int .i64 0, .int .i64 0]) ?_ 3 _ rfl; (with_reducible repeat (first | refine blk_drewN ?_ _ | refine blk_drew ?_ | refine blk_alloc ?_ _)); refine blk_put (cs := #[.string t319, .string t320, .int .i64 0, .bool false, .int .i64 0, .int .i64 0, .int .i64 0, .int .i64 0]) ?_ 2 _ rfl; (with_reducible repeat (first | refine blk_drewN ?_ _ | refine blk_drew ?_ | refine blk_alloc ?_ _)); refine blk_put (cs := #[.string t319, .string (⟨#[]⟩ : ByteArray), .int .i64 0, .bool false, .int .i64 0, .int .i64 0, .int .i64 0, .int .i64 0]) ?_ 1 _ rfl; (with_reducible repeat (first | refine blk_drewN ?_ _ | refine blk_drew ?_ | refine blk_alloc ?_ _)); refine blk_put (cs := #[.string (⟨#[]⟩ : ByteArray), .string (⟨#[]⟩ : ByteArray), .int .i64 0, .bool false, .int .i64 0, .int .i64 0, .int .i64 0, .int .i64 0]) ?_ 0 _ rfl; (with_reducible repeat (first | refine blk_drewN ?_ _ | refine blk_drew ?_ | refine blk_alloc ?_ _)); exact BK328.out) hg (Kd.R_away HO_10.out (fun _ hk => hk.2))); have n2_ := Aside0.mk (hb); have n3_ := Aside0.mk (ho); clear HO_58; clear BK328; clear HB; clear HO_10; have HO_58 := n0_; have BK328 := n1_; have HB := n2_; have HO331 := n3_; clear n0_ n1_ n2_ n3_; clear ho hb hg hat))
                    go_roundg k2
                    case measure => have := HK1.out; have := HK2.out; omega
                    case rel => exact ⟨(y329), (wrap64 (x60_2 + 1)), (by first | rfl | (simp; done) | (simp [*]; done)), H', ⟨by have := HK1.out; have := HK2.out; omega⟩, ⟨by (with_reducible repeat (first | apply Kd.R_alloc | apply Kd.R_drewN | apply Kd.R_drew)); exact Kd.R_mono HO331.out (fun _ hk => trivial)⟩, ⟨by (with_reducible repeat (first | apply Kd.R_alloc | apply Kd.R_drewN | apply Kd.R_drew)); exact HO_58.out⟩, ⟨by repeat (first | (with_reducible first | exact HB.out | apply below_alloc | apply pw_below_drewN | apply below_drew1 | refine below_set ?_ GE328.out) | exact HB.out)⟩⟩
                  · rw [if_neg c40] at H
                    exact absurd H (by simp)
                · rw [if_neg c38] at H
                  exact absurd H (by simp)
              · rw [if_neg c37] at H
                exact absurd H (by simp)
            · rw [if_neg c36] at H
              have c36b0 : decide (x60_2 < (x3_1.length : Int)) = false := decide_eq_false c36
              clear c36
              obtain rfl := Option.some.inj H
              go_wp2
              go_ret
              exact ⟨_, by first | rfl | (simp [errW_none, errW_some] <;> rfl) | (simp [*, errW_none, errW_some] <;> rfl), by (with_reducible repeat (first | apply Kd.R_alloc | apply Kd.R_drewN | apply Kd.R_drew)); exact HO_10.out, by repeat (first | (with_reducible first | exact HB.out | apply below_alloc | apply pw_below_drewN | apply below_drew1) | exact HB.out)⟩

-- NOT PRINTED: function 7 (gouachelaw17_CascadeWins)

end Go.Proofs.Ytahihhklijcghaa.PCascadeSorts
