/-
  TrieNone: the law's walk.
-/
import Derived.Test.YtfehimoiccgahaaUn
import Derived.Test.YtfehimoiccgahaaShares
namespace Go.Proofs.Ytfehimoiccgahaa.S
open Go.RowKit Go.Proofs.YtfehimoiccgahaaW.PrintWords Go.Proofs.Ytfehimoiccgahaa
set_option linter.unusedVariables false
set_option linter.unusedSimpArgs false
theorem ptr_infoS : ∃ j, Try.prog.info? 55 = some j := by
  have : (Try.prog.info? 55).isSome = true := by kernel_rfl
  cases h : Try.prog.info? 55 with
  | none => rw [h] at this; cases this
  | some j => exact ⟨j, rfl⟩
theorem eql_sameS (a : Addr) (w : World) : (binOp .eql 36 (.pointer (some a)) (.pointer (some a))).run Try.prog w = .ok (.bool true) w := by
  obtain ⟨j, hj⟩ := ptr_infoS
  exact run_eql_ptr_same w a Try.underlying36 hj
theorem neq_sameS (a : Addr) (w : World) : (binOp .neq 36 (.pointer (some a)) (.pointer (some a))).run Try.prog w = .ok (.bool false) w := by
  obtain ⟨j, hj⟩ := ptr_infoS
  have h : ∀ d : Nat, (Op.equalIn (d + 1) 36 (.pointer (some a)) (.pointer (some a))).run Try.prog w = .ok true w := fun d => by
    simp [Op.equalIn, run_underlying Try.underlying36, sizeOf, typeInfo, hj, run_sameAddr_same]
  simp only [binOp]
  simp [Op.equal, Op.maxDepth, h 9999]
theorem ix0 (a : Addr) (w : World) : (Instr.index 56 (.agg #[.pointer none, .pointer (some a)]) (.int .i64 0)).run Try.prog w = .ok (.pointer none) w := by kernel_rfl
theorem ix1 (a : Addr) (w : World) : (Instr.index 56 (.agg #[.pointer none, .pointer (some a)]) (.int .i64 1)).run Try.prog w = .ok (.pointer (some a)) w := by kernel_rfl
theorem fun_nil (bx : Nat) (w : World) : (binOp .eql 58 (.func (.func 37) #[] #[.pointer (some ⟨bx, 0, none⟩)]) .nilFunc).run Try.prog w = .ok (.bool false) w := by kernel_rfl
theorem obj_lt {w : World} {k : Nat} {o : Obj} (h : w.heap[k]? = some o) : k < w.heap.size := (Array.getElem?_eq_some_iff.1 h).1
theorem obj_keep {w w' : World} {k : Nat} {o : Obj} (h : w.heap[k]? = some o) (hb : Below w.heap.size w w') : w'.heap[k]? = some o := (hb.block k (obj_lt h)).trans h
theorem put_other {w : World} {k D : Nat} {o o' : Obj} (h : w.heap[k]? = some o) (hne : k ≠ D) : (w.putObj D o').heap[k]? = some o := by
  simp [World.putObj, Array.getElem?_setIfInBounds, Ne.symm hne, h]
set_option maxHeartbeats 4000000 in
set_option maxRecDepth 100000 in
theorem none_w0 {W : World} (n : Int) (s : ByteArray) (g0 : n < 0) : Calls Try.prog 7 #[.int .i64 n, .string s] W fun e w' => e = .returned (.bool true) ∧ Below W.heap.size W w' := by
  have HV : Aside0 ((if 0 ≤ n ∧ n < 1048576 then some s else none) = none) := ⟨by rw [if_neg (by omega)]⟩
  refine (callsIn_wide (n := 6)).1 ?_
  refine callsIn_of_wp_marks Try.func7 rfl trivial ?_ rfl
  simp only [Try.ntmps7, List.size_toArray, List.length_cons, List.length_nil, Nat.reduceAdd, Nat.reduceSub, Array.replicate_succ, Array.replicate_zero, List.push_toArray, List.append_toArray, List.nil_append, List.cons_append]
  refine wpIn_wide.2 ?_
  have HR0 := Aside0.mk (heap_alloc2_old W (.cells #[.bool false] 4) (.cells #[.pointer none] 55))
  have HZ0 := Aside0.mk (heap_alloc2_new W (.cells #[.bool false] 4) (.cells #[.pointer none] 55))
  have HB0 := Aside0.mk (((Below.refl W.heap.size W).alloc (Nat.le_refl _) (.cells #[.bool false] 4)).alloc (by simp) (.cells #[.pointer none] 55))
  go_upto_region 2 with fail
  change Code.wp Try.prog _ _ _ ((W.alloc (.cells #[.bool false] 4)).alloc (.cells #[.pointer none] 55))
  generalize (W.alloc (.cells #[.bool false] 4)).alloc (.cells #[.pointer none] 55) = w0 at *
  go_wp2_with fail
  refine wp_loop_rounds 3 ?_
  rw [rounds_succ]
  have HU : Aside0 (Un w0 none) := ⟨Or.inl rfl⟩
  have hix := ix0 ⟨W.heap.size + 1, 0, none⟩ w0
  go_wp2_with fail
  clear hix
  refine (un_get HU.out n).mono ?_
  rintro e w1 ⟨rfl, rfl⟩
  go_wp2_with fail
  refine (all_c _).mono ?_
  rintro e w2 ⟨rfl, rfl⟩
  have HBX := Aside0.mk (heap_alloc_new w1 (.cells #[.pointer none] 36))
  have HBa := Aside0.mk ((Below.refl w1.heap.size w1).alloc (Nat.le_refl _) (.cells #[.pointer none] 36))
  obtain ⟨bx, hbx⟩ : ∃ bx, w1.heap.size = bx := ⟨_, rfl⟩
  rw [hbx] at HBX ⊢
  clear hbx
  have HU2 := Aside0.mk (HU.out.below HBa.out)
  obtain ⟨w2, hw2⟩ : ∃ w2, w1.alloc (.cells #[.pointer none] 36) = w2 := ⟨_, rfl⟩
  rw [hw2] at HBX HBa HU2 ⊢
  clear hw2
  go_wp2_with fail
  refine (un_len HU2.out).mono ?_
  rintro e w3 ⟨rfl, rfl⟩
  go_wp2_with fail
  refine (un_nodes HU2.out).mono ?_
  rintro e w3 ⟨rfl, rfl⟩
  have hfn := fun_nil bx w3
  go_wp2_with fail
  clear hfn
  refine (un_drop HU2.out n).mono ?_
  rintro e w3 ⟨rfl, rfl⟩
  go_wp2_with fail
  have HRb := Aside0.mk (obj_keep HR0.out HBa.out)
  have HZb := Aside0.mk (obj_keep HZ0.out HBa.out)
  have HBb := Aside0.mk (HB0.out.trans (HBa.out.mono HB0.out.size))
  clear HR0 HZ0 HB0 HBa HU
  refine (wpIn_wide (n := 6)).1 ?_
  refine wpIn_rangeFunc_ownF (F := Fence.wide) (n := 6) rfl (by decide) (gf := 37) (lb := #[.pointer (some ⟨bx, 0, none⟩)]) rfl trivial (enters_of Try.func37 (by kernel_rfl) rfl)
    (un_stops HU2.out (by decide) ((blk_cell HBX.out 0).trans rfl)) belowK_t (belowK_b (Nat.le_refl _)) (Below.refl _ _) (fun e => e.elim)
    (fun _ W' => Below w3.heap.size w3 W') (fun _ _ _ => False) (ownFrom_below (Nat.le_refl _) (Nat.le_refl _)) (fun c => ownFrom_pure _ _) (Below.refl _ _) (fun e => e.elim) ?assign0 ?body0 ?done0 ?stop0
  case assign0 => exact fun l e => e.elim
  case body0 => exact fun l pre e => e.elim
  case stop0 => exact fun D c1 pre w4 hD hpre => hpre.elim
  rintro D0 xs w4 hD hxs hb3 hK
  have HD0 := Aside0.mk (And.intro hK (Nat.le_trans HBb.out.size hD))
  have HU4 := Aside0.mk (HU2.out.below hb3)
  have HRc := Aside0.mk (obj_keep HRb.out hb3)
  have HZc := Aside0.mk (obj_keep HZb.out hb3)
  have HBc := Aside0.mk (HBb.out.trans (hb3.mono HBb.out.size))
  clear hK hD hb3 HRb HZb HBb HU2 HBX
  gi_wp2
  go_wp2_with fail
  refine (un_put HU4.out n s).mono ?_
  rintro e w5 ⟨p, rfl, u, hTr, hgv, hb3⟩
  have HTr := Aside0.mk hTr
  have HGV := Aside0.mk (hgv.trans HV.out)
  have HRd := Aside0.mk (obj_keep HRc.out hb3)
  have HZd := Aside0.mk (obj_keep HZc.out hb3)
  have HBd := Aside0.mk (HBc.out.trans (hb3.mono HBc.out.size))
  have HD0 := Aside0.mk (And.intro (obj_keep HD0.out.1 hb3) HD0.out.2)
  clear hb3 hTr hgv HRc HZc HBc HU4
  go_wp2_with fail
  refine (get_c HTr.out n).mono ?_
  rw [HGV.out]
  rintro e w0 ⟨he, hb3⟩
  replace he : e = .returned (.tuple #[(.string ⟨#[]⟩), .bool false]) := he
  subst he
  have HR0 := Aside0.mk (obj_keep HRd.out hb3)
  have HZ0 := Aside0.mk (obj_keep HZd.out hb3)
  have HB0 := Aside0.mk (HBd.out.trans (hb3.mono HBd.out.size))
  have HD0 := Aside0.mk (And.intro (obj_keep HD0.out.1 hb3) HD0.out.2)
  clear hb3 HTr HGV HRd HZd HBd
  go_wp2_with fail
  rw [rounds_succ]
  have HU : Aside0 (Un w0 (some ⟨W.heap.size + 1, 0, none⟩)) := ⟨Or.inr ⟨_, rfl, (blk_cell HZ0.out 0).trans rfl⟩⟩
  have hix := ix1 ⟨W.heap.size + 1, 0, none⟩ w0
  go_wp2_with fail
  clear hix
  refine (un_get HU.out n).mono ?_
  rintro e w1 ⟨rfl, rfl⟩
  go_wp2_with fail
  refine (all_c _).mono ?_
  rintro e w2 ⟨rfl, rfl⟩
  have HBX := Aside0.mk (heap_alloc_new w1 (.cells #[.pointer (some ⟨W.heap.size + 1, 0, none⟩)] 36))
  have HBa := Aside0.mk ((Below.refl w1.heap.size w1).alloc (Nat.le_refl _) (.cells #[.pointer (some ⟨W.heap.size + 1, 0, none⟩)] 36))
  obtain ⟨bx, hbx⟩ : ∃ bx, w1.heap.size = bx := ⟨_, rfl⟩
  rw [hbx] at HBX ⊢
  clear hbx
  have HU2 := Aside0.mk (HU.out.below HBa.out)
  obtain ⟨w2, hw2⟩ : ∃ w2, w1.alloc (.cells #[.pointer (some ⟨W.heap.size + 1, 0, none⟩)] 36) = w2 := ⟨_, rfl⟩
  rw [hw2] at HBX HBa HU2 ⊢
  clear hw2
  go_wp2_with fail
  refine (un_len HU2.out).mono ?_
  rintro e w3 ⟨rfl, rfl⟩
  go_wp2_with fail
  refine (un_nodes HU2.out).mono ?_
  rintro e w3 ⟨rfl, rfl⟩
  have hfn := fun_nil bx w3
  go_wp2_with fail
  clear hfn
  refine (un_drop HU2.out n).mono ?_
  rintro e w3 ⟨rfl, rfl⟩
  have heq := neq_sameS ⟨W.heap.size + 1, 0, none⟩ w3
  go_wp2_with fail
  have HRb := Aside0.mk (obj_keep HR0.out HBa.out)
  have HZb := Aside0.mk (obj_keep HZ0.out HBa.out)
  have HBb := Aside0.mk (HB0.out.trans (HBa.out.mono HB0.out.size))
  have HD0 := Aside0.mk (And.intro (obj_keep HD0.out.1 HBa.out) HD0.out.2)
  clear HR0 HZ0 HB0 HBa HU heq
  refine (wpIn_wide (n := 6)).1 ?_
  refine wpIn_rangeFunc_ownF (F := Fence.wide) (n := 6) rfl (by decide) (gf := 37) (lb := #[.pointer (some ⟨bx, 0, none⟩)]) rfl trivial (enters_of Try.func37 (by kernel_rfl) rfl)
    (un_stops HU2.out (by decide) ((blk_cell HBX.out 0).trans rfl)) belowK_t (belowK_b (Nat.le_refl _)) (Below.refl _ _) (fun e => e.elim)
    (fun _ W' => Below w3.heap.size w3 W') (fun _ _ _ => False) (ownFrom_below (Nat.le_refl _) (Nat.le_refl _)) (fun c => ownFrom_pure _ _) (Below.refl _ _) (fun e => e.elim) ?assign1 ?body1 ?done1 ?stop1
  case assign1 => exact fun l e => e.elim
  case body1 => exact fun l pre e => e.elim
  case stop1 => exact fun D c1 pre w4 hD hpre => hpre.elim
  rintro D1 xs w4 hD hxs hb3 hK
  have HD1 := Aside0.mk (And.intro hK (Nat.le_trans HBb.out.size hD))
  have HU4 := Aside0.mk (HU2.out.below hb3)
  have HRc := Aside0.mk (obj_keep HRb.out hb3)
  have HZc := Aside0.mk (obj_keep HZb.out hb3)
  have HBc := Aside0.mk (HBb.out.trans (hb3.mono HBb.out.size))
  have HDN := Aside0.mk (And.intro HD0.out.1 hD)
  have HD0 := Aside0.mk (And.intro (obj_keep HD0.out.1 hb3) (And.intro HD0.out.2 (show D0 ≠ D1 from fun e => by have := obj_lt HD0.out.1; omega)))
  clear HDN
  clear hK hD hb3 HRb HZb HBb HU2 HBX
  gi_wp2
  go_wp2_with fail
  refine (un_put HU4.out n s).mono ?_
  rintro e w5 ⟨p, rfl, u, hTr, hgv, hb3⟩
  have HTr := Aside0.mk hTr
  have HGV := Aside0.mk (hgv.trans HV.out)
  have HRd := Aside0.mk (obj_keep HRc.out hb3)
  have HZd := Aside0.mk (obj_keep HZc.out hb3)
  have HBd := Aside0.mk (HBc.out.trans (hb3.mono HBc.out.size))
  have HD1 := Aside0.mk (And.intro (obj_keep HD1.out.1 hb3) HD1.out.2)
  have HD0 := Aside0.mk (And.intro (obj_keep HD0.out.1 hb3) HD0.out.2)
  clear hb3 hTr hgv HRc HZc HBc HU4
  go_wp2_with fail
  refine (get_c HTr.out n).mono ?_
  rw [HGV.out]
  rintro e w0 ⟨he, hb3⟩
  replace he : e = .returned (.tuple #[(.string ⟨#[]⟩), .bool false]) := he
  subst he
  have HR0 := Aside0.mk (obj_keep HRd.out hb3)
  have HZ0 := Aside0.mk (obj_keep HZd.out hb3)
  have HB0 := Aside0.mk (HBd.out.trans (hb3.mono HBd.out.size))
  have HD1 := Aside0.mk (And.intro (obj_keep HD1.out.1 hb3) HD1.out.2)
  have HD0 := Aside0.mk (And.intro (obj_keep HD0.out.1 hb3) HD0.out.2)
  clear hb3 HTr HGV HRd HZd HBd
  go_wp2_with fail
  rw [rounds_succ]
  go_wp2_with fail
  refine (lives_c _).mono ?_
  rintro e w1 ⟨rfl, hb3⟩
  have hr := obj_keep HR0.out hb3
  have HBx := HB0.out.trans (hb3.mono HB0.out.size)
  have hd0 := obj_keep HD0.out.1 hb3
  have hd1 := obj_keep HD1.out.1 hb3
  have HE := Aside0.mk (And.intro hr (And.intro HBx (And.intro hd0 hd1)))
  have d2 := blk_cell hr 0
  have f2 := blk_frozen hr 0
  clear hr HBx hd0 hd1 hb3 HR0 HB0 HZ0
  go_wp2_with fail
  obtain ⟨hr, hBx, hd0, hd1⟩ := HE.out
  have h2 : (w1.setCell ⟨W.heap.size, 0, none⟩ (.bool true)).heap[W.heap.size]? = some (.cells #[.bool true] 4 (0, 0)) := blk_set hr 0 (.bool true)
  have h4 : Below W.heap.size W (w1.setCell ⟨W.heap.size, 0, none⟩ (.bool true)) := hBx.setCell (p := ⟨W.heap.size, 0, none⟩) (by simp) _
  have k0 := (KeepsOthers.setCell w1 ⟨W.heap.size, 0, none⟩ (.bool true)).same D0 _ hd0 rfl
  have k1 := (KeepsOthers.setCell w1 ⟨W.heap.size, 0, none⟩ (.bool true)).same D1 _ hd1 rfl
  generalize w1.setCell ⟨W.heap.size, 0, none⟩ (.bool true) = w5 at *
  have q2 : w5.cell? ⟨W.heap.size, 0, none⟩ = some (.bool true) := (blk_cell h2 0).trans rfl
  have k0' := put_other (o' := .deferred none) k0 HD0.out.2.2
  have p2 := _root_.Go.cell_kept q2 (grownBy_putObj' w5 D1 (.deferred none)) (fun r e => by cases e; exact ⟨_, k1, rfl⟩)
  have p3 := _root_.Go.cell_kept p2 (grownBy_putObj' _ D0 (.deferred none)) (fun r e => by cases e; exact ⟨_, k0', rfl⟩)
  refine ⟨by simp, .inl ⟨_, _, rfl, run_takeDeferred k1, ?_⟩⟩
  refine ⟨by simp, .inl ⟨_, _, rfl, run_takeDeferred k0', ?_⟩⟩
  refine ⟨.bool true, by simp [results, Try.f7, go_sem, p3], ?_⟩
  exact ⟨rfl, (h4.trans (belowK_b (w := W) (Nat.le_refl _) w5 D1 _ _ HD1.out.2 k1 rfl rfl)).trans (belowK_b (w := W) (Nat.le_refl _) _ D0 _ _ HD0.out.2.1 k0' rfl rfl)⟩
set_option maxHeartbeats 4000000 in
set_option maxRecDepth 100000 in
theorem none_w1 {W : World} (n : Int) (s : ByteArray) (g0 : ¬ n < 0) (g1 : 1048576 ≤ n) : Calls Try.prog 7 #[.int .i64 n, .string s] W fun e w' => e = .returned (.bool true) ∧ Below W.heap.size W w' := by
  have HV : Aside0 ((if 0 ≤ n ∧ n < 1048576 then some s else none) = none) := ⟨by rw [if_neg (by omega)]⟩
  refine (callsIn_wide (n := 6)).1 ?_
  refine callsIn_of_wp_marks Try.func7 rfl trivial ?_ rfl
  simp only [Try.ntmps7, List.size_toArray, List.length_cons, List.length_nil, Nat.reduceAdd, Nat.reduceSub, Array.replicate_succ, Array.replicate_zero, List.push_toArray, List.append_toArray, List.nil_append, List.cons_append]
  refine wpIn_wide.2 ?_
  have HR0 := Aside0.mk (heap_alloc2_old W (.cells #[.bool false] 4) (.cells #[.pointer none] 55))
  have HZ0 := Aside0.mk (heap_alloc2_new W (.cells #[.bool false] 4) (.cells #[.pointer none] 55))
  have HB0 := Aside0.mk (((Below.refl W.heap.size W).alloc (Nat.le_refl _) (.cells #[.bool false] 4)).alloc (by simp) (.cells #[.pointer none] 55))
  go_upto_region 2 with fail
  change Code.wp Try.prog _ _ _ ((W.alloc (.cells #[.bool false] 4)).alloc (.cells #[.pointer none] 55))
  generalize (W.alloc (.cells #[.bool false] 4)).alloc (.cells #[.pointer none] 55) = w0 at *
  go_wp2_with fail
  refine wp_loop_rounds 3 ?_
  rw [rounds_succ]
  have HU : Aside0 (Un w0 none) := ⟨Or.inl rfl⟩
  have hix := ix0 ⟨W.heap.size + 1, 0, none⟩ w0
  go_wp2_with fail
  clear hix
  refine (un_get HU.out n).mono ?_
  rintro e w1 ⟨rfl, rfl⟩
  go_wp2_with fail
  refine (all_c _).mono ?_
  rintro e w2 ⟨rfl, rfl⟩
  have HBX := Aside0.mk (heap_alloc_new w1 (.cells #[.pointer none] 36))
  have HBa := Aside0.mk ((Below.refl w1.heap.size w1).alloc (Nat.le_refl _) (.cells #[.pointer none] 36))
  obtain ⟨bx, hbx⟩ : ∃ bx, w1.heap.size = bx := ⟨_, rfl⟩
  rw [hbx] at HBX ⊢
  clear hbx
  have HU2 := Aside0.mk (HU.out.below HBa.out)
  obtain ⟨w2, hw2⟩ : ∃ w2, w1.alloc (.cells #[.pointer none] 36) = w2 := ⟨_, rfl⟩
  rw [hw2] at HBX HBa HU2 ⊢
  clear hw2
  go_wp2_with fail
  refine (un_len HU2.out).mono ?_
  rintro e w3 ⟨rfl, rfl⟩
  go_wp2_with fail
  refine (un_nodes HU2.out).mono ?_
  rintro e w3 ⟨rfl, rfl⟩
  have hfn := fun_nil bx w3
  go_wp2_with fail
  clear hfn
  refine (un_drop HU2.out n).mono ?_
  rintro e w3 ⟨rfl, rfl⟩
  go_wp2_with fail
  have HRb := Aside0.mk (obj_keep HR0.out HBa.out)
  have HZb := Aside0.mk (obj_keep HZ0.out HBa.out)
  have HBb := Aside0.mk (HB0.out.trans (HBa.out.mono HB0.out.size))
  clear HR0 HZ0 HB0 HBa HU
  refine (wpIn_wide (n := 6)).1 ?_
  refine wpIn_rangeFunc_ownF (F := Fence.wide) (n := 6) rfl (by decide) (gf := 37) (lb := #[.pointer (some ⟨bx, 0, none⟩)]) rfl trivial (enters_of Try.func37 (by kernel_rfl) rfl)
    (un_stops HU2.out (by decide) ((blk_cell HBX.out 0).trans rfl)) belowK_t (belowK_b (Nat.le_refl _)) (Below.refl _ _) (fun e => e.elim)
    (fun _ W' => Below w3.heap.size w3 W') (fun _ _ _ => False) (ownFrom_below (Nat.le_refl _) (Nat.le_refl _)) (fun c => ownFrom_pure _ _) (Below.refl _ _) (fun e => e.elim) ?assign0 ?body0 ?done0 ?stop0
  case assign0 => exact fun l e => e.elim
  case body0 => exact fun l pre e => e.elim
  case stop0 => exact fun D c1 pre w4 hD hpre => hpre.elim
  rintro D0 xs w4 hD hxs hb3 hK
  have HD0 := Aside0.mk (And.intro hK (Nat.le_trans HBb.out.size hD))
  have HU4 := Aside0.mk (HU2.out.below hb3)
  have HRc := Aside0.mk (obj_keep HRb.out hb3)
  have HZc := Aside0.mk (obj_keep HZb.out hb3)
  have HBc := Aside0.mk (HBb.out.trans (hb3.mono HBb.out.size))
  clear hK hD hb3 HRb HZb HBb HU2 HBX
  gi_wp2
  go_wp2_with fail
  refine (un_put HU4.out n s).mono ?_
  rintro e w5 ⟨p, rfl, u, hTr, hgv, hb3⟩
  have HTr := Aside0.mk hTr
  have HGV := Aside0.mk (hgv.trans HV.out)
  have HRd := Aside0.mk (obj_keep HRc.out hb3)
  have HZd := Aside0.mk (obj_keep HZc.out hb3)
  have HBd := Aside0.mk (HBc.out.trans (hb3.mono HBc.out.size))
  have HD0 := Aside0.mk (And.intro (obj_keep HD0.out.1 hb3) HD0.out.2)
  clear hb3 hTr hgv HRc HZc HBc HU4
  go_wp2_with fail
  refine (get_c HTr.out n).mono ?_
  rw [HGV.out]
  rintro e w0 ⟨he, hb3⟩
  replace he : e = .returned (.tuple #[(.string ⟨#[]⟩), .bool false]) := he
  subst he
  have HR0 := Aside0.mk (obj_keep HRd.out hb3)
  have HZ0 := Aside0.mk (obj_keep HZd.out hb3)
  have HB0 := Aside0.mk (HBd.out.trans (hb3.mono HBd.out.size))
  have HD0 := Aside0.mk (And.intro (obj_keep HD0.out.1 hb3) HD0.out.2)
  clear hb3 HTr HGV HRd HZd HBd
  go_wp2_with fail
  rw [rounds_succ]
  have HU : Aside0 (Un w0 (some ⟨W.heap.size + 1, 0, none⟩)) := ⟨Or.inr ⟨_, rfl, (blk_cell HZ0.out 0).trans rfl⟩⟩
  have hix := ix1 ⟨W.heap.size + 1, 0, none⟩ w0
  go_wp2_with fail
  clear hix
  refine (un_get HU.out n).mono ?_
  rintro e w1 ⟨rfl, rfl⟩
  go_wp2_with fail
  refine (all_c _).mono ?_
  rintro e w2 ⟨rfl, rfl⟩
  have HBX := Aside0.mk (heap_alloc_new w1 (.cells #[.pointer (some ⟨W.heap.size + 1, 0, none⟩)] 36))
  have HBa := Aside0.mk ((Below.refl w1.heap.size w1).alloc (Nat.le_refl _) (.cells #[.pointer (some ⟨W.heap.size + 1, 0, none⟩)] 36))
  obtain ⟨bx, hbx⟩ : ∃ bx, w1.heap.size = bx := ⟨_, rfl⟩
  rw [hbx] at HBX ⊢
  clear hbx
  have HU2 := Aside0.mk (HU.out.below HBa.out)
  obtain ⟨w2, hw2⟩ : ∃ w2, w1.alloc (.cells #[.pointer (some ⟨W.heap.size + 1, 0, none⟩)] 36) = w2 := ⟨_, rfl⟩
  rw [hw2] at HBX HBa HU2 ⊢
  clear hw2
  go_wp2_with fail
  refine (un_len HU2.out).mono ?_
  rintro e w3 ⟨rfl, rfl⟩
  go_wp2_with fail
  refine (un_nodes HU2.out).mono ?_
  rintro e w3 ⟨rfl, rfl⟩
  have hfn := fun_nil bx w3
  go_wp2_with fail
  clear hfn
  refine (un_drop HU2.out n).mono ?_
  rintro e w3 ⟨rfl, rfl⟩
  have heq := neq_sameS ⟨W.heap.size + 1, 0, none⟩ w3
  go_wp2_with fail
  have HRb := Aside0.mk (obj_keep HR0.out HBa.out)
  have HZb := Aside0.mk (obj_keep HZ0.out HBa.out)
  have HBb := Aside0.mk (HB0.out.trans (HBa.out.mono HB0.out.size))
  have HD0 := Aside0.mk (And.intro (obj_keep HD0.out.1 HBa.out) HD0.out.2)
  clear HR0 HZ0 HB0 HBa HU heq
  refine (wpIn_wide (n := 6)).1 ?_
  refine wpIn_rangeFunc_ownF (F := Fence.wide) (n := 6) rfl (by decide) (gf := 37) (lb := #[.pointer (some ⟨bx, 0, none⟩)]) rfl trivial (enters_of Try.func37 (by kernel_rfl) rfl)
    (un_stops HU2.out (by decide) ((blk_cell HBX.out 0).trans rfl)) belowK_t (belowK_b (Nat.le_refl _)) (Below.refl _ _) (fun e => e.elim)
    (fun _ W' => Below w3.heap.size w3 W') (fun _ _ _ => False) (ownFrom_below (Nat.le_refl _) (Nat.le_refl _)) (fun c => ownFrom_pure _ _) (Below.refl _ _) (fun e => e.elim) ?assign1 ?body1 ?done1 ?stop1
  case assign1 => exact fun l e => e.elim
  case body1 => exact fun l pre e => e.elim
  case stop1 => exact fun D c1 pre w4 hD hpre => hpre.elim
  rintro D1 xs w4 hD hxs hb3 hK
  have HD1 := Aside0.mk (And.intro hK (Nat.le_trans HBb.out.size hD))
  have HU4 := Aside0.mk (HU2.out.below hb3)
  have HRc := Aside0.mk (obj_keep HRb.out hb3)
  have HZc := Aside0.mk (obj_keep HZb.out hb3)
  have HBc := Aside0.mk (HBb.out.trans (hb3.mono HBb.out.size))
  have HDN := Aside0.mk (And.intro HD0.out.1 hD)
  have HD0 := Aside0.mk (And.intro (obj_keep HD0.out.1 hb3) (And.intro HD0.out.2 (show D0 ≠ D1 from fun e => by have := obj_lt HD0.out.1; omega)))
  clear HDN
  clear hK hD hb3 HRb HZb HBb HU2 HBX
  gi_wp2
  go_wp2_with fail
  refine (un_put HU4.out n s).mono ?_
  rintro e w5 ⟨p, rfl, u, hTr, hgv, hb3⟩
  have HTr := Aside0.mk hTr
  have HGV := Aside0.mk (hgv.trans HV.out)
  have HRd := Aside0.mk (obj_keep HRc.out hb3)
  have HZd := Aside0.mk (obj_keep HZc.out hb3)
  have HBd := Aside0.mk (HBc.out.trans (hb3.mono HBc.out.size))
  have HD1 := Aside0.mk (And.intro (obj_keep HD1.out.1 hb3) HD1.out.2)
  have HD0 := Aside0.mk (And.intro (obj_keep HD0.out.1 hb3) HD0.out.2)
  clear hb3 hTr hgv HRc HZc HBc HU4
  go_wp2_with fail
  refine (get_c HTr.out n).mono ?_
  rw [HGV.out]
  rintro e w0 ⟨he, hb3⟩
  replace he : e = .returned (.tuple #[(.string ⟨#[]⟩), .bool false]) := he
  subst he
  have HR0 := Aside0.mk (obj_keep HRd.out hb3)
  have HZ0 := Aside0.mk (obj_keep HZd.out hb3)
  have HB0 := Aside0.mk (HBd.out.trans (hb3.mono HBd.out.size))
  have HD1 := Aside0.mk (And.intro (obj_keep HD1.out.1 hb3) HD1.out.2)
  have HD0 := Aside0.mk (And.intro (obj_keep HD0.out.1 hb3) HD0.out.2)
  clear hb3 HTr HGV HRd HZd HBd
  go_wp2_with fail
  rw [rounds_succ]
  go_wp2_with fail
  refine (lives_c _).mono ?_
  rintro e w1 ⟨rfl, hb3⟩
  have hr := obj_keep HR0.out hb3
  have HBx := HB0.out.trans (hb3.mono HB0.out.size)
  have hd0 := obj_keep HD0.out.1 hb3
  have hd1 := obj_keep HD1.out.1 hb3
  have HE := Aside0.mk (And.intro hr (And.intro HBx (And.intro hd0 hd1)))
  have d2 := blk_cell hr 0
  have f2 := blk_frozen hr 0
  clear hr HBx hd0 hd1 hb3 HR0 HB0 HZ0
  go_wp2_with fail
  obtain ⟨hr, hBx, hd0, hd1⟩ := HE.out
  have h2 : (w1.setCell ⟨W.heap.size, 0, none⟩ (.bool true)).heap[W.heap.size]? = some (.cells #[.bool true] 4 (0, 0)) := blk_set hr 0 (.bool true)
  have h4 : Below W.heap.size W (w1.setCell ⟨W.heap.size, 0, none⟩ (.bool true)) := hBx.setCell (p := ⟨W.heap.size, 0, none⟩) (by simp) _
  have k0 := (KeepsOthers.setCell w1 ⟨W.heap.size, 0, none⟩ (.bool true)).same D0 _ hd0 rfl
  have k1 := (KeepsOthers.setCell w1 ⟨W.heap.size, 0, none⟩ (.bool true)).same D1 _ hd1 rfl
  generalize w1.setCell ⟨W.heap.size, 0, none⟩ (.bool true) = w5 at *
  have q2 : w5.cell? ⟨W.heap.size, 0, none⟩ = some (.bool true) := (blk_cell h2 0).trans rfl
  have k0' := put_other (o' := .deferred none) k0 HD0.out.2.2
  have p2 := _root_.Go.cell_kept q2 (grownBy_putObj' w5 D1 (.deferred none)) (fun r e => by cases e; exact ⟨_, k1, rfl⟩)
  have p3 := _root_.Go.cell_kept p2 (grownBy_putObj' _ D0 (.deferred none)) (fun r e => by cases e; exact ⟨_, k0', rfl⟩)
  refine ⟨by simp, .inl ⟨_, _, rfl, run_takeDeferred k1, ?_⟩⟩
  refine ⟨by simp, .inl ⟨_, _, rfl, run_takeDeferred k0', ?_⟩⟩
  refine ⟨.bool true, by simp [results, Try.f7, go_sem, p3], ?_⟩
  exact ⟨rfl, (h4.trans (belowK_b (w := W) (Nat.le_refl _) w5 D1 _ _ HD1.out.2 k1 rfl rfl)).trans (belowK_b (w := W) (Nat.le_refl _) _ D0 _ _ HD0.out.2.1 k0' rfl rfl)⟩
set_option maxHeartbeats 4000000 in
set_option maxRecDepth 100000 in
theorem none_w2 {W : World} (n : Int) (s : ByteArray) (g0 : 0 ≤ n) (g1 : n < 1048576) : Calls Try.prog 7 #[.int .i64 n, .string s] W fun e w' => e = .returned (.bool true) ∧ Below W.heap.size W w' := by
  have HV : Aside0 ((if 0 ≤ n ∧ n < 1048576 then some s else none) = some s) := ⟨by rw [if_pos ⟨g0, g1⟩]⟩
  refine (callsIn_wide (n := 6)).1 ?_
  refine callsIn_of_wp_marks Try.func7 rfl trivial ?_ rfl
  simp only [Try.ntmps7, List.size_toArray, List.length_cons, List.length_nil, Nat.reduceAdd, Nat.reduceSub, Array.replicate_succ, Array.replicate_zero, List.push_toArray, List.append_toArray, List.nil_append, List.cons_append]
  refine wpIn_wide.2 ?_
  have HR0 := Aside0.mk (heap_alloc2_old W (.cells #[.bool false] 4) (.cells #[.pointer none] 55))
  have HZ0 := Aside0.mk (heap_alloc2_new W (.cells #[.bool false] 4) (.cells #[.pointer none] 55))
  have HB0 := Aside0.mk (((Below.refl W.heap.size W).alloc (Nat.le_refl _) (.cells #[.bool false] 4)).alloc (by simp) (.cells #[.pointer none] 55))
  go_upto_region 2 with fail
  change Code.wp Try.prog _ _ _ ((W.alloc (.cells #[.bool false] 4)).alloc (.cells #[.pointer none] 55))
  generalize (W.alloc (.cells #[.bool false] 4)).alloc (.cells #[.pointer none] 55) = w0 at *
  go_wp2_with fail
  refine wp_loop_rounds 3 ?_
  rw [rounds_succ]
  have HU : Aside0 (Un w0 none) := ⟨Or.inl rfl⟩
  have hix := ix0 ⟨W.heap.size + 1, 0, none⟩ w0
  go_wp2_with fail
  clear hix
  refine (un_get HU.out n).mono ?_
  rintro e w1 ⟨rfl, rfl⟩
  go_wp2_with fail
  refine (all_c _).mono ?_
  rintro e w2 ⟨rfl, rfl⟩
  have HBX := Aside0.mk (heap_alloc_new w1 (.cells #[.pointer none] 36))
  have HBa := Aside0.mk ((Below.refl w1.heap.size w1).alloc (Nat.le_refl _) (.cells #[.pointer none] 36))
  obtain ⟨bx, hbx⟩ : ∃ bx, w1.heap.size = bx := ⟨_, rfl⟩
  rw [hbx] at HBX ⊢
  clear hbx
  have HU2 := Aside0.mk (HU.out.below HBa.out)
  obtain ⟨w2, hw2⟩ : ∃ w2, w1.alloc (.cells #[.pointer none] 36) = w2 := ⟨_, rfl⟩
  rw [hw2] at HBX HBa HU2 ⊢
  clear hw2
  go_wp2_with fail
  refine (un_len HU2.out).mono ?_
  rintro e w3 ⟨rfl, rfl⟩
  go_wp2_with fail
  refine (un_nodes HU2.out).mono ?_
  rintro e w3 ⟨rfl, rfl⟩
  have hfn := fun_nil bx w3
  go_wp2_with fail
  clear hfn
  refine (un_drop HU2.out n).mono ?_
  rintro e w3 ⟨rfl, rfl⟩
  go_wp2_with fail
  have HRb := Aside0.mk (obj_keep HR0.out HBa.out)
  have HZb := Aside0.mk (obj_keep HZ0.out HBa.out)
  have HBb := Aside0.mk (HB0.out.trans (HBa.out.mono HB0.out.size))
  clear HR0 HZ0 HB0 HBa HU
  refine (wpIn_wide (n := 6)).1 ?_
  refine wpIn_rangeFunc_ownF (F := Fence.wide) (n := 6) rfl (by decide) (gf := 37) (lb := #[.pointer (some ⟨bx, 0, none⟩)]) rfl trivial (enters_of Try.func37 (by kernel_rfl) rfl)
    (un_stops HU2.out (by decide) ((blk_cell HBX.out 0).trans rfl)) belowK_t (belowK_b (Nat.le_refl _)) (Below.refl _ _) (fun e => e.elim)
    (fun _ W' => Below w3.heap.size w3 W') (fun _ _ _ => False) (ownFrom_below (Nat.le_refl _) (Nat.le_refl _)) (fun c => ownFrom_pure _ _) (Below.refl _ _) (fun e => e.elim) ?assign0 ?body0 ?done0 ?stop0
  case assign0 => exact fun l e => e.elim
  case body0 => exact fun l pre e => e.elim
  case stop0 => exact fun D c1 pre w4 hD hpre => hpre.elim
  rintro D0 xs w4 hD hxs hb3 hK
  have HD0 := Aside0.mk (And.intro hK (Nat.le_trans HBb.out.size hD))
  have HU4 := Aside0.mk (HU2.out.below hb3)
  have HRc := Aside0.mk (obj_keep HRb.out hb3)
  have HZc := Aside0.mk (obj_keep HZb.out hb3)
  have HBc := Aside0.mk (HBb.out.trans (hb3.mono HBb.out.size))
  clear hK hD hb3 HRb HZb HBb HU2 HBX
  gi_wp2
  go_wp2_with fail
  refine (un_put HU4.out n s).mono ?_
  rintro e w5 ⟨p, rfl, u, hTr, hgv, hb3⟩
  have HTr := Aside0.mk hTr
  have HGV := Aside0.mk (hgv.trans HV.out)
  have HRd := Aside0.mk (obj_keep HRc.out hb3)
  have HZd := Aside0.mk (obj_keep HZc.out hb3)
  have HBd := Aside0.mk (HBc.out.trans (hb3.mono HBc.out.size))
  have HD0 := Aside0.mk (And.intro (obj_keep HD0.out.1 hb3) HD0.out.2)
  clear hb3 hTr hgv HRc HZc HBc HU4
  go_wp2_with fail
  refine (get_c HTr.out n).mono ?_
  rw [HGV.out]
  rintro e w0 ⟨he, hb3⟩
  replace he : e = .returned (.tuple #[Value.string s, .bool true]) := he
  subst he
  have HR0 := Aside0.mk (obj_keep HRd.out hb3)
  have HZ0 := Aside0.mk (obj_keep HZd.out hb3)
  have HB0 := Aside0.mk (HBd.out.trans (hb3.mono HBd.out.size))
  have HD0 := Aside0.mk (And.intro (obj_keep HD0.out.1 hb3) HD0.out.2)
  clear hb3 HTr HGV HRd HZd HBd
  go_wp2_with fail
  rw [rounds_succ]
  have HU : Aside0 (Un w0 (some ⟨W.heap.size + 1, 0, none⟩)) := ⟨Or.inr ⟨_, rfl, (blk_cell HZ0.out 0).trans rfl⟩⟩
  have hix := ix1 ⟨W.heap.size + 1, 0, none⟩ w0
  go_wp2_with fail
  clear hix
  refine (un_get HU.out n).mono ?_
  rintro e w1 ⟨rfl, rfl⟩
  go_wp2_with fail
  refine (all_c _).mono ?_
  rintro e w2 ⟨rfl, rfl⟩
  have HBX := Aside0.mk (heap_alloc_new w1 (.cells #[.pointer (some ⟨W.heap.size + 1, 0, none⟩)] 36))
  have HBa := Aside0.mk ((Below.refl w1.heap.size w1).alloc (Nat.le_refl _) (.cells #[.pointer (some ⟨W.heap.size + 1, 0, none⟩)] 36))
  obtain ⟨bx, hbx⟩ : ∃ bx, w1.heap.size = bx := ⟨_, rfl⟩
  rw [hbx] at HBX ⊢
  clear hbx
  have HU2 := Aside0.mk (HU.out.below HBa.out)
  obtain ⟨w2, hw2⟩ : ∃ w2, w1.alloc (.cells #[.pointer (some ⟨W.heap.size + 1, 0, none⟩)] 36) = w2 := ⟨_, rfl⟩
  rw [hw2] at HBX HBa HU2 ⊢
  clear hw2
  go_wp2_with fail
  refine (un_len HU2.out).mono ?_
  rintro e w3 ⟨rfl, rfl⟩
  go_wp2_with fail
  refine (un_nodes HU2.out).mono ?_
  rintro e w3 ⟨rfl, rfl⟩
  have hfn := fun_nil bx w3
  go_wp2_with fail
  clear hfn
  refine (un_drop HU2.out n).mono ?_
  rintro e w3 ⟨rfl, rfl⟩
  have heq := neq_sameS ⟨W.heap.size + 1, 0, none⟩ w3
  go_wp2_with fail
  have HRb := Aside0.mk (obj_keep HR0.out HBa.out)
  have HZb := Aside0.mk (obj_keep HZ0.out HBa.out)
  have HBb := Aside0.mk (HB0.out.trans (HBa.out.mono HB0.out.size))
  have HD0 := Aside0.mk (And.intro (obj_keep HD0.out.1 HBa.out) HD0.out.2)
  clear HR0 HZ0 HB0 HBa HU heq
  refine (wpIn_wide (n := 6)).1 ?_
  refine wpIn_rangeFunc_ownF (F := Fence.wide) (n := 6) rfl (by decide) (gf := 37) (lb := #[.pointer (some ⟨bx, 0, none⟩)]) rfl trivial (enters_of Try.func37 (by kernel_rfl) rfl)
    (un_stops HU2.out (by decide) ((blk_cell HBX.out 0).trans rfl)) belowK_t (belowK_b (Nat.le_refl _)) (Below.refl _ _) (fun e => e.elim)
    (fun _ W' => Below w3.heap.size w3 W') (fun _ _ _ => False) (ownFrom_below (Nat.le_refl _) (Nat.le_refl _)) (fun c => ownFrom_pure _ _) (Below.refl _ _) (fun e => e.elim) ?assign1 ?body1 ?done1 ?stop1
  case assign1 => exact fun l e => e.elim
  case body1 => exact fun l pre e => e.elim
  case stop1 => exact fun D c1 pre w4 hD hpre => hpre.elim
  rintro D1 xs w4 hD hxs hb3 hK
  have HD1 := Aside0.mk (And.intro hK (Nat.le_trans HBb.out.size hD))
  have HU4 := Aside0.mk (HU2.out.below hb3)
  have HRc := Aside0.mk (obj_keep HRb.out hb3)
  have HZc := Aside0.mk (obj_keep HZb.out hb3)
  have HBc := Aside0.mk (HBb.out.trans (hb3.mono HBb.out.size))
  have HDN := Aside0.mk (And.intro HD0.out.1 hD)
  have HD0 := Aside0.mk (And.intro (obj_keep HD0.out.1 hb3) (And.intro HD0.out.2 (show D0 ≠ D1 from fun e => by have := obj_lt HD0.out.1; omega)))
  clear HDN
  clear hK hD hb3 HRb HZb HBb HU2 HBX
  gi_wp2
  go_wp2_with fail
  refine (un_put HU4.out n s).mono ?_
  rintro e w5 ⟨p, rfl, u, hTr, hgv, hb3⟩
  have HTr := Aside0.mk hTr
  have HGV := Aside0.mk (hgv.trans HV.out)
  have HRd := Aside0.mk (obj_keep HRc.out hb3)
  have HZd := Aside0.mk (obj_keep HZc.out hb3)
  have HBd := Aside0.mk (HBc.out.trans (hb3.mono HBc.out.size))
  have HD1 := Aside0.mk (And.intro (obj_keep HD1.out.1 hb3) HD1.out.2)
  have HD0 := Aside0.mk (And.intro (obj_keep HD0.out.1 hb3) HD0.out.2)
  clear hb3 hTr hgv HRc HZc HBc HU4
  go_wp2_with fail
  refine (get_c HTr.out n).mono ?_
  rw [HGV.out]
  rintro e w0 ⟨he, hb3⟩
  replace he : e = .returned (.tuple #[Value.string s, .bool true]) := he
  subst he
  have HR0 := Aside0.mk (obj_keep HRd.out hb3)
  have HZ0 := Aside0.mk (obj_keep HZd.out hb3)
  have HB0 := Aside0.mk (HBd.out.trans (hb3.mono HBd.out.size))
  have HD1 := Aside0.mk (And.intro (obj_keep HD1.out.1 hb3) HD1.out.2)
  have HD0 := Aside0.mk (And.intro (obj_keep HD0.out.1 hb3) HD0.out.2)
  clear hb3 HTr HGV HRd HZd HBd
  go_wp2_with fail
  rw [rounds_succ]
  go_wp2_with fail
  refine (lives_c _).mono ?_
  rintro e w1 ⟨rfl, hb3⟩
  have hr := obj_keep HR0.out hb3
  have HBx := HB0.out.trans (hb3.mono HB0.out.size)
  have hd0 := obj_keep HD0.out.1 hb3
  have hd1 := obj_keep HD1.out.1 hb3
  have HE := Aside0.mk (And.intro hr (And.intro HBx (And.intro hd0 hd1)))
  have d2 := blk_cell hr 0
  have f2 := blk_frozen hr 0
  clear hr HBx hd0 hd1 hb3 HR0 HB0 HZ0
  go_wp2_with fail
  obtain ⟨hr, hBx, hd0, hd1⟩ := HE.out
  have h2 : (w1.setCell ⟨W.heap.size, 0, none⟩ (.bool true)).heap[W.heap.size]? = some (.cells #[.bool true] 4 (0, 0)) := blk_set hr 0 (.bool true)
  have h4 : Below W.heap.size W (w1.setCell ⟨W.heap.size, 0, none⟩ (.bool true)) := hBx.setCell (p := ⟨W.heap.size, 0, none⟩) (by simp) _
  have k0 := (KeepsOthers.setCell w1 ⟨W.heap.size, 0, none⟩ (.bool true)).same D0 _ hd0 rfl
  have k1 := (KeepsOthers.setCell w1 ⟨W.heap.size, 0, none⟩ (.bool true)).same D1 _ hd1 rfl
  generalize w1.setCell ⟨W.heap.size, 0, none⟩ (.bool true) = w5 at *
  have q2 : w5.cell? ⟨W.heap.size, 0, none⟩ = some (.bool true) := (blk_cell h2 0).trans rfl
  have k0' := put_other (o' := .deferred none) k0 HD0.out.2.2
  have p2 := _root_.Go.cell_kept q2 (grownBy_putObj' w5 D1 (.deferred none)) (fun r e => by cases e; exact ⟨_, k1, rfl⟩)
  have p3 := _root_.Go.cell_kept p2 (grownBy_putObj' _ D0 (.deferred none)) (fun r e => by cases e; exact ⟨_, k0', rfl⟩)
  refine ⟨by simp, .inl ⟨_, _, rfl, run_takeDeferred k1, ?_⟩⟩
  refine ⟨by simp, .inl ⟨_, _, rfl, run_takeDeferred k0', ?_⟩⟩
  refine ⟨.bool true, by simp [results, Try.f7, go_sem, p3], ?_⟩
  exact ⟨rfl, (h4.trans (belowK_b (w := W) (Nat.le_refl _) w5 D1 _ _ HD1.out.2 k1 rfl rfl)).trans (belowK_b (w := W) (Nat.le_refl _) _ D0 _ _ HD0.out.2.1 k0' rfl rfl)⟩
theorem none_w {W : World} (n : Int) (s : ByteArray) : Calls Try.prog 7 #[.int .i64 n, .string s] W fun e w' => e = .returned (.bool true) ∧ Below W.heap.size W w' := by
  by_cases h0 : n < 0
  · exact none_w0 n s h0
  · by_cases h1 : 1048576 ≤ n
    · exact none_w1 n s h0 h1
    · exact none_w2 n s (by omega) (by omega)
end Go.Proofs.Ytfehimoiccgahaa.S
