/-
  same: does a trie have these pairs.
-/
import Derived.Test.YtfehimoiccgahaaAllT
import Derived.Test.YtfehimoiccgahaaNoneW
namespace Go.Proofs.Ytfehimoiccgahaa.S
open Go.RowKit Go.Proofs.YtfehimoiccgahaaW Go.Proofs.YtfehimoiccgahaaW.PrintWords Go.Proofs.Ytfehimoiccgahaa Nd PTrieActs
set_option linter.unusedVariables false
set_option linter.unusedSimpArgs false
theorem txt_ne {a b : ByteArray} (h : ¬ a = b) : (a.toList == b.toList) = false := by
  rw [ByteArray.toList_eq, ByteArray.toList_eq]
  simp
  intro e
  exact h (by cases a; cases b; simp at e; subst e; rfl)
attribute [local go_sem] Oper.semAt_some
/-- A region that never panics. -/
def Calm (Q : Exit → Act → World → Prop) : Exit → Act → World → Prop
  | .normal, a, w => Q .normal a w
  | _, _, _ => False
theorem region_calm {P : Program} {c : Code} {Q : Exit → Act → World → Prop} {a : Act} {w : World} (h : c.wp P (Calm Q) a w) : c.wp P Q a w := wp_mono h fun e a w hq => by
  cases e <;> first | exact hq | exact hq.elim
/-- The boxes of same. -/
def SaB (W w : World) (A : Option Addr) (n c : Nat) (stop : Int) (b : Bool) : Prop := w.heap[W.heap.size]? = some (.cells #[.slice A n c] 38 (0, 0)) ∧ w.heap[W.heap.size + 1]? = some (.cells #[.int .i64 stop] 3 (0, 0)) ∧ w.heap[W.heap.size + 2]? = some (.cells #[.bool b] 4 (0, 0)) ∧ Below W.heap.size W w
theorem SaB.below {W w w' : World} {A : Option Addr} {n c : Nat} {stop : Int} {b : Bool} (h : SaB W w A n c stop b) (hb : Below w.heap.size w w') : SaB W w' A n c stop b :=
  ⟨obj_keep h.1 hb, obj_keep h.2.1 hb, obj_keep h.2.2.1 hb, h.2.2.2.trans (hb.mono h.2.2.2.size)⟩
/-- What same works on. -/
def SaS (W w : World) (A : Option Addr) (c : Nat) (l : List S79) (stop : Int) (p : Nat) (t : Nd ByteArray) : Prop := SaB W w A l.length c stop false ∧ Tr w p t ∧ Kd.C k79 w A l.length l
theorem SaS.below {W w w' : World} {A : Option Addr} {c : Nat} {l : List S79} {stop : Int} {p : Nat} {t : Nd ByteArray} (h : SaS W w A c l stop p t) (hb : Below w.heap.size w w') : SaS W w' A c l stop p t := ⟨h.1.below hb, h.2.1.below hb, Kd.C_below h.2.2 hb⟩
set_option maxHeartbeats 4000000 in
set_option maxRecDepth 100000 in
theorem same_c {W : World} {p c : Nat} {t : Nd ByteArray} {A : Option Addr} {l : List S79} (stop : Int) (h : Tr W p t) (hs : t.size ≤ 1000000) (hP : Prs l t) (hC : Kd.C k79 W A l.length l) (hc : l.length ≤ c) :
    Calls Try.prog 24 #[.pointer (some ⟨p, 0, none⟩), .slice A l.length c, .int .i64 stop] W fun e w' => e = .returned (.bool true) ∧ Below W.heap.size W w' := by
  have hlen := hP.length h.2.2.1
  have heq := hP.eq h.2.2.1
  obtain ⟨kn, hkn⟩ := nodes_f h.2.2.1 h.2.1 (by omega)
  rw [← heq] at hkn
  have HKN := Aside0.mk hkn
  have HLE := Aside0.mk hlen
  have HEQ := Aside0.mk heq
  have HC := Aside0.mk hc
  have gl : (l.length : Int) ≤ 1000000 := by omega
  have hb0 := (((Below.refl W.heap.size W).alloc (Nat.le_refl _) (.cells #[.slice A l.length c] 38)).alloc (by simp) (.cells #[.int .i64 stop] 3)).alloc (by simp; omega) (.cells #[.bool false] 4)
  have HS0 : Aside0 (SaS W (((W.alloc (.cells #[.slice A l.length c] 38)).alloc (.cells #[.int .i64 stop] 3)).alloc (.cells #[.bool false] 4)) A c l stop p t) := ⟨⟨by
    refine obj_keep (o := .cells #[.slice A l.length c] 38 (0, 0)) ?_ ((Below.refl _ _).alloc (Nat.le_refl _) _)
    exact heap_alloc2_old W _ _, by
    refine obj_keep (o := .cells #[.int .i64 stop] 3 (0, 0)) ?_ ((Below.refl _ _).alloc (Nat.le_refl _) _)
    exact heap_alloc2_new W _ _, by
    have := heap_alloc_new ((W.alloc (.cells #[.slice A l.length c] 38)).alloc (.cells #[.int .i64 stop] 3)) (.cells #[.bool false] 4)
    simpa using this, hb0⟩, h.below hb0, Kd.C_below hC hb0⟩
  clear hlen heq hkn hc hb0 h hs hP hC
  refine (callsIn_wide (n := 6)).1 ?_
  refine callsIn_of_wp_marks Try.func24 rfl trivial ?_ rfl
  simp only [Try.ntmps24, List.size_toArray, List.length_cons, List.length_nil, Nat.reduceAdd, Nat.reduceSub, Array.replicate_succ, Array.replicate_zero, List.push_toArray, List.append_toArray, List.nil_append, List.cons_append]
  refine wpIn_wide.2 ?_
  go_upto_region 1 with fail
  change Code.wp Try.prog _ _ _ (((W.alloc (.cells #[.slice A l.length c] 38)).alloc (.cells #[.int .i64 stop] 3)).alloc (.cells #[.bool false] 4))
  generalize ((W.alloc (.cells #[.slice A l.length c] 38)).alloc (.cells #[.int .i64 stop] 3)).alloc (.cells #[.bool false] 4) = w1 at *
  refine region_calm ?_
  refine PrintLast.start_ (n := 12) (S := fun w' => SaS W w' A c l stop p t) (ds := []) #[false, false, false, false, false, false, false, false, false, false, false, false] (by kernel_rfl) rfl rfl (HS0.out.below (below_drew (Below.refl _ _))) (fun hHeld => ?_)
  clear HS0
  generalize w1.drew = w4 at *
  refine PrintLast.pure_ (i := 0) (N := some 11) (v := ?_) (a' := ?_) #[true, false, false, false, false, false, false, false, false, false, false, false] rfl rfl (by kernel_rfl) (fun _ _ _ h => h) (Or.inl ⟨by rfl, ?_⟩) ?_ ?_
  rotate_left
  · intro w'
    go_simp
    with_reducible rfl
  rotate_left
  · simp only [Act.put, List.setIfInBounds_toArray, List.set_cons_zero, List.set_cons_succ]
    rfl
  refine PrintLast.take_ (i := 2) (N := some 13) (v := .slice A l.length c) (a' := ?_) #[true, false, true, false, false, false, false, false, false, false, false, false] rfl rfl (by kernel_rfl) (fun _ _ _ h => h) (Or.inl ⟨by rfl, ?_⟩) hHeld ?_ ?_
  · intro w' hS
    have hc2 := (blk_cell hS.1.1 0).trans rfl
    go_simp
  rotate_left
  · simp only [Act.put, List.setIfInBounds_toArray, List.set_cons_zero, List.set_cons_succ]
    rfl
  refine PrintLast.pure_ (i := 3) (N := some 14) (v := ?_) (a' := ?_) #[true, false, true, true, false, false, false, false, false, false, false, false] rfl rfl (by kernel_rfl) (fun _ _ _ h => h) (Or.inl ⟨by rfl, ?_⟩) ?_ ?_
  rotate_left
  · intro w'
    go_simp
    with_reducible rfl
  rotate_left
  · simp only [Act.put, List.setIfInBounds_toArray, List.set_cons_zero, List.set_cons_succ]
    rfl
  refine PrintLast.one_ (i := 1) (N := some 12) #[true, true, true, true, false, false, false, false, false, false, false, false] rfl rfl (by kernel_rfl) (by decide) (fun K hK => ?_)
  refine PrintLast.goes_ Try.func27 (by kernel_rfl) rfl #[.pointer (some ⟨p, 0, none⟩)] (by rfl) rfl rfl (by first | rfl | (simp only [List.map_toArray, List.map_cons, List.map_nil]; rfl)) ?_
  refine (len_c hHeld.2.1).mono ?_
  rintro e w5 ⟨rfl, rfl⟩
  refine ⟨_, rfl, ?_⟩
  rw [← HLE.out]
  refine hK.out _ _ (hHeld) (fun hHeld => ?_)
  clear hK K
  refine PrintLast.norm_ (a' := ?_) ?_ ?_
  rotate_left
  · show Act.put _ (some 12) _ = _
    simp only [Act.put, List.setIfInBounds_toArray, List.set_cons_zero, List.set_cons_succ]
    rfl
  refine PrintLast.pure_ (i := 4) (N := some 15) (v := ?_) (a' := ?_) #[true, true, true, true, true, false, false, false, false, false, false, false] rfl rfl (by kernel_rfl) (fun _ _ _ h => h) (Or.inl ⟨by rfl, ?_⟩) ?_ ?_
  rotate_left
  · intro w'
    go_simp
    with_reducible rfl
  rotate_left
  · simp only [Act.put, List.setIfInBounds_toArray, List.set_cons_zero, List.set_cons_succ]
    rfl
  refine PrintLast.pure_ (i := 5) (N := some 16) (v := ?_) (a' := ?_) #[true, true, true, true, true, true, false, false, false, false, false, false] rfl rfl (by kernel_rfl) (fun _ _ _ h => h) (Or.inl ⟨by rfl, ?_⟩) ?_ ?_
  rotate_left
  · intro w'
    go_simp
    with_reducible rfl
  rotate_left
  · simp only [Act.put, List.setIfInBounds_toArray, List.set_cons_zero, List.set_cons_succ]
    rfl
  refine PrintLast.pure_ (i := 6) (N := some 17) (v := ?_) (a' := ?_) #[true, true, true, true, true, true, true, false, false, false, false, false] rfl rfl (by kernel_rfl) (fun _ _ _ h => h) (Or.inl ⟨by rfl, ?_⟩) ?_ ?_
  rotate_left
  · intro w'
    go_simp
    with_reducible rfl
  rotate_left
  · simp only [Act.put, List.setIfInBounds_toArray, List.set_cons_zero, List.set_cons_succ]
    rfl
  refine PrintLast.take_ (i := 8) (N := some 19) (v := .slice A l.length c) (a' := ?_) #[true, true, true, true, true, true, true, false, true, false, false, false] rfl rfl (by kernel_rfl) (fun _ _ _ h => h) (Or.inl ⟨by rfl, ?_⟩) hHeld ?_ ?_
  · intro w' hS
    have hc2 := (blk_cell hS.1.1 0).trans rfl
    go_simp
  rotate_left
  · simp only [Act.put, List.setIfInBounds_toArray, List.set_cons_zero, List.set_cons_succ]
    rfl
  refine PrintLast.one_ (i := 7) (N := some 18) #[true, true, true, true, true, true, true, true, true, false, false, false] rfl rfl (by kernel_rfl) (by decide) (fun K hK => ?_)
  refine PrintLast.goes_ Try.func28 (by kernel_rfl) rfl #[.pointer (some ⟨p, 0, none⟩)] (by rfl) rfl rfl (by first | rfl | (simp only [List.map_toArray, List.map_cons, List.map_nil]; rfl)) ?_
  refine (nodes_c hHeld.2.1).mono ?_
  rintro e w5 ⟨rfl, rfl⟩
  refine ⟨_, rfl, ?_⟩
  skip
  refine hK.out _ _ (hHeld) (fun hHeld => ?_)
  clear hK K
  refine PrintLast.norm_ (a' := ?_) ?_ ?_
  rotate_left
  · show Act.put _ (some 18) _ = _
    simp only [Act.put, List.setIfInBounds_toArray, List.set_cons_zero, List.set_cons_succ]
    rfl
  refine PrintLast.one_ (i := 9) (N := some 20) #[true, true, true, true, true, true, true, true, true, true, false, false] rfl rfl (by kernel_rfl) (by decide) (fun K hK => ?_)
  refine PrintLast.goes_ Try.func35 (by kernel_rfl) rfl #[.slice A l.length c] (by rfl) rfl rfl (by first | rfl | (simp only [List.map_toArray, List.map_cons, List.map_nil]; rfl)) ?_
  refine (gouacheref06_Nodes.calls kn A c l _ _ hHeld.2.2 HC.out HKN.out).mono ?_
  rintro e w5 ⟨rfl, hb⟩
  refine ⟨_, rfl, ?_⟩
  skip
  refine hK.out _ _ (hHeld.below hb) (fun hHeld => ?_)
  clear hK K
  refine PrintLast.norm_ (a' := ?_) ?_ ?_
  rotate_left
  · show Act.put _ (some 20) _ = _
    simp only [Act.put, List.setIfInBounds_toArray, List.set_cons_zero, List.set_cons_succ]
    rfl
  refine PrintLast.pure_ (i := 10) (N := some 21) (v := ?_) (a' := ?_) #[true, true, true, true, true, true, true, true, true, true, true, false] rfl rfl (by kernel_rfl) (fun _ _ _ h => h) (Or.inl ⟨by rfl, ?_⟩) ?_ ?_
  rotate_left
  · intro w'
    go_simp
    with_reducible rfl
  rotate_left
  · simp only [Act.put, List.setIfInBounds_toArray, List.set_cons_zero, List.set_cons_succ]
    rfl
  refine PrintLast.pure_ (i := 11) (N := some 22) (v := ?_) (a' := ?_) #[true, true, true, true, true, true, true, true, true, true, true, true] rfl rfl (by kernel_rfl) (fun _ _ _ h => h) (Or.inl ⟨by rfl, ?_⟩) ?_ ?_
  rotate_left
  · intro w'
    go_simp
    with_reducible rfl
  rotate_left
  · simp only [Act.put, List.setIfInBounds_toArray, List.set_cons_zero, List.set_cons_succ]
    rfl
  refine PrintLast.done_ (by kernel_rfl) ?_
  simp only [Calm]
  go_wp2_with fail
  refine (all_c _).mono ?_
  rintro e w6 ⟨rfl, rfl⟩
  have HBX := Aside0.mk (heap_alloc_new w5 (.cells #[.pointer (some ⟨p, 0, none⟩)] 36))
  have HS6 := Aside0.mk (hHeld.below ((Below.refl w5.heap.size w5).alloc (Nat.le_refl _) (.cells #[.pointer (some ⟨p, 0, none⟩)] 36)))
  clear hHeld
  obtain ⟨bx, hbx⟩ : ∃ bx, w5.heap.size = bx := ⟨_, rfl⟩
  rw [hbx] at HBX ⊢
  clear hbx
  obtain ⟨w6, hw6⟩ : ∃ w6, w5.alloc (.cells #[.pointer (some ⟨p, 0, none⟩)] 36) = w6 := ⟨_, rfl⟩
  rw [hw6] at HBX HS6 ⊢
  clear hw6
  have hfn := fun_nil bx w6
  go_wp2_with fail
  clear hfn
  have HCX := Aside0.mk (heap_alloc_new w6 (.cells #[.int .i64 0] 3))
  have HB7 := Aside0.mk ((Below.refl w6.heap.size w6).alloc (Nat.le_refl _) (.cells #[.int .i64 0] 3))
  trace_state
  refine (wpIn_wide (n := 6)).1 ?_
  refine wpIn_rangeFunc_ownF (F := Fence.wide) (n := 6) rfl (by decide) (gf := 37) (lb := #[.pointer (some ⟨bx, 0, none⟩)]) rfl trivial (enters_of Try.func37 (by kernel_rfl) rfl)
    (w0 := w6) (all_stops HS6.out.2.1 ((blk_cell HBX.out 0).trans rfl)) belowK_t (belowK_b (by simp)) HB7.out (fun e => rfl)
    (fun pre W' => pre <+: flat t 0 ∧ Below w6.heap.size w6 W' ∧ W'.heap[w6.heap.size]? = some (.cells #[.int .i64 (pre.length : Int)] 3 (0, 0)))
    (fun c pre W' => c = .ret ∧ (¬ pre <+: flat t 0 ∨ (Below W.heap.size W W' ∧ W'.heap[W.heap.size + 2]? = some (.cells #[.bool true] 4 (0, 0)))))
    ?ownI ?ownX ⟨List.nil_prefix, HB7.out, HCX.out⟩ (fun x => { tmps := #[.pointer (some ⟨p, 0, none⟩), .slice A l.length c, .int .i64 stop, undef, .pointer (some ⟨W.heap.size, 0, none⟩), .pointer (some ⟨W.heap.size + 1, 0, none⟩), .pointer (some ⟨W.heap.size + 1 + 1, 0, none⟩), .func (.func 37) #[] #[.pointer (some ⟨bx, 0, none⟩)], .pointer (some ⟨w6.heap.size, 0, none⟩), .int .i64 (x.1 : Int), .string x.2, .pointer (some ⟨p, 0, none⟩), .int .i64 (l.length : Int), .slice A l.length c, .int .i64 (l.length : Int), .bool false, .bool false, .pointer (some ⟨p, 0, none⟩), .int .i64 (Nd.frsh .nil t), .slice A l.length c, .int .i64 (Nd.frsh .nil t), .bool false, .bool false, .pointer (some ⟨p, 0, none⟩), .func (.func 37) #[] #[.pointer (some ⟨bx, 0, none⟩)], .func (.func 37) #[] #[.pointer (some ⟨bx, 0, none⟩)], .bool false, .func (.func 37) #[] #[.pointer (some ⟨bx, 0, none⟩)], .int .i64 (x.1 : Int), .string x.2, undef, undef, undef, undef, undef, undef, undef, undef, undef, undef, undef, undef, undef, undef, undef, undef, undef, undef, undef, undef, undef, undef, undef, undef, undef, undef, undef, undef, undef, undef, undef], defers := [] }) ?assign ?body ?done ?stop
  case ownI => exact OwnFrom.and (ownFrom_pure _ _) (OwnFrom.and (ownFrom_below (Nat.le_refl _) (by simp)) ((boxed_own w6.heap.size 3 (fun pre : List (Nat × ByteArray) => .int .i64 (pre.length : Int))).from _))
  case ownX =>
    exact fun c2 => OwnFrom.and (ownFrom_pure _ _) (fun s2 X Y row hs hg hr => hs.imp id (fun hh => ⟨ownFrom_below (β := Unit) (w₀ := W) (Nat.le_refl _) (by have := HS6.out.1.2.2.2.size; simp; omega) () X Y row hh.1 hg hr,
      (boxed_own (W.heap.size + 2) 4 (fun _ : Unit => .bool true)).from (w6.alloc (.cells #[.int .i64 0] 3)).heap.size () X Y row hh.2 hg hr⟩))
  case assign =>
    intro l2 x W' K hK
    gi_wp2
    exact hK
  case body =>
    rintro l2 pre x W' ⟨hp, hb, hcx⟩ hlt
    have HSw := Aside0.mk (HS6.out.below hb)
    obtain ⟨⟨b0, b1, b2, b3⟩, _, hC⟩ := HSw.out
    have c0 : W'.cell? ⟨W.heap.size, 0, none⟩ = some (.slice A l.length c) := (blk_cell b0 0).trans rfl
    have c1 : W'.cell? ⟨W.heap.size + 1, 0, none⟩ = some (.int .i64 stop) := (blk_cell b1 0).trans rfl
    have c2 : W'.cell? ⟨W.heap.size + 1 + 1, 0, none⟩ = some (.bool false) := (blk_cell b2 0).trans rfl
    have f2 := blk_frozen b2 0
    have cc : W'.cell? ⟨w6.heap.size, 0, none⟩ = some (.int .i64 (pre.length : Int)) := (blk_cell hcx 0).trans rfl
    have fc := blk_frozen hcx 0
    have hl : l.length = (flat t 0).length := by rw [HEQ.out]; simp [prs]
    obtain ⟨ad, rfl, e0, e1⟩ := at_T79 hC (pre.length : Int) (by omega) (by omega)
    rw [rd79_at l pre.length (by omega), Int.toNat_natCast] at e0 e1
    obtain ⟨y, hy⟩ : ∃ y, (flat t 0)[pre.length]'hlt = y := ⟨_, rfl⟩
    have hly : l[pre.length]'(by omega) = pr79 y := by
      have : ∀ (l2 : List S79) (h2 : l2 = prs t) (hb : pre.length < l2.length), l2[pre.length] = pr79 y := fun l2 h2 hb => by
        subst h2
        simp only [prs, List.getElem_map]
        rw [hy]
      exact this l HEQ.out (by omega)
    rw [hly] at e0 e1
    replace e0 : W'.cell? (ad.add (pre.length * 2)) = some (.int .i64 (y.1 : Int)) := e0
    replace e1 : W'.cell? ⟨(ad.add (pre.length * 2)).block, (ad.add (pre.length * 2)).off + 1, none⟩ = some (.string y.2) := e1
    have HPX : Aside0 (pre ++ [x] <+: flat t 0 ↔ y = x) := ⟨by
      obtain ⟨q, hq⟩ := hp
      constructor
      · rintro ⟨q2, hq2⟩
        have h1 : (flat t 0)[pre.length]? = some x := by rw [← hq2]; simp
        rw [List.getElem?_eq_getElem hlt, hy] at h1
        injection h1
      · intro e
        subst e
        have h1 : (flat t 0).take (pre.length + 1) = pre ++ [y] := by
          rw [List.take_succ_eq_append_getElem hlt, hy, ← hq]
          simp
        rw [← h1]
        exact List.take_prefix _ _⟩
    have g1 : (pre.length : Int) < (l.length : Int) := by omega
    have HH := Aside0.mk (And.intro hp (And.intro hb (And.intro hcx (And.intro b2 b3))))
    clear hp hb hcx b0 b1 b2 b3 hC hlt hy hly hl
    by_cases hst : (pre.length : Int) = stop
    · have d0 : ((pre.length : Int) == stop) = true := by simp [hst]
      have HST := Aside0.mk hst
      clear hst
      gi_wp2_with fail
      obtain ⟨hp, hb, hcx, b2, b3⟩ := HH.out
      exact ⟨KeepsOthers.setCell _ _ _, rfl, .inr ⟨b3.setCell (p := ⟨W.heap.size + 1 + 1, 0, none⟩) (by simp; omega) _, blk_set b2 0 (.bool true)⟩⟩
    · have d0 : ((pre.length : Int) == stop) = false := by simp [hst]
      clear hst
      by_cases h1 : (y.1 : Int) = (x.1 : Int)
      · have d1 : ((y.1 : Int) == (x.1 : Int)) = true := by simp [h1]
        by_cases h2 : y.2 = x.2
        · have HXY : Aside0 (y = x) := ⟨Prod.ext (Int.ofNat_inj.1 h1) h2⟩
          have hw : wrap64 ((pre.length : Int) + 1) = (pre.length : Int) + 1 := IntWalk.wrap64_in _ (by omega)
          gi_wp2_with fail
          obtain ⟨hp, hb, hcx, b2, b3⟩ := HH.out
          have hb2 : Below w6.heap.size W' (W'.setCell ⟨w6.heap.size, 0, none⟩ (.int .i64 ((pre.length : Int) + 1))) := (Below.refl _ _).setCell (p := ⟨w6.heap.size, 0, none⟩) (by simp) _
          refine ⟨KeepsOthers.setCell _ _ _, hb2, HPX.out.2 HXY.out, hb.trans hb2, ?_⟩
          have := blk_set hcx 0 (.int .i64 ((pre.length : Int) + 1))
          rw [List.length_append]
          exact this
        · have d2 := txt_ne h2
          gi_wp2_with fail
          exact ⟨KeepsOthers.setCell _ _ _, rfl, .inl (fun hh => h2 (by rw [HPX.out.1 hh]))⟩
      · have d1 : ((y.1 : Int) == (x.1 : Int)) = false := by simp [h1]
        gi_wp2_with fail
        exact ⟨KeepsOthers.setCell _ _ _, rfl, .inl (fun hh => h1 (by rw [HPX.out.1 hh]))⟩
  case done =>
    rintro D xs w8 hD rfl ⟨_, hb, hcx⟩ hK
    have HD := Aside0.mk (Nat.le_trans HS6.out.1.2.2.2.size (Nat.le_trans HB7.out.size hD))
    obtain ⟨⟨b0, b1, b2, b3⟩, _, _⟩ := HS6.out.below hb
    have hl : (flat t 0).length = l.length := by rw [HEQ.out]; simp [prs]
    rw [hl] at hcx
    have c0 : w8.cell? ⟨W.heap.size, 0, none⟩ = some (.slice A l.length c) := (blk_cell b0 0).trans rfl
    have c2 : w8.cell? ⟨W.heap.size + 1 + 1, 0, none⟩ = some (.bool false) := (blk_cell b2 0).trans rfl
    have f2 := blk_frozen b2 0
    have cc : w8.cell? ⟨w6.heap.size, 0, none⟩ = some (.int .i64 (l.length : Int)) := (blk_cell hcx 0).trans rfl
    have HH := Aside0.mk (And.intro b2 (And.intro b3 hK))
    clear b0 b1 b2 b3 hb hcx hK hD hl
    gi_wp2
    go_wp2_with fail
    obtain ⟨b2, b3, hK⟩ := HH.out
    have h2 : (w8.setCell ⟨W.heap.size + 1 + 1, 0, none⟩ (.bool true)).heap[W.heap.size + 2]? = some (.cells #[.bool true] 4 (0, 0)) := blk_set b2 0 (.bool true)
    have h4 : Below W.heap.size W (w8.setCell ⟨W.heap.size + 1 + 1, 0, none⟩ (.bool true)) := b3.setCell (p := ⟨W.heap.size + 1 + 1, 0, none⟩) (by simp; omega) _
    have hK4 := (KeepsOthers.setCell w8 ⟨W.heap.size + 1 + 1, 0, none⟩ (.bool true)).same D _ hK rfl
    generalize w8.setCell ⟨W.heap.size + 1 + 1, 0, none⟩ (.bool true) = w9 at *
    have q2 : w9.cell? ⟨W.heap.size + 1 + 1, 0, none⟩ = some (.bool true) := (blk_cell h2 0).trans rfl
    have p2 := _root_.Go.cell_kept q2 (grownBy_putObj' w9 D (.deferred none)) (fun r e => by cases e; exact ⟨_, hK4, rfl⟩)
    refine ⟨by simp, .inl ⟨_, _, rfl, run_takeDeferred hK4, ?_⟩⟩
    refine ⟨.bool true, by simp [results, Try.f24, go_sem, p2], ?_⟩
    exact ⟨rfl, h4.trans (belowK_b (w := W) (Nat.le_refl _) w9 D _ _ HD.out hK4 rfl rfl)⟩
  case stop =>
    rintro D c1 pre w8 hD hpre ⟨rfl, hx⟩ hK
    have HX := Aside0.mk (hx.resolve_left (fun hn => hn hpre))
    have HK := Aside0.mk hK
    have HD := Aside0.mk (Nat.le_trans HS6.out.1.2.2.2.size (Nat.le_trans HB7.out.size hD))
    clear hD hpre hx hK
    gi_wp2
    obtain ⟨hb, hr⟩ := HX.out
    have hK := HK.out
    generalize w8 = w9 at *
    have q2 : w9.cell? ⟨W.heap.size + 1 + 1, 0, none⟩ = some (.bool true) := (blk_cell hr 0).trans rfl
    have p2 := _root_.Go.cell_kept q2 (grownBy_putObj' w9 D (.deferred none)) (fun r e => by cases e; exact ⟨_, hK, rfl⟩)
    refine ⟨by simp, .inl ⟨_, _, rfl, run_takeDeferred hK, ?_⟩⟩
    refine ⟨.bool true, by simp [results, Try.f24, go_sem, p2], ?_⟩
    exact ⟨rfl, hb.trans (belowK_b (w := W) (Nat.le_refl _) w9 D _ _ HD.out hK rfl rfl)⟩
end Go.Proofs.Ytfehimoiccgahaa.S
