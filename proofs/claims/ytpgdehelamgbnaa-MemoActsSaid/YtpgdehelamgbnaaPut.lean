/-
  (*Table).Put: an entry into the first empty cell, if none is its own.
-/
import Derived.Test.YtpgdehelamgbnaaGet
namespace Go.Proofs.Ytpgdehelamgbnaa
open Go.RowKit Go.Proofs.YtpgdehelamgbnaaW Go.Proofs.YtpgdehelamgbnaaW.PrintWords PMemoActs
set_option linter.unusedVariables false
set_option linter.unusedSimpArgs false
attribute [local go_sem] Oper.semAt_some
/-- The boxes of Put: the table's pointer, the entry, the result. -/
def PutS (W : World) (x : Option Addr) (y : S31) (A : Option Addr) (c : Nat) (F : Nat → Prop) (q : Nat) (L : List (Option (Nat × S31))) (w : World) : Prop :=
  w.heap[W.heap.size]? = some (.cells #[.pointer x] 24 (0, 0)) ∧ w.heap[W.heap.size + 1]? = some (.cells #[.int .i64 y.f0, .int .i64 y.f1, .slice A y.f2.length c] 31 (0, 0)) ∧ w.heap[W.heap.size + 2]? = some (.cells #[.bool false] 4 (0, 0)) ∧ Tb w F x q L ∧ Below W.heap.size W w
theorem PutS.below {W : World} {x : Option Addr} {y : S31} {A : Option Addr} {c : Nat} {F : Nat → Prop} {q : Nat} {L : List (Option (Nat × S31))} {w w' : World} (h : PutS W x y A c F q L w) (hb : Below w.heap.size w w') : PutS W x y A c F q L w' :=
  ⟨(hb.block _ (blk_lt h.1)).trans h.1, (hb.block _ (blk_lt h.2.1)).trans h.2.1, (hb.block _ (blk_lt h.2.2.1)).trans h.2.2.1, h.2.2.2.1.below hb, below_step h.2.2.2.2 hb⟩
/-- The types of a table's blocks. -/
def tbT (t : TypeId) : Bool := t == 31 || t == 60 || t == 76 || t == 9
/-- What lies in cells of these types stays: so do an entry and a table. -/
theorem En.step2 {w w' : World} {F : Nat → Prop} {b : Nat} {y : S31} (h : En w F b y) (hm : ∀ (k : Nat) (cs : Array Value) (t : TypeId), tbT t = true → w.heap[k]? = some (.cells cs t (0, 0)) → w'.heap[k]? = w.heap[k]?) : En w' F b y := by
  obtain ⟨v, hb, hf, ho, hv⟩ := h
  exact ⟨v, (hm b _ _ rfl hb).trans hb, hf, own_move ho (fun k hk => by obtain ⟨cs, hc⟩ := own_typed ho k hk; exact hm k _ _ rfl hc), hv⟩
theorem Tb.step2 {w w' : World} {F : Nat → Prop} {x : Option Addr} {q : Nat} {L : List (Option (Nat × S31))} (h : Tb w F x q L) (hm : ∀ (k : Nat) (cs : Array Value) (t : TypeId), tbT t = true → w.heap[k]? = some (.cells cs t (0, 0)) → w'.heap[k]? = w.heap[k]?) : Tb w' F x q L := by
  obtain ⟨hl, he, h⟩ := h
  refine ⟨hl, fun b y hy => (he b y hy).step2 hm, ?_⟩
  rcases h with h | ⟨p, A, c, is, hx, hp, hb, hq⟩
  · exact .inl h
  · refine .inr ⟨p, A, c, is, hx, hp, (hm p _ _ rfl hb).trans hb, fun hn => ?_⟩
    obtain ⟨h1, h2, h3, h4⟩ := hq hn
    exact ⟨h1, h2, h3, (hm q _ _ rfl h4).trans h4⟩
theorem grown_cells {w w' : World} {row : Option Nat} {B : Nat} (hg : w.grownBy w' row) (hr : ∀ r, row = some r → B ≤ r ∧ ∃ o : Obj, w.heap[r]? = some o ∧ o.isCells = false) : ∀ (k : Nat) (cs : Array Value) (t : TypeId), tbT t = true → w.heap[k]? = some (.cells cs t (0, 0)) → w'.heap[k]? = w.heap[k]? := fun k cs t _ hk =>
  hg.block k (blk_lt hk) (fun e => by
    obtain ⟨_, o, ho, hc⟩ := hr k e.symm
    rw [hk] at ho
    cases ho
    cases hc)
/-- A store into a block of another type. -/
theorem Tb.far {w : World} {F : Nat → Prop} {x : Option Addr} {q : Nat} {L : List (Option (Nat × S31))} (h : Tb w F x q L) {g t : Nat} {cs : Array Value} (hg : w.heap[g]? = some (.cells cs t (0, 0))) (ht : tbT t = false) (i : Nat) (u : Value) : Tb (w.setCell ⟨g, i, none⟩ u) F x q L :=
  h.step2 fun k cs' t' ht' hk => Below.heap_setCell w ⟨g, i, none⟩ u k (blk_ne hk hg (fun e => by subst e; rw [ht] at ht'; cases ht'))
theorem ownFrom_tb {β : Type} (B : Nat) (F : Nat → Prop) (x : Option Addr) (q : Nat) (L : List (Option (Nat × S31))) : OwnFrom B (fun (_ : β) W => Tb W F x q L) := fun _ _ _ _ hs hg hr => hs.step2 (grown_cells hg hr)
theorem ownFrom_fr {β : Type} {B : Nat} (S : Nat → Prop) {W : World} (hB : W.heap.size ≤ B) : OwnFrom B (fun (_ : β) W' => Fr S W W') := fun _ _ _ _ hs hg hr => hs.grown hg (fun k e => Or.inr (Nat.le_trans hB (hr k e).1))
theorem keeps_fr {W W' : World} {q : Nat} {cs : Array Value} {t : TypeId} (h : Fr (fun k => k = q) W W') (hq : W.heap[q]? = some (.cells cs t (0, 0))) : KeepsOthers W W' := ⟨h.size, fun k o hk ho => (h.block k (blk_lt hk) (fun e => by
  subst e
  rw [hq] at hk
  cases hk
  cases ho)).trans hk⟩
/-- What Put leaves. -/
def PutP (W : World) (F : Nat → Prop) (x : Option Addr) (q : Nat) (L : List (Option (Nat × S31))) (y : S31) (r : Hit) (e : Ending) (w' : World) : Prop :=
  match r with
  | .free i => e = .returned (.bool true) ∧ (∃ g, Tb w' (fun k => F k ∨ W.heap.size ≤ k) x q (L.set i (some (g, y)))) ∧ Fr (fun k => k = q) W w'
  | _ => e = .returned (.bool false) ∧ Below W.heap.size W w'
/-- A round that has put the entry. -/
def PutR (W : World) (F : Nat → Prop) (x : Option Addr) (q : Nat) (L : List (Option (Nat × S31))) (y : S31) (pre : List (Fin L.length)) (W' : World) : Prop :=
  ∃ (i : Fin L.length) (g : Nat), (∃ pre0, pre = pre0 ++ [i] ∧ (∀ j ∈ pre0, Passed y.f0 y.f1 L j) ∧ L[i.val] = none) ∧ W'.heap[W.heap.size + 2]? = some (.cells #[.bool true] 4 (0, 0)) ∧
    Tb W' (fun k => F k ∨ W.heap.size ≤ k) x q (L.set i.val (some (g, y))) ∧ Fr (fun k => k = q) W W'
/-- A round that has come to an entry for the same. -/
def PutE (W0 : World) (L : List (Option (Nat × S31))) (y : S31) (pre : List (Fin L.length)) (W' : World) : Prop :=
  (∃ pre0 i b z, pre = pre0 ++ [i] ∧ (∀ j ∈ pre0, Passed y.f0 y.f1 L j) ∧ L[i.val] = some (b, z) ∧ keyed y.f0 y.f1 z = true) ∧ Below W0.heap.size W0 W'
theorem putR_own {W : World} {F : Nat → Prop} {x : Option Addr} {q : Nat} {L : List (Option (Nat × S31))} {y : S31} {B : Nat} (hB : W.heap.size ≤ B) : OwnFrom B (PutR W F x q L y) :=
  ownFrom_ex fun i => ownFrom_ex fun g => OwnFrom.and (ownFrom_pure _ _) (OwnFrom.and (ownFrom_blk _ _ _ _) (OwnFrom.and (ownFrom_tb _ _ _ _ _) (ownFrom_fr _ hB)))
theorem putE_own {W : World} {L : List (Option (Nat × S31))} {y : S31} : OwnFrom W.heap.size (PutE W L y) := OwnFrom.and (ownFrom_pure _ _) (ownFrom_below (Nat.le_refl _) (Nat.le_refl _))
/-- A region that never panics. -/
def Calm (Q : Exit → Act → World → Prop) : Exit → Act → World → Prop
  | .normal, a, w => Q .normal a w
  | _, _, _ => False
theorem region_calm {P : Program} {c : Code} {Q : Exit → Act → World → Prop} {a : Act} {w : World} (h : c.wp P (Calm Q) a w) : c.wp P Q a w := wp_mono h fun e a w hq => by
  cases e <;> first | exact hq | exact hq.elim
section
variable {W : World} {F : Nat → Prop} {x : Option Addr} {q : Nat} {L : List (Option (Nat × S31))} {y : S31} {A : Option Addr} {c : Nat}
set_option maxHeartbeats 2000000 in
set_option maxRecDepth 100000 in
theorem put_c (h : Tb W F x q L) (hs : Kd.C Kd.string W A y.f2.length y.f2) (hn : y.f2.length ≤ 8796093022200) :
    Calls Try.prog 11 #[.pointer x, .agg #[.int .i64 y.f0, .int .i64 y.f1, .slice A y.f2.length c]] W (PutP W F x q L y (scan y.f0 y.f1 (line (absT L) (homeN L.length y.f0 y.f1)))) := by
  obtain ⟨hh1, hh2⟩ := homeN_spec L.length y.f0 y.f1 h.1
  have HH1 := Aside0.mk hh1
  have HH2 := Aside0.mk hh2
  have HN := Aside0.mk hn
  have hA := allocs_get [.cells #[.pointer x] 24, .cells #[.int .i64 y.f0, .int .i64 y.f1, .slice A y.f2.length c] 31, .cells #[.bool false] 4] W
  have hB0 := allocs_below [.cells #[.pointer x] 24, .cells #[.int .i64 y.f0, .int .i64 y.f1, .slice A y.f2.length c] 31, .cells #[.bool false] 4] W
  have HP0 : Aside0 (PutS W x y A c F q L (allocs W [.cells #[.pointer x] 24, .cells #[.int .i64 y.f0, .int .i64 y.f1, .slice A y.f2.length c] 31, .cells #[.bool false] 4])) := ⟨hA 0 (by simp), hA 1 (by simp), hA 2 (by simp), h.below hB0, hB0⟩
  have HS0 := Aside0.mk (Kd.C_below hs hB0)
  clear h hs hn hh1 hh2 hA hB0
  refine (callsIn_wide (n := 6)).1 ?_
  refine callsIn_of_wp_marks Try.func11 rfl trivial ?_ rfl
  simp only [Try.ntmps11, List.size_toArray, List.length_cons, List.length_nil, Nat.reduceAdd, Nat.reduceSub, Array.replicate_succ, Array.replicate_zero, List.push_toArray, List.append_toArray, List.nil_append, List.cons_append]
  refine wpIn_wide.2 ?_
  go_wp2_with fail
  obtain ⟨w3, hw3⟩ : ∃ w3, ((W.alloc (.cells #[.pointer x] 24)).alloc (.cells #[.int .i64 y.f0, .int .i64 y.f1, .slice A y.f2.length c] 31)).alloc (.cells #[.bool false] 4) = w3 := ⟨_, rfl⟩
  change Aside0 (PutS W x y A c F q L (((W.alloc (.cells #[.pointer x] 24)).alloc (.cells #[.int .i64 y.f0, .int .i64 y.f1, .slice A y.f2.length c] 31)).alloc (.cells #[.bool false] 4))) at HP0
  change Aside0 (Kd.string.C (((W.alloc (.cells #[.pointer x] 24)).alloc (.cells #[.int .i64 y.f0, .int .i64 y.f1, .slice A y.f2.length c] 31)).alloc (.cells #[.bool false] 4)) A y.f2.length y.f2) at HS0
  rw [hw3] at HP0 HS0 ⊢
  clear hw3
  refine region_calm ?_
  refine PrintLast.start_ (n := 8) (S := fun w' => PutS W x y A c F q L w' ∧ Kd.C Kd.string w' A y.f2.length y.f2) (ds := []) #[false, false, false, false, false, false, false, false] (by kernel_rfl) rfl rfl (⟨HP0.out.below (below_drew (Below.refl _ _)), Kd.C_below HS0.out (below_drew (Below.refl _ _))⟩) (fun hHeld => ?_)
  clear HP0 HS0
  generalize w3.drew = w4 at *
  refine PrintLast.take_ (i := 0) (N := some 7) (v := .pointer x) (a' := ?_) #[true, false, false, false, false, false, false, false] rfl rfl (by kernel_rfl) (fun _ _ _ h => h) (Or.inl ⟨by rfl, ?_⟩) hHeld ?_ ?_
  · intro w' hS
    have hc2 := (blk_cell hS.1.1 0).trans rfl
    go_simp
  rotate_left
  · simp only [Act.put, List.setIfInBounds_toArray, List.set_cons_zero, List.set_cons_succ]
    rfl
  refine PrintLast.take_ (i := 1) (N := some 8) (v := .pointer x) (a' := ?_) #[true, true, false, false, false, false, false, false] rfl rfl (by kernel_rfl) (fun _ _ _ h => h) (Or.inl ⟨by rfl, ?_⟩) hHeld ?_ ?_
  · intro w' hS
    have hc2 := (blk_cell hS.1.1 0).trans rfl
    go_simp
  rotate_left
  · simp only [Act.put, List.setIfInBounds_toArray, List.set_cons_zero, List.set_cons_succ]
    rfl
  refine PrintLast.pure_ (i := 2) (N := some 9) (v := ?_) (a' := ?_) #[true, true, true, false, false, false, false, false] rfl rfl (by kernel_rfl) (fun _ _ _ h => h) (Or.inl ⟨by rfl, ?_⟩) ?_ ?_
  rotate_left
  · intro w'
    go_simp
    with_reducible rfl
  rotate_left
  · simp only [Act.put, List.setIfInBounds_toArray, List.set_cons_zero, List.set_cons_succ]
    rfl
  refine PrintLast.take_ (i := 3) (N := some 10) (v := .int .i64 y.f0) (a' := ?_) #[true, true, true, true, false, false, false, false] rfl rfl (by kernel_rfl) (fun _ _ _ h => h) (Or.inl ⟨by rfl, ?_⟩) hHeld ?_ ?_
  · intro w' hS
    have hc2 := (blk_cell hS.1.2.1 0).trans rfl
    go_simp
  rotate_left
  · simp only [Act.put, List.setIfInBounds_toArray, List.set_cons_zero, List.set_cons_succ]
    rfl
  refine PrintLast.pure_ (i := 4) (N := some 11) (v := ?_) (a' := ?_) #[true, true, true, true, true, false, false, false] rfl rfl (by kernel_rfl) (fun _ _ _ h => h) (Or.inl ⟨by rfl, ?_⟩) ?_ ?_
  rotate_left
  · intro w'
    go_simp
    with_reducible rfl
  rotate_left
  · simp only [Act.put, List.setIfInBounds_toArray, List.set_cons_zero, List.set_cons_succ]
    rfl
  refine PrintLast.take_ (i := 5) (N := some 12) (v := .int .i64 y.f1) (a' := ?_) #[true, true, true, true, true, true, false, false] rfl rfl (by kernel_rfl) (fun _ _ _ h => h) (Or.inl ⟨by rfl, ?_⟩) hHeld ?_ ?_
  · intro w' hS
    have hc2 := (blk_cell hS.1.2.1 1).trans rfl
    go_simp
  rotate_left
  · simp only [Act.put, List.setIfInBounds_toArray, List.set_cons_zero, List.set_cons_succ]
    rfl
  refine PrintLast.one_ (i := 6) (N := some 13) #[true, true, true, true, true, true, true, false] rfl rfl (by kernel_rfl) (by decide) (fun K hK => ?_)
  refine PrintLast.goes_ Try.func16 (by kernel_rfl) rfl #[.pointer x, .int .i64 y.f0, .int .i64 y.f1] (by rfl) rfl rfl (by first | rfl | (simp only [List.map_toArray, List.map_cons, List.map_nil]; rfl)) ?_
  refine (home_c hHeld.1.2.2.2.1 y.f0 y.f1).mono ?_
  rintro e w5 ⟨rfl, rfl⟩
  refine ⟨_, rfl, ?_⟩
  rw [HH1.out]
  refine hK.out _ _ (hHeld) (fun hHeld => ?_)
  clear hK K
  refine PrintLast.norm_ (a' := ?_) ?_ ?_
  rotate_left
  · show Act.put _ (some 13) _ = _
    simp only [Act.put, List.setIfInBounds_toArray, List.set_cons_zero, List.set_cons_succ]
    rfl
  refine PrintLast.one_ (i := 7) (N := some 14) #[true, true, true, true, true, true, true, true] rfl rfl (by kernel_rfl) (by decide) (fun K hK => ?_)
  refine PrintLast.goes_ Try.func29 (by kernel_rfl) rfl #[.pointer x, .int .i64 (homeN L.length y.f0 y.f1 : Int)] (by rfl) rfl rfl (by first | rfl | (simp only [List.map_toArray, List.map_cons, List.map_nil]; rfl)) ?_
  refine (from_c x _).mono ?_
  rintro e w5 ⟨rfl, rfl⟩
  refine ⟨_, rfl, ?_⟩
  have hb := allocs_below [.cells #[.pointer x] 24, .cells #[.int .i64 (homeN L.length y.f0 y.f1 : Int)] 3] w4
  refine hK.out _ _ (⟨hHeld.1.below hb, Kd.C_below hHeld.2 hb⟩) (fun hHeld => ?_)
  clear hK K
  refine PrintLast.norm_ (a' := ?_) ?_ ?_
  rotate_left
  · show Act.put _ (some 14) _ = _
    simp only [Act.put, List.setIfInBounds_toArray, List.set_cons_zero, List.set_cons_succ]
    rfl
  refine PrintLast.done_ (by kernel_rfl) ?_
  simp only [Calm]
  go_wp2_with fail
  obtain ⟨hm, hmv⟩ : ∃ hm, homeN L.length y.f0 y.f1 = hm := ⟨_, rfl⟩
  rw [hmv] at HH2 hb hHeld ⊢
  have hib := allocs_get [.cells #[.pointer x] 24, .cells #[.int .i64 (hm : Int)] 3] w4
  obtain ⟨W0, hW0⟩ : ∃ W0, (w4.alloc (.cells #[.pointer x] 24)).alloc (.cells #[.int .i64 (hm : Int)] 3) = W0 := ⟨_, rfl⟩
  change ∀ k, k < 2 → ((w4.alloc (.cells #[.pointer x] 24)).alloc (.cells #[.int .i64 (hm : Int)] 3)).heap[w4.heap.size + k]? = _ at hib
  rw [hW0] at hHeld hib ⊢
  have i0 : W0.heap[w4.heap.size]? = some (.cells #[.pointer x] 24 (0, 0)) := hib 0 (by decide)
  have i1 : W0.heap[w4.heap.size + 1]? = some (.cells #[.int .i64 (hm : Int)] 3 (0, 0)) := hib 1 (by decide)
  generalize w4.heap.size = T4 at *
  obtain ⟨⟨b0, b1, b2, hT0, hB0⟩, hS0⟩ := hHeld
  have HT0 := Aside0.mk hT0
  have HS0 := Aside0.mk hS0
  clear hib hb hW0 hT0 hS0 HH1
  refine (wpIn_wide (n := 6)).1 ?_
  refine wpIn_rangeFunc_ownF (F := Fence.wide) (n := 6) rfl (by decide) (gf := 35) (lb := #[.pointer (some ⟨T4, 0, none⟩), .pointer (some ⟨T4 + 1, 0, none⟩)]) rfl trivial (enters_of Try.func35 (by kernel_rfl) rfl)
    (from_stops HT0.out HH2.out (by decide) ((blk_cell i0 0).trans rfl) ((blk_cell i1 0).trans rfl)) belowK_t (belowK_b (Nat.le_refl _)) (Below.refl _ _) (fun _ => rfl)
    (fun pre W' => (∀ i ∈ pre, Passed y.f0 y.f1 L i) ∧ Below W0.heap.size W0 W')
    (fun c pre W' => (c = .ret ∧ PutR W F x q L y pre W') ∨ (c = .exit 0 ∧ PutE W0 L y pre W'))
    (OwnFrom.and (ownFrom_pure _ _) (ownFrom_below (Nat.le_refl _) (Nat.le_refl _)))
    (fun c => OwnFrom.or (OwnFrom.and (ownFrom_pure _ _) (putR_own hB0.size)) (OwnFrom.and (ownFrom_pure _ _) putE_own))
    ⟨fun i hi => by simp at hi, Below.refl _ _⟩
    (fun i => { tmps := #[.pointer x, .agg #[.int .i64 y.f0, .int .i64 y.f1, .slice A y.f2.length c], .pointer (some ⟨W.heap.size, 0, none⟩), .pointer (some ⟨W.heap.size + 1, 0, none⟩), .pointer (some ⟨W.heap.size + 1 + 1, 0, none⟩), .int .i64 (i.val : Int), .pointer (ptrv L[i.val]), .pointer x, .pointer x, .pointer (some ⟨W.heap.size + 1, 0, none⟩), .int .i64 y.f0, .pointer (some ⟨W.heap.size + 1, 1, none⟩), .int .i64 y.f1, .int .i64 (hm : Int), .func (.func 35) #[] #[.pointer (some ⟨T4, 0, none⟩), .pointer (some ⟨T4 + 1, 0, none⟩)], .int .i64 (i.val : Int), .pointer (ptrv L[i.val]), undef, undef, undef, undef, undef, undef, undef, undef, undef, undef, undef, undef], defers := [] }) ?assign ?body ?done ?stop
  case assign =>
    intro l i W' K hK
    dsimp only [encs2]
    gi_wp2
    exact hK
  case body =>
    rintro l pre i W' ⟨hp, hb⟩ _
    have HP := Aside0.mk hp
    have HBb := Aside0.mk hb
    have g0 := (hb.block _ (blk_lt b0)).trans b0
    have g1 := (hb.block _ (blk_lt b1)).trans b1
    have g2 := (hb.block _ (blk_lt b2)).trans b2
    have cl0 : W'.cell? ⟨W.heap.size, 0, none⟩ = some (.pointer x) := (blk_cell g0 0).trans rfl
    have cl1 : W'.cell? ⟨W.heap.size + 1, 0, none⟩ = some (.int .i64 y.f0) := (blk_cell g1 0).trans rfl
    have cl2 : W'.cell? ⟨W.heap.size + 1, 1, none⟩ = some (.int .i64 y.f1) := (blk_cell g1 1).trans rfl
    have cl3 : W'.cell? ⟨W.heap.size + 1, 2, none⟩ = some (.slice A y.f2.length c) := (blk_cell g1 2).trans rfl
    have HG2 := Aside0.mk g2
    have HT := Aside0.mk (HT0.out.below hb)
    have HS := Aside0.mk (Kd.C_below HS0.out hb)
    obtain ⟨u, hu⟩ : ∃ u, L[i.val] = u := ⟨_, rfl⟩
    rw [hu]
    have HU := Aside0.mk hu
    clear hp hb hu b0 b1 b2 g0 g1 g2
    cases u with
    | none =>
      have HC : Aside0 (Calls Try.prog 17 #[.pointer x, .int .i64 (i.val : Int), .agg #[.int .i64 y.f0, .int .i64 y.f1, .slice A y.f2.length c]] W' (CasIn W' q i.val true y)) := ⟨by
        have := cas_in (c := c) HT.out i.val i.isLt HS.out HN.out
        rw [HU.out] at this
        exact this⟩
      simp only [ptrv]
      gi_wp2_with (refine ⟨trivial, ?_⟩; gi_at_call 17; refine (CallsIn.inRound l (callsIn_wide.2 HC.out)).mono ?_; intro e w1 hc1; obtain ⟨rfl, ⟨g, ht⟩, hfr⟩ := CasIn.put i.isLt HT.out hc1; obtain ⟨_, _, _, _, _, _, hq⟩ := HT.out.open_ (Nat.lt_of_le_of_lt (Nat.zero_le _) i.isLt); have k2 := (hfr.block _ (blk_lt HG2.out) (blk_ne HG2.out hq (by decide))).trans HG2.out; have HKO := Aside0.mk (keeps_fr hfr hq); have d2 := blk_cell k2 0; have f2 := blk_frozen k2 0; have HK2 := Aside0.mk k2; have HTT := Aside0.mk ht; have HFR := Aside0.mk hfr; clear hc1 k2 ht hfr hq)
      refine ⟨HKO.out.trans (KeepsOthers.setCell _ _ _), Or.inl ⟨rfl, i, g, ⟨pre, rfl, HP.out, HU.out⟩, ?_, ?_, ?_⟩⟩
      · exact blk_set HK2.out 0 (.bool true)
      · exact (HTT.out.mono (fun k hk => hk.imp id (fun h => Nat.le_trans hB0.size (Nat.le_trans HBb.out.size h)))).far HK2.out (by decide) 0 _
      · exact ((Fr.of_below (below_step hB0 HBb.out) (fun k => k = q)).trans HFR.out (fun i hi => Or.inl hi)).setCell (p := ⟨W.heap.size + 2, 0, none⟩) (Or.inr (by simp)) _
    | some z =>
      obtain ⟨b, z⟩ := z
      have hmem : some (b, z) ∈ L := by rw [← HU.out]; exact List.getElem_mem _
      have HE := Aside0.mk (HT.out.2.1 b z hmem)
      clear hmem
      simp only [ptrv]
      cases hk : keyed y.f0 y.f1 z with
      | false =>
        have HK := Aside0.mk hk
        clear hk
        gi_wp2_with (refine ⟨trivial, ?_⟩; gi_at_call 30; refine (CallsIn.inRound l (callsIn_wide.2 (is_c HE.out y.f0 y.f1))).mono ?_; rintro e w1 ⟨he, rfl⟩; replace he : e = .returned (.bool (keyed y.f0 y.f1 z)) := he; rw [HK.out] at he; subst he)
        exact ⟨KeepsOthers.refl _, Below.refl _ _, fun j hj => (List.mem_append.1 hj).elim (HP.out j) (fun e => by rw [List.mem_singleton.1 e]; exact ⟨b, z, HU.out, HK.out⟩), HBb.out⟩
      | true =>
        have HK := Aside0.mk hk
        clear hk
        gi_wp2_with (refine ⟨trivial, ?_⟩; gi_at_call 30; refine (CallsIn.inRound l (callsIn_wide.2 (is_c HE.out y.f0 y.f1))).mono ?_; rintro e w1 ⟨he, rfl⟩; replace he : e = .returned (.bool (keyed y.f0 y.f1 z)) := he; rw [HK.out] at he; subst he)
        exact ⟨KeepsOthers.refl _, Or.inr ⟨rfl, ⟨pre, i, b, z, rfl, HP.out, HU.out, HK.out⟩, HBb.out⟩⟩
  case done =>
    rintro D xs W' hD rfl ⟨hp, hb⟩ hK
    have HP := Aside0.mk hp
    have HBb := Aside0.mk hb
    have r2 := (hb.block _ (blk_lt b2)).trans b2
    have d2 := blk_cell r2 0
    have f2 := blk_frozen r2 0
    have HD := Aside0.mk hD
    have HKK := Aside0.mk hK
    clear hp hb hK hD
    gi_wp2
    go_wp2_with fail
    have h2 : (W'.setCell ⟨W.heap.size + 1 + 1, 0, none⟩ (.bool false)).heap[W.heap.size + 2]? = some (.cells #[.bool false] 4 (0, 0)) := blk_set r2 0 (.bool false)
    have h4 : Below W.heap.size W (W'.setCell ⟨W.heap.size + 1 + 1, 0, none⟩ (.bool false)) := (below_step hB0 HBb.out).setCell (p := ⟨W.heap.size + 2, 0, none⟩) (by simp) _
    have hK4 := (KeepsOthers.setCell W' ⟨W.heap.size + 1 + 1, 0, none⟩ (.bool false)).same D _ HKK.out rfl
    generalize W'.setCell ⟨W.heap.size + 1 + 1, 0, none⟩ (.bool false) = w5 at *
    have q2 : w5.cell? ⟨W.heap.size + 1 + 1, 0, none⟩ = some (.bool false) := (blk_cell h2 0).trans rfl
    have p2 := cell_kept q2 (grownBy_putObj' w5 D (.deferred none)) (fun r e => by cases e; exact ⟨_, hK4, rfl⟩)
    refine ⟨by simp, .inl ⟨_, _, rfl, run_takeDeferred hK4, ?_⟩⟩
    refine ⟨.bool false, by simp [results, Try.f11, go_sem, p2], ?_⟩
    (try rw [hmv])
    rw [scan_all HP.out]
    exact ⟨rfl, OwnFrom.putObj (I := fun (_ : Unit) W' => Below W.heap.size W W') (s := ()) (ownFrom_below (Nat.le_refl _) (Nat.le_trans hB0.size HD.out)) _ h4 (Nat.le_refl _) hK4 rfl⟩
  case stop =>
    rintro D c1 pre W' hD hpre hx hK
    have HD := Aside0.mk hD
    have HKK := Aside0.mk hK
    rcases hx with ⟨rfl, hx⟩ | ⟨rfl, hx⟩
    · obtain ⟨i, g, ⟨pre0, rfl, hp, hi⟩, h2, h3, h4⟩ := hx
      have HX := Aside0.mk (And.intro h2 (And.intro h3 (And.intro h4 hK)))
      have HSC := Aside0.mk (scan_free hpre hp hi)
      clear hK hpre hp hi h2 h3 h4 hD
      gi_wp2
      obtain ⟨h2, h3, h4, hK4⟩ := HX.out
      generalize W' = w5 at *
      have q2 : w5.cell? ⟨W.heap.size + 1 + 1, 0, none⟩ = some (.bool true) := (blk_cell h2 0).trans rfl
      have p2 := cell_kept q2 (grownBy_putObj' w5 D (.deferred none)) (fun r e => by cases e; exact ⟨_, hK4, rfl⟩)
      refine ⟨by simp, .inl ⟨_, _, rfl, run_takeDeferred hK4, ?_⟩⟩
      refine ⟨.bool true, by simp [results, Try.f11, go_sem, p2], ?_⟩
      (try rw [hmv])
      rw [HSC.out]
      exact ⟨rfl, ⟨g, OwnFrom.putObj (I := fun (_ : Unit) W' => Tb W' (fun k => F k ∨ W.heap.size ≤ k) x q (L.set i.val (some (g, y)))) (s := ()) (ownFrom_tb D _ _ _ _) _ h3 (Nat.le_refl _) hK4 rfl⟩,
        OwnFrom.putObj (I := fun (_ : Unit) W' => Fr (fun k => k = q) W W') (s := ()) (ownFrom_fr _ (Nat.le_trans hB0.size HD.out)) _ h4 (Nat.le_refl _) hK4 rfl⟩
    · obtain ⟨⟨pre0, i, b, z, rfl, hp, hi, hk⟩, hb⟩ := hx
      have HSC := Aside0.mk (scan_hit hpre hp hi hk)
      have HBb := Aside0.mk hb
      have r2 := (hb.block _ (blk_lt b2)).trans b2
      have d2 := blk_cell r2 0
      have f2 := blk_frozen r2 0
      clear hb hK hD hpre hi hk hp
      gi_wp2
      go_wp2_with fail
      have h2 : (W'.setCell ⟨W.heap.size + 1 + 1, 0, none⟩ (.bool false)).heap[W.heap.size + 2]? = some (.cells #[.bool false] 4 (0, 0)) := blk_set r2 0 (.bool false)
      have h4 : Below W.heap.size W (W'.setCell ⟨W.heap.size + 1 + 1, 0, none⟩ (.bool false)) := (below_step hB0 HBb.out).setCell (p := ⟨W.heap.size + 2, 0, none⟩) (by simp) _
      have hK4 := (KeepsOthers.setCell W' ⟨W.heap.size + 1 + 1, 0, none⟩ (.bool false)).same D _ HKK.out rfl
      generalize W'.setCell ⟨W.heap.size + 1 + 1, 0, none⟩ (.bool false) = w5 at *
      have q2 : w5.cell? ⟨W.heap.size + 1 + 1, 0, none⟩ = some (.bool false) := (blk_cell h2 0).trans rfl
      have p2 := cell_kept q2 (grownBy_putObj' w5 D (.deferred none)) (fun r e => by cases e; exact ⟨_, hK4, rfl⟩)
      refine ⟨by simp, .inl ⟨_, _, rfl, run_takeDeferred hK4, ?_⟩⟩
      refine ⟨.bool false, by simp [results, Try.f11, go_sem, p2], ?_⟩
      (try rw [hmv])
      rw [HSC.out]
      exact ⟨rfl, OwnFrom.putObj (I := fun (_ : Unit) W' => Below W.heap.size W W') (s := ()) (ownFrom_below (Nat.le_refl _) (Nat.le_trans hB0.size HD.out)) _ h4 (Nat.le_refl _) hK4 rfl⟩
end
end Go.Proofs.Ytpgdehelamgbnaa
