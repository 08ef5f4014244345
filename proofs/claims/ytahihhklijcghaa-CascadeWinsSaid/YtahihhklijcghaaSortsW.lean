/-
  CascadeSorts: the law's walk.
-/
import Derived.Test.YtahihhklijcghaaLight
import Derived.Deep.DeepCutAuto
namespace Go.Proofs.Ytahihhklijcghaa
open Go.RowKit Go.Proofs.YtahihhklijcghaaW Go.Proofs.YtahihhklijcghaaW.PrintWords PCascadeSorts
set_option linter.unusedVariables false
set_option linter.unusedSimpArgs false
theorem rd33_at (l : List S33) (i : Nat) (h : i < l.length) : rd_T33 l (i : Int) = l[i] := by
  unfold rd_T33
  rw [Int.toNat_natCast, List.getD_eq_getElem?_getD, List.getElem?_eq_getElem h]
  rfl
theorem same_l0 (l : List S33) (hn : l.length ≤ 1759218604441) (d : Nat) : ∀ (k i : Nat), i + d = l.length → d < k → gouacheref17_Same.l0 k l l (l.length : Int) (i : Int) = some true := by
  induction d with
  | zero =>
    intro k i hi hk
    obtain ⟨k, rfl⟩ : ∃ m, k = m + 1 := ⟨k - 1, by omega⟩
    simp only [gouacheref17_Same.l0]
    rw [if_neg (by omega)]
  | succ d ih =>
    intro k i hi hk
    obtain ⟨k, rfl⟩ : ∃ m, k = m + 1 := ⟨k - 1, by omega⟩
    have hw : wrap64 ((i : Int) + 1) = ((i + 1 : Nat) : Int) := by rw [wrap_next (n := l.length) (by omega) (by omega) hn]; omega
    simp only [gouacheref17_Same.l0]
    rw [if_pos (by omega), if_pos (by omega), if_pos (by omega), if_pos (by omega), if_neg (by simp), hw]
    exact ih k (i + 1) (by omega) (by omega)
theorem same_c {W : World} {A B : Option Addr} {c d : Nat} {L : List S26} (h1 : Kd.C k33 W A (L.map to33).length (L.map to33)) (hc : L.length ≤ c) (h2 : Kd.C k33 W B (L.map to33).length (L.map to33)) (hd : L.length ≤ d) (hn : L.length ≤ 100) :
    Calls Try.prog 15 #[.slice A L.length c, .slice B L.length d] W fun e w' => e = .returned (.bool true) ∧ Below W.heap.size W w' := by
  have hl : (L.map to33).length = L.length := List.length_map _
  have h := gouacheref17_Same.calls ((L.map to33).length + 1) A c (L.map to33) B d (L.map to33) true W h1 (by rw [hl]; exact hc) h2 (by rw [hl]; exact hd) (by
    unfold gouacheref17_Same.f
    rw [if_pos rfl]
    exact same_l0 _ (by rw [hl]; omega) (L.map to33).length _ 0 (by omega) (Nat.lt_succ_self _))
  rw [hl] at h
  refine h.mono ?_
  rintro e w' ⟨he, hw⟩
  exact ⟨he, hw.below⟩
theorem rangeAt_below {W W' : World} {b o : Nat} {cs : List Value} (h : W.rangeAt b o cs) (hb : Below W.heap.size W W') : W'.rangeAt b o cs := fun j v hj => pw_cell_below hb (h j v hj)
/-- The four boxes. -/
def Bx (W : World) (p4 p5 p7 p8 : Nat) (ca cb : List Value) : Prop := W.rangeAt p4 0 ca ∧ W.rangeAt p5 0 cb ∧ W.rangeAt p7 0 ca ∧ W.rangeAt p8 0 cb
theorem Bx.below {W W' : World} {p4 p5 p7 p8 : Nat} {ca cb : List Value} (h : Bx W p4 p5 p7 p8 ca cb) (hb : Below W.heap.size W W') : Bx W' p4 p5 p7 p8 ca cb :=
  ⟨rangeAt_below h.1 hb, rangeAt_below h.2.1 hb, rangeAt_below h.2.2.1 hb, rangeAt_below h.2.2.2 hb⟩
theorem range_new (W : World) (cs : List Value) (t : TypeId) : (W.alloc (.cells cs.toArray t)).rangeAt W.heap.size 0 cs := fun j v hj => by
  rw [Nat.zero_add, cell1]
  simpa using hj
theorem store_none {P : Program} {op : Oper} {a : Act} {w : World} {K : Act → World → Prop} {Q : Exit → Act → World → Prop} (ty : TypeId) (x y : Operand) (ho : op.op = .store ty x y) (hN : op.dst = none)
    (b o : Nat) (cells : List Value) (hx : a.eval x = .pointer (some ⟨b, o, none⟩)) (hy : a.eval y = .agg cells.toArray)
    (ht : w.there b o cells.length) (hi : (P.info? ty).map (·.size) = some cells.length) (h1 : ∀ v ∈ cells, v.oneCell' = true)
    (h : K a (w.setCells b o cells)) : op.wp P a w K Q :=
  wp_store_mid ty x y ho b o cells.toArray hx hy (by simpa using ht) (by simpa using hi) (all_oneCell_toArray h1) (by rw [hN]; exact h)
/-- An empty entry of the document's. -/
abbrev Z33 : Obj := .cells #[.string ⟨#[]⟩, .string ⟨#[]⟩, .int .i64 0, .bool false, .int .i64 0, .int .i64 0, .int .i64 0, .int .i64 0] 33
theorem there_of {w : World} {g : Nat} {cs : Array Value} {t : TypeId} (h : w.heap[g]? = some (.cells cs t (0, 0))) (hs : cs.size = 8) : w.there g 0 8 := fun j hj => by
  constructor
  · rw [Nat.zero_add, blk_cell h]
    simp [hs, hj]
  · exact blk_frozen h _
theorem two_there (w : World) : ((w.alloc Z33).alloc Z33).there w.heap.size 0 8 ∧ ((w.alloc Z33).alloc Z33).there (w.heap.size + 1) 0 8 := by
  have h1 := blk_alloc (heap_alloc_new w Z33) Z33
  have h2 := heap_alloc_new (w.alloc Z33) Z33
  have e : (w.alloc Z33).heap.size = w.heap.size + 1 := by simp
  rw [e] at h2
  exact ⟨there_of h1 rfl, there_of h2 rfl⟩
theorem setCells_fr {S : Nat → Prop} {W0 : World} {g : Nat} (hg : S g) : ∀ (cs : List Value) (o : Nat) {W : World}, Fr S W0 W → Fr S W0 (W.setCells g o cs)
  | [], _, _, h => h
  | v :: r, o, _, h => setCells_fr hg r (o + 1) (h.setCell (p := ⟨g, o, none⟩) (Or.inl hg) v)
theorem boxes {W w : World} {p4 p5 p q : Nat} {ca cb : List Value} (la : ca.length = 8) (lb : cb.length = 8) (hb : Below W.heap.size W w) (l4 : p4 < w.heap.size) (l5 : p5 < w.heap.size) (h4 : w.rangeAt p4 0 ca) (h5 : w.rangeAt p5 0 cb) (hp : p = w.heap.size ∧ q = w.heap.size + 1 ∨ p = w.heap.size + 1 ∧ q = w.heap.size) :
    Bx ((((w.alloc Z33).alloc Z33).setCells p 0 ca).setCells q 0 cb) p4 p5 p q ca cb ∧ Below W.heap.size W ((((w.alloc Z33).alloc Z33).setCells p 0 ca).setCells q 0 cb) := by
  have hne : p ≠ q := by omega
  obtain ⟨t1, t2⟩ := two_there w
  have tp : ((w.alloc Z33).alloc Z33).there p 0 8 := by rcases hp with ⟨rfl, _⟩ | ⟨rfl, _⟩ <;> assumption
  have tq : ((w.alloc Z33).alloc Z33).there q 0 8 := by rcases hp with ⟨_, rfl⟩ | ⟨_, rfl⟩ <;> assumption
  refine ⟨⟨?_, ?_, ?_, ?_⟩, ?_⟩
  · exact World.rangeAt_setCells_apart (World.rangeAt_setCells_apart (World.rangeAt_alloc (World.rangeAt_alloc h4 _) _) _ _ _ (Or.inl (by omega))) _ _ _ (Or.inl (by omega))
  · exact World.rangeAt_setCells_apart (World.rangeAt_setCells_apart (World.rangeAt_alloc (World.rangeAt_alloc h5 _) _) _ _ _ (Or.inl (by omega))) _ _ _ (Or.inl (by omega))
  · exact World.rangeAt_setCells_apart (World.rangeAt_setCells_same _ _ _ _ (by rw [la]; exact tp)) _ _ _ (Or.inl hne)
  · exact World.rangeAt_setCells_same _ _ _ _ (World.there_setCells (by rw [lb]; exact tq) _ _ _)
  · have hF : Fr (fun k => w.heap.size ≤ k) w ((((w.alloc Z33).alloc Z33).setCells p 0 ca).setCells q 0 cb) :=
      setCells_fr (by omega) _ _ (setCells_fr (by omega) _ _ (((Fr.refl _ _).alloc _).alloc _))
    have h1 := hF.to_below (B := W.heap.size) hb.size (fun i hi => Nat.le_trans hb.size hi)
    exact ⟨h1.os.trans hb.os, h1.tape.trans hb.tape, h1.output.trans hb.output, Nat.le_trans hb.size h1.size, fun i hi => (h1.block i hi).trans (hb.block i hi)⟩
theorem size26 : (Try.prog.info? 26).map (·.size) = some 8 := by kernel_rfl
set_option maxHeartbeats 2000000 in
set_option maxRecDepth 100000 in
theorem sorts_w {W : World} {A : Option Addr} {c : Nat} {l : List S26} {a b : S26} (h : Kd.C k26 W A l.length l) (hc : l.length ≤ c) (hf : Fits l) (hn : l.length ≤ 1759218604441) :
    Calls Try.prog 4 #[.slice A l.length c, ev a, ev b] W fun e w' => e = .returned (.bool true) ∧ Below W.heap.size W w' := by
  have HC := Aside0.mk h
  have HCC := Aside0.mk hc
  have HF := Aside0.mk hf
  have HN := Aside0.mk hn
  clear h hc hf hn
  have HB0 : Aside0 (Below W.heap.size W ((W.alloc (.cells (pe a).toArray 26)).alloc (.cells (pe b).toArray 26))) := ⟨((Below.refl _ _).alloc (Nat.le_refl _) _).alloc (by simp) _⟩
  have HRA : Aside0 (((W.alloc (.cells (pe a).toArray 26)).alloc (.cells (pe b).toArray 26)).rangeAt W.heap.size 0 (pe a)) := ⟨World.rangeAt_alloc (range_new W _ _) _⟩
  have HRB : Aside0 (((W.alloc (.cells (pe a).toArray 26)).alloc (.cells (pe b).toArray 26)).rangeAt (W.heap.size + 1) 0 (pe b)) := ⟨by
    have := range_new (W.alloc (.cells (pe a).toArray 26)) (pe b) 26
    rw [World.size_alloc] at this
    exact this⟩
  go_enter Try.func4, Try.ntmps4
  go_wp2_with fail
  refine (light_c (Kd.C_below HC.out HB0.out) HCC.out HF.out HN.out).mono ?_
  rintro e w1 ⟨r, rfl, hr, hb⟩
  have HB1 := Aside0.mk (below_then HB0.out HB0.out.size hb)
  have HRA1 := Aside0.mk (rangeAt_below HRA.out hb)
  have HRB1 := Aside0.mk (rangeAt_below HRB.out hb)
  have HL := Aside0.mk hr
  clear hb HB0 HRA HRB hr
  cases r with
  | false =>
    go_wp2_with fail
    refine (lives_c _).mono ?_
    rintro e w2 ⟨rfl, hb⟩
    have HB2 := Aside0.mk (below_step HB1.out hb)
    clear hb
    go_wp2_with fail
    go_ret
    exact ⟨rfl, HB2.out⟩
  | true =>
    have HLN := Aside0.mk (HL.out rfl)
    clear HL HN
    have HOA := Aside0.mk (pe_one a)
    have HOB := Aside0.mk (pe_one b)
    go_wp2_with fail
    go_cut [7, 8] from 13 to 14 (fun v7 v8 wc => ∃ p7 p8 : Nat, v7 = .pointer (some ⟨p7, 0, none⟩) ∧ v8 = .pointer (some ⟨p8, 0, none⟩) ∧ Aside0 (Bx wc W.heap.size (W.heap.size + 1) p7 p8 (pe a) (pe b)) ∧ Aside0 (Below W.heap.size W wc))
    case first =>
      have HD := Aside0.mk (below_drew HB1.out)
      have HRA2 : Aside0 (w1.drew.rangeAt W.heap.size 0 (pe a)) := ⟨HRA1.out⟩
      have HRB2 : Aside0 (w1.drew.rangeAt (W.heap.size + 1) 0 (pe b)) := ⟨HRB1.out⟩
      have HLA : Aside0 (W.heap.size < w1.drew.heap.size) := ⟨World.block_lt_of_cell? _ _ (HRA2.out 0 _ rfl)⟩
      have HLB : Aside0 (W.heap.size + 1 < w1.drew.heap.size) := ⟨World.block_lt_of_cell? _ _ (HRB2.out 0 _ rfl)⟩
      have HL8 : Aside0 ((pe a).length = 8) := ⟨rfl⟩
      have HM8 : Aside0 ((pe b).length = 8) := ⟨rfl⟩
      clear HRA1 HRB1
      generalize pe a = ca at *
      generalize pe b = cb at *
      refine PrintLast.start_ (n := 6) (S := fun w' => w'.rangeAt W.heap.size 0 ca ∧ w'.rangeAt (W.heap.size + 1) 0 cb) (ds := [5]) #[false, false, false, false, false, false] (by kernel_rfl) rfl rfl ⟨HRA2.out, HRB2.out⟩ (fun hHeld => ?_)
      refine PrintLast.take_ (i := 0) (N := some 13) (v := .agg ca.toArray) (a' := ?_) #[true, false, false, false, false, false] rfl rfl (by kernel_rfl) (fun _ _ _ h => h) (yieldsIf_load_mid (by rfl) 26 (.tmp 4) rfl W.heap.size 0 rfl ca _ (fun w hS => hS.1) Try.underlying26 rfl (by rw [size26, HL8.out])) hHeld ?_ ?_
      rotate_left
      · simp only [Act.put, List.setIfInBounds_toArray, List.set_cons_zero, List.set_cons_succ]
        rfl
      refine PrintLast.take_ (i := 1) (N := some 14) (v := .agg cb.toArray) (a' := ?_) #[true, true, false, false, false, false] rfl rfl (by kernel_rfl) (fun _ _ _ h => h) (yieldsIf_load_mid (by rfl) 26 (.tmp 5) rfl (W.heap.size + 1) 0 rfl cb _ (fun w hS => hS.2) Try.underlying26 rfl (by rw [size26, HM8.out])) hHeld ?_ ?_
      rotate_left
      · simp only [Act.put, List.setIfInBounds_toArray, List.set_cons_zero, List.set_cons_succ]
        rfl
      generalize w1.drew = w2 at *
      refine PrintLast.two_ (i := 2) (j := 3) (Ni := some 7) (Nj := some 8) #[true, true, true, false, false, false] #[true, true, false, true, false, false] rfl rfl rfl rfl (by kernel_rfl) (by decide) (by decide) (fun K hK => ?_) (fun K hK => ?_)
      · rw [if_pos (by rfl)]
        go_simp
        refine hK.out _ _ ⟨World.rangeAt_alloc HRA2.out _, World.rangeAt_alloc HRB2.out _⟩ (fun hHeld => ?_)
        clear hK K
        refine PrintLast.one_ (i := 3) (N := some 8) #[true, true, true, true, false, false] rfl rfl (by kernel_rfl) (by decide) (fun K hK => ?_)
        rw [if_pos (by rfl)]
        go_simp
        refine hK.out _ _ ⟨World.rangeAt_alloc (World.rangeAt_alloc HRA2.out _) _, World.rangeAt_alloc (World.rangeAt_alloc HRB2.out _) _⟩ (fun hHeld => ?_)
        clear hK K
        refine PrintLast.one_ (i := 4) (N := none) #[true, true, true, true, true, false] rfl rfl (by kernel_rfl) (by decide) (fun K hK => ?_)
        rw [if_pos (by rfl)]
        refine store_none 33 _ _ rfl rfl w2.heap.size 0 ca rfl rfl (by rw [HL8.out]; exact (two_there w2).1) (by rw [HL8.out]; exact size33) HOA.out ?_
        refine hK.out _ _ ⟨World.rangeAt_setCells_apart (World.rangeAt_alloc (World.rangeAt_alloc HRA2.out _) _) _ _ _ (Or.inl (by have := HLA.out; omega)), World.rangeAt_setCells_apart (World.rangeAt_alloc (World.rangeAt_alloc HRB2.out _) _) _ _ _ (Or.inl (by have := HLB.out; omega))⟩ (fun hHeld => ?_)
        clear hK K
        refine PrintLast.last_ (i := 5) (N := none) #[true, true, true, true, true, true] rfl rfl (by kernel_rfl) (by decide) (fun K hK => ?_)
        rw [if_pos (by rfl)]
        refine store_none 33 _ _ rfl rfl (w2.heap.size + 1) 0 cb rfl rfl (World.there_setCells (by rw [HM8.out]; exact (two_there w2).2) _ _ _) (by rw [HM8.out]; exact size33) HOB.out ?_
        refine hK.out _ _ ?_
        clear hK K
        refine PrintLast.done_ (by kernel_rfl) ?_
        go_wp2_with fail
        go_meet
        case rel =>
          obtain ⟨x1, x2⟩ := boxes HL8.out HM8.out HD.out HLA.out HLB.out HRA2.out HRB2.out (Or.inl ⟨rfl, rfl⟩)
          exact ⟨_, _, rfl, rfl, ⟨x1⟩, ⟨x2⟩⟩
      · rw [if_pos (by rfl)]
        go_simp
        refine hK.out _ _ ⟨World.rangeAt_alloc HRA2.out _, World.rangeAt_alloc HRB2.out _⟩ (fun hHeld => ?_)
        clear hK K
        refine PrintLast.one_ (i := 2) (N := some 7) #[true, true, true, true, false, false] rfl rfl (by kernel_rfl) (by decide) (fun K hK => ?_)
        rw [if_pos (by rfl)]
        go_simp
        refine hK.out _ _ ⟨World.rangeAt_alloc (World.rangeAt_alloc HRA2.out _) _, World.rangeAt_alloc (World.rangeAt_alloc HRB2.out _) _⟩ (fun hHeld => ?_)
        clear hK K
        refine PrintLast.one_ (i := 4) (N := none) #[true, true, true, true, true, false] rfl rfl (by kernel_rfl) (by decide) (fun K hK => ?_)
        rw [if_pos (by rfl)]
        refine store_none 33 _ _ rfl rfl (w2.heap.size + 1) 0 ca rfl rfl (by rw [HL8.out]; exact (two_there w2).2) (by rw [HL8.out]; exact size33) HOA.out ?_
        refine hK.out _ _ ⟨World.rangeAt_setCells_apart (World.rangeAt_alloc (World.rangeAt_alloc HRA2.out _) _) _ _ _ (Or.inl (by have := HLA.out; omega)), World.rangeAt_setCells_apart (World.rangeAt_alloc (World.rangeAt_alloc HRB2.out _) _) _ _ _ (Or.inl (by have := HLB.out; omega))⟩ (fun hHeld => ?_)
        clear hK K
        refine PrintLast.last_ (i := 5) (N := none) #[true, true, true, true, true, true] rfl rfl (by kernel_rfl) (by decide) (fun K hK => ?_)
        rw [if_pos (by rfl)]
        refine store_none 33 _ _ rfl rfl w2.heap.size 0 cb rfl rfl (World.there_setCells (by rw [HM8.out]; exact (two_there w2).1) _ _ _) (by rw [HM8.out]; exact size33) HOB.out ?_
        refine hK.out _ _ ?_
        clear hK K
        refine PrintLast.done_ (by kernel_rfl) ?_
        go_wp2_with fail
        go_meet
        case rel =>
          obtain ⟨x1, x2⟩ := boxes HL8.out HM8.out HD.out HLA.out HLB.out HRA2.out HRB2.out (Or.inr ⟨rfl, rfl⟩)
          exact ⟨_, _, rfl, rfl, ⟨x1⟩, ⟨x2⟩⟩
    case rest =>
      obtain ⟨p7, p8, rfl, rfl, HX, HB⟩ := hcut
      have HL1 : Aside0 ((pe a).length = 8) := ⟨rfl⟩
      go_wp2_with fail
      refine PrintLast.start_ (n := 27) (S := fun w' => Bx w' W.heap.size (W.heap.size + 1) p7 p8 (pe a) (pe b)) (ds := []) #[false, false, false, false, false, false, false, false, false, false, false, false, false, false, false, false, false, false, false, false, false, false, false, false, false, false, false] (by kernel_rfl) rfl rfl (HX.out.below (below_drew (Below.refl _ _))) (fun hHeld => ?_)
      have HB0 := Aside0.mk (below_drew HB.out)
      clear HX HB HRA1 HRB1 HB1
      generalize wc.drew = w2 at *
      refine PrintLast.take_ (i := 0) (N := some 15) (v := ev a) (a' := ?_) #[true, false, false, false, false, false, false, false, false, false, false, false, false, false, false, false, false, false, false, false, false, false, false, false, false, false, false] rfl rfl (by kernel_rfl) (fun _ _ _ h => h) (yieldsIf_load_mid (by rfl) 26 (.tmp 4) rfl W.heap.size 0 rfl (pe a) _ (fun w hS => hS.1) Try.underlying26 rfl size26) hHeld ?_ ?_
      rotate_left
      · simp only [Act.put, List.setIfInBounds_toArray, List.set_cons_zero, List.set_cons_succ]
        rfl
      refine PrintLast.take_ (i := 2) (N := some 17) (v := ev a) (a' := ?_) #[true, false, true, false, false, false, false, false, false, false, false, false, false, false, false, false, false, false, false, false, false, false, false, false, false, false, false] rfl rfl (by kernel_rfl) (fun _ _ _ h => h) (yieldsIf_load_mid (by rfl) 33 (.tmp 7) rfl p7 0 rfl (pe a) _ (fun w hS => hS.2.2.1) Try.underlying33 rfl size33) hHeld ?_ ?_
      rotate_left
      · simp only [Act.put, List.setIfInBounds_toArray, List.set_cons_zero, List.set_cons_succ]
        rfl
      refine PrintLast.one_ (i := 1) (N := some 16) #[true, true, true, false, false, false, false, false, false, false, false, false, false, false, false, false, false, false, false, false, false, false, false, false, false, false, false] rfl rfl (by kernel_rfl) (by decide) (fun K hK => ?_)
      refine PrintLast.goes_ Try.func12 (by kernel_rfl) rfl #[ev a] (by rfl) rfl rfl (by first | rfl | (simp only [List.map_toArray, List.map_cons, List.map_nil]; done) | (simp only [List.map_toArray, List.map_cons, List.map_nil]; rfl) | simp) ?_
      refine (rank_c a _).mono ?_
      rintro e w3 ⟨rfl, hb⟩
      refine ⟨_, rfl, ?_⟩
      have HB1 := Aside0.mk (below_step HB0.out hb)
      clear HB0
      have HB0 := HB1
      clear HB1
      refine hK.out _ _ (hHeld.below hb) (fun hHeld => ?_)
      clear hK K hb
      refine PrintLast.norm_ (a' := ?_) ?_ ?_
      rotate_left
      · show Act.put _ (some 16) _ = _
        simp only [Act.put, List.setIfInBounds_toArray, List.set_cons_zero, List.set_cons_succ]
        rfl
      refine PrintLast.one_ (i := 3) (N := some 18) #[true, true, true, true, false, false, false, false, false, false, false, false, false, false, false, false, false, false, false, false, false, false, false, false, false, false, false] rfl rfl (by kernel_rfl) (by decide) (fun K hK => ?_)
      refine PrintLast.goes_ Try.func13 (by kernel_rfl) rfl #[ev a] (by rfl) rfl rfl (by first | rfl | (simp only [List.map_toArray, List.map_cons, List.map_nil]; done) | (simp only [List.map_toArray, List.map_cons, List.map_nil]; rfl) | simp) ?_
      refine (rrank_c a _).mono ?_
      rintro e w3 ⟨rfl, hb⟩
      refine ⟨_, rfl, ?_⟩
      have HB1 := Aside0.mk (below_step HB0.out hb)
      clear HB0
      have HB0 := HB1
      clear HB1
      refine hK.out _ _ (hHeld.below hb) (fun hHeld => ?_)
      clear hK K hb
      refine PrintLast.norm_ (a' := ?_) ?_ ?_
      rotate_left
      · show Act.put _ (some 18) _ = _
        simp only [Act.put, List.setIfInBounds_toArray, List.set_cons_zero, List.set_cons_succ]
        rfl
      refine PrintLast.pure_ (i := 4) (N := some 19) (v := ?_) (a' := ?_) #[true, true, true, true, true, false, false, false, false, false, false, false, false, false, false, false, false, false, false, false, false, false, false, false, false, false, false] rfl rfl (by kernel_rfl) (fun _ _ _ h => h) (Or.inl ⟨by rfl, ?_⟩) ?_ ?_
      rotate_left
      · intro w'
        go_simp
        with_reducible rfl
      rotate_left
      · simp only [Act.put, List.setIfInBounds_toArray, List.set_cons_zero, List.set_cons_succ]
        rfl
      refine PrintLast.pure_ (i := 5) (N := some 20) (v := ?_) (a' := ?_) #[true, true, true, true, true, true, false, false, false, false, false, false, false, false, false, false, false, false, false, false, false, false, false, false, false, false, false] rfl rfl (by kernel_rfl) (fun _ _ _ h => h) (Or.inl ⟨by rfl, ?_⟩) ?_ ?_
      rotate_left
      · intro w'
        go_simp
        with_reducible rfl
      rotate_left
      · simp only [Act.put, List.setIfInBounds_toArray, List.set_cons_zero, List.set_cons_succ]
        rfl
      refine PrintLast.take_ (i := 6) (N := some 21) (v := ev a) (a' := ?_) #[true, true, true, true, true, true, true, false, false, false, false, false, false, false, false, false, false, false, false, false, false, false, false, false, false, false, false] rfl rfl (by kernel_rfl) (fun _ _ _ h => h) (yieldsIf_load_mid (by rfl) 26 (.tmp 4) rfl W.heap.size 0 rfl (pe a) _ (fun w hS => hS.1) Try.underlying26 rfl size26) hHeld ?_ ?_
      rotate_left
      · simp only [Act.put, List.setIfInBounds_toArray, List.set_cons_zero, List.set_cons_succ]
        rfl
      refine PrintLast.take_ (i := 7) (N := some 22) (v := ev b) (a' := ?_) #[true, true, true, true, true, true, true, true, false, false, false, false, false, false, false, false, false, false, false, false, false, false, false, false, false, false, false] rfl rfl (by kernel_rfl) (fun _ _ _ h => h) (yieldsIf_load_mid (by rfl) 26 (.tmp 5) rfl (W.heap.size + 1) 0 rfl (pe b) _ (fun w hS => hS.2.1) Try.underlying26 rfl size26) hHeld ?_ ?_
      rotate_left
      · simp only [Act.put, List.setIfInBounds_toArray, List.set_cons_zero, List.set_cons_succ]
        rfl
      refine PrintLast.take_ (i := 9) (N := some 24) (v := ev a) (a' := ?_) #[true, true, true, true, true, true, true, true, false, true, false, false, false, false, false, false, false, false, false, false, false, false, false, false, false, false, false] rfl rfl (by kernel_rfl) (fun _ _ _ h => h) (yieldsIf_load_mid (by rfl) 33 (.tmp 7) rfl p7 0 rfl (pe a) _ (fun w hS => hS.2.2.1) Try.underlying33 rfl size33) hHeld ?_ ?_
      rotate_left
      · simp only [Act.put, List.setIfInBounds_toArray, List.set_cons_zero, List.set_cons_succ]
        rfl
      refine PrintLast.take_ (i := 10) (N := some 25) (v := ev b) (a' := ?_) #[true, true, true, true, true, true, true, true, false, true, true, false, false, false, false, false, false, false, false, false, false, false, false, false, false, false, false] rfl rfl (by kernel_rfl) (fun _ _ _ h => h) (yieldsIf_load_mid (by rfl) 33 (.tmp 8) rfl p8 0 rfl (pe b) _ (fun w hS => hS.2.2.2) Try.underlying33 rfl size33) hHeld ?_ ?_
      rotate_left
      · simp only [Act.put, List.setIfInBounds_toArray, List.set_cons_zero, List.set_cons_succ]
        rfl
      refine PrintLast.one_ (i := 8) (N := some 23) #[true, true, true, true, true, true, true, true, true, true, true, false, false, false, false, false, false, false, false, false, false, false, false, false, false, false, false] rfl rfl (by kernel_rfl) (by decide) (fun K hK => ?_)
      refine PrintLast.goes_ Try.func11 (by kernel_rfl) rfl #[ev a, ev b] (by rfl) rfl rfl (by first | rfl | (simp only [List.map_toArray, List.map_cons, List.map_nil]; done) | (simp only [List.map_toArray, List.map_cons, List.map_nil]; rfl) | simp) ?_
      refine (less_c a b _).mono ?_
      rintro e w3 ⟨rfl, hb⟩
      refine ⟨_, rfl, ?_⟩
      have HB1 := Aside0.mk (below_step HB0.out hb)
      clear HB0
      have HB0 := HB1
      clear HB1
      refine hK.out _ _ (hHeld.below hb) (fun hHeld => ?_)
      clear hK K hb
      refine PrintLast.norm_ (a' := ?_) ?_ ?_
      rotate_left
      · show Act.put _ (some 23) _ = _
        simp only [Act.put, List.setIfInBounds_toArray, List.set_cons_zero, List.set_cons_succ]
        rfl
      refine PrintLast.one_ (i := 11) (N := some 26) #[true, true, true, true, true, true, true, true, true, true, true, true, false, false, false, false, false, false, false, false, false, false, false, false, false, false, false] rfl rfl (by kernel_rfl) (by decide) (fun K hK => ?_)
      refine PrintLast.goes_ Try.func14 (by kernel_rfl) rfl #[ev a, ev b] (by rfl) rfl rfl (by first | rfl | (simp only [List.map_toArray, List.map_cons, List.map_nil]; done) | (simp only [List.map_toArray, List.map_cons, List.map_nil]; rfl) | simp) ?_
      refine (rless_c a b _).mono ?_
      rintro e w3 ⟨rfl, hb⟩
      refine ⟨_, rfl, ?_⟩
      have HB1 := Aside0.mk (below_step HB0.out hb)
      clear HB0
      have HB0 := HB1
      clear HB1
      refine hK.out _ _ (hHeld.below hb) (fun hHeld => ?_)
      clear hK K hb
      refine PrintLast.norm_ (a' := ?_) ?_ ?_
      rotate_left
      · show Act.put _ (some 26) _ = _
        simp only [Act.put, List.setIfInBounds_toArray, List.set_cons_zero, List.set_cons_succ]
        rfl
      refine PrintLast.pure_ (i := 12) (N := some 27) (v := ?_) (a' := ?_) #[true, true, true, true, true, true, true, true, true, true, true, true, true, false, false, false, false, false, false, false, false, false, false, false, false, false, false] rfl rfl (by kernel_rfl) (fun _ _ _ h => h) (Or.inl ⟨by rfl, ?_⟩) ?_ ?_
      rotate_left
      · intro w'
        go_simp
        with_reducible rfl
      rotate_left
      · simp only [Act.put, List.setIfInBounds_toArray, List.set_cons_zero, List.set_cons_succ]
        rfl
      refine PrintLast.pure_ (i := 13) (N := some 28) (v := ?_) (a' := ?_) #[true, true, true, true, true, true, true, true, true, true, true, true, true, true, false, false, false, false, false, false, false, false, false, false, false, false, false] rfl rfl (by kernel_rfl) (fun _ _ _ h => h) (Or.inl ⟨by rfl, ?_⟩) ?_ ?_
      rotate_left
      · intro w'
        go_simp
        with_reducible rfl
      rotate_left
      · simp only [Act.put, List.setIfInBounds_toArray, List.set_cons_zero, List.set_cons_succ]
        rfl
      refine PrintLast.pure_ (i := 14) (N := some 29) (v := ?_) (a' := ?_) #[true, true, true, true, true, true, true, true, true, true, true, true, true, true, true, false, false, false, false, false, false, false, false, false, false, false, false] rfl rfl (by kernel_rfl) (fun _ _ _ h => h) (Or.inl ⟨by rfl, ?_⟩) ?_ ?_
      rotate_left
      · intro w'
        go_simp
        with_reducible rfl
      rotate_left
      · simp only [Act.put, List.setIfInBounds_toArray, List.set_cons_zero, List.set_cons_succ]
        rfl
      refine PrintLast.pure_ (i := 15) (N := some 30) (v := ?_) (a' := ?_) #[true, true, true, true, true, true, true, true, true, true, true, true, true, true, true, true, false, false, false, false, false, false, false, false, false, false, false] rfl rfl (by kernel_rfl) (fun _ _ _ h => h) (Or.inl ⟨by rfl, ?_⟩) ?_ ?_
      rotate_left
      · intro w'
        go_simp
        with_reducible rfl
      rotate_left
      · simp only [Act.put, List.setIfInBounds_toArray, List.set_cons_zero, List.set_cons_succ]
        rfl
      refine PrintLast.pure_ (i := 18) (N := some 33) (v := ?_) (a' := ?_) #[true, true, true, true, true, true, true, true, true, true, true, true, true, true, true, true, false, false, true, false, false, false, false, false, false, false, false] rfl rfl (by kernel_rfl) (fun _ _ _ h => h) (Or.inl ⟨by rfl, ?_⟩) ?_ ?_
      rotate_left
      · intro w'
        go_simp
        with_reducible rfl
      rotate_left
      · simp only [Act.put, List.setIfInBounds_toArray, List.set_cons_zero, List.set_cons_succ]
        rfl
      refine PrintLast.one_ (i := 16) (N := some 31) #[true, true, true, true, true, true, true, true, true, true, true, true, true, true, true, true, true, false, true, false, false, false, false, false, false, false, false] rfl rfl (by kernel_rfl) (by decide) (fun K hK => ?_)
      refine PrintLast.goes_ Try.func17 (by kernel_rfl) rfl #[.slice A l.length c] (by rfl) rfl rfl (by first | rfl | (simp only [List.map_toArray, List.map_cons, List.map_nil]; done) | (simp only [List.map_toArray, List.map_cons, List.map_nil]; rfl) | simp) ?_
      refine (sorts_c (Kd.C_below HC.out HB0.out) HLN.out).mono ?_
      rintro e w3 ⟨v, rfl, hr, hb⟩
      refine ⟨_, rfl, ?_⟩
      have HB1 := Aside0.mk (below_step HB0.out hb)
      clear HB0
      have HB0 := HB1
      clear HB1
      obtain ⟨A1, c1, rfl, hc1⟩ := hr.slice_
      have HR1 := Aside0.mk hr
      clear hr
      refine hK.out _ _ (hHeld.below hb) (fun hHeld => ?_)
      clear hK K hb
      refine PrintLast.norm_ (a' := ?_) ?_ ?_
      rotate_left
      · show Act.put _ (some 31) _ = _
        simp only [Act.put, List.setIfInBounds_toArray, List.set_cons_zero, List.set_cons_succ]
        rfl
      refine PrintLast.one_ (i := 17) (N := some 32) #[true, true, true, true, true, true, true, true, true, true, true, true, true, true, true, true, true, true, true, false, false, false, false, false, false, false, false] rfl rfl (by kernel_rfl) (by decide) (fun K hK => ?_)
      refine PrintLast.goes_ Try.func16 (by kernel_rfl) rfl #[.slice A1 (sortE l).length c1] (by rfl) rfl rfl (by first | rfl | (simp only [List.map_toArray, List.map_cons, List.map_nil]; done) | (simp only [List.map_toArray, List.map_cons, List.map_nil]; rfl) | simp) ?_
      refine (plain_c HR1.out.C26.2.2 (by rw [sortE_length]; exact HLN.out)).mono ?_
      rintro e w3 ⟨v, rfl, hr, hb⟩
      refine ⟨_, rfl, ?_⟩
      have HB1 := Aside0.mk (below_step HB0.out hb)
      clear HB0
      have HB0 := HB1
      clear HB1
      obtain ⟨A2, c2, rfl, hc2⟩ := hr.slice_
      have HR2 := Aside0.mk hr
      clear hr HR1
      refine hK.out _ _ (hHeld.below hb) (fun hHeld => ?_)
      clear hK K hb
      refine PrintLast.norm_ (a' := ?_) ?_ ?_
      rotate_left
      · show Act.put _ (some 32) _ = _
        simp only [Act.put, List.setIfInBounds_toArray, List.set_cons_zero, List.set_cons_succ]
        rfl
      refine PrintLast.one_ (i := 19) (N := some 34) #[true, true, true, true, true, true, true, true, true, true, true, true, true, true, true, true, true, true, true, true, false, false, false, false, false, false, false] rfl rfl (by kernel_rfl) (by decide) (fun K hK => ?_)
      refine PrintLast.goes_ Try.func16 (by kernel_rfl) rfl #[.slice A l.length c] (by rfl) rfl rfl (by first | rfl | (simp only [List.map_toArray, List.map_cons, List.map_nil]; done) | (simp only [List.map_toArray, List.map_cons, List.map_nil]; rfl) | simp) ?_
      refine (plain_c (Kd.C_below HC.out HB0.out) HLN.out).mono ?_
      rintro e w3 ⟨v, rfl, hr, hb⟩
      refine ⟨_, rfl, ?_⟩
      have HB1 := Aside0.mk (below_step HB0.out hb)
      clear HB0
      have HB0 := HB1
      clear HB1
      obtain ⟨A3, c3, rfl, hc3⟩ := hr.slice_
      have HR3 := Aside0.mk hr
      have HR4 := Aside0.mk (HR2.out.below hb)
      clear hr HR2
      refine hK.out _ _ (hHeld.below hb) (fun hHeld => ?_)
      clear hK K hb
      refine PrintLast.norm_ (a' := ?_) ?_ ?_
      rotate_left
      · show Act.put _ (some 34) _ = _
        simp only [Act.put, List.setIfInBounds_toArray, List.set_cons_zero, List.set_cons_succ]
        rfl
      refine PrintLast.one_ (i := 20) (N := some 35) #[true, true, true, true, true, true, true, true, true, true, true, true, true, true, true, true, true, true, true, true, true, false, false, false, false, false, false] rfl rfl (by kernel_rfl) (by decide) (fun K hK => ?_)
      refine PrintLast.goes_ Try.func18 (by kernel_rfl) rfl #[.slice A3 l.length c3] (by rfl) rfl rfl (by first | rfl | (simp only [List.map_toArray, List.map_cons, List.map_nil]; done) | (simp only [List.map_toArray, List.map_cons, List.map_nil]; rfl) | simp) ?_
      refine (rsort_c HR3.out.C33.2.2 HLN.out).mono ?_
      rintro e w3 ⟨v, rfl, hr, hb⟩
      refine ⟨_, rfl, ?_⟩
      have HB1 := Aside0.mk (below_step HB0.out hb)
      clear HB0
      have HB0 := HB1
      clear HB1
      obtain ⟨A4, c4, rfl, hc4⟩ := hr.slice_
      have HR5 := Aside0.mk hr
      have HR6 := Aside0.mk (HR4.out.below hb)
      clear hr HR3 HR4
      refine hK.out _ _ (hHeld.below hb) (fun hHeld => ?_)
      clear hK K hb
      refine PrintLast.norm_ (a' := ?_) ?_ ?_
      rotate_left
      · show Act.put _ (some 35) _ = _
        simp only [Act.put, List.setIfInBounds_toArray, List.set_cons_zero, List.set_cons_succ]
        rfl
      refine PrintLast.one_ (i := 21) (N := some 36) #[true, true, true, true, true, true, true, true, true, true, true, true, true, true, true, true, true, true, true, true, true, true, false, false, false, false, false] rfl rfl (by kernel_rfl) (by decide) (fun K hK => ?_)
      refine PrintLast.goes_ Try.func15 (by kernel_rfl) rfl #[.slice A2 (sortE l).length c2, .slice A4 (sortE l).length c4] (by rfl) rfl rfl (by first | rfl | (simp only [List.map_toArray, List.map_cons, List.map_nil]; done) | (simp only [List.map_toArray, List.map_cons, List.map_nil]; rfl) | simp) ?_
      refine (same_c HR6.out.C33.2.2 hc2 HR5.out.C33.2.2 hc4 (by rw [sortE_length]; exact HLN.out)).mono ?_
      rintro e w3 ⟨rfl, hb⟩
      refine ⟨_, rfl, ?_⟩
      have HB1 := Aside0.mk (below_step HB0.out hb)
      clear HB0
      have HB0 := HB1
      clear HB1
      refine hK.out _ _ (hHeld.below hb) (fun hHeld => ?_)
      clear hK K hb
      refine PrintLast.norm_ (a' := ?_) ?_ ?_
      rotate_left
      · show Act.put _ (some 36) _ = _
        simp only [Act.put, List.setIfInBounds_toArray, List.set_cons_zero, List.set_cons_succ]
        rfl
      refine PrintLast.pure_ (i := 22) (N := some 37) (v := ?_) (a' := ?_) #[true, true, true, true, true, true, true, true, true, true, true, true, true, true, true, true, true, true, true, true, true, true, true, false, false, false, false] rfl rfl (by kernel_rfl) (fun _ _ _ h => h) (Or.inl ⟨by rfl, ?_⟩) ?_ ?_
      rotate_left
      · intro w'
        go_simp
        with_reducible rfl
      rotate_left
      · simp only [Act.put, List.setIfInBounds_toArray, List.set_cons_zero, List.set_cons_succ]
        rfl
      refine PrintLast.pure_ (i := 23) (N := some 38) (v := ?_) (a' := ?_) #[true, true, true, true, true, true, true, true, true, true, true, true, true, true, true, true, true, true, true, true, true, true, true, true, false, false, false] rfl rfl (by kernel_rfl) (fun _ _ _ h => h) (Or.inl ⟨by rfl, ?_⟩) ?_ ?_
      rotate_left
      · intro w'
        go_simp
        with_reducible rfl
      rotate_left
      · simp only [Act.put, List.setIfInBounds_toArray, List.set_cons_zero, List.set_cons_succ]
        rfl
      refine PrintLast.one_ (i := 24) (N := some 39) #[true, true, true, true, true, true, true, true, true, true, true, true, true, true, true, true, true, true, true, true, true, true, true, true, true, false, false] rfl rfl (by kernel_rfl) (by decide) (fun K hK => ?_)
      refine PrintLast.goes_ Try.func9 (by kernel_rfl) rfl #[] (by rfl) rfl rfl (by first | rfl | (simp only [List.map_toArray, List.map_cons, List.map_nil]; done) | (simp only [List.map_toArray, List.map_cons, List.map_nil]; rfl) | simp) ?_
      refine (lives_c _).mono ?_
      rintro e w3 ⟨rfl, hb⟩
      refine ⟨_, rfl, ?_⟩
      have HB1 := Aside0.mk (below_step HB0.out hb)
      clear HB0
      have HB0 := HB1
      clear HB1
      refine hK.out _ _ (hHeld.below hb) (fun hHeld => ?_)
      clear hK K hb
      refine PrintLast.norm_ (a' := ?_) ?_ ?_
      rotate_left
      · show Act.put _ (some 39) _ = _
        simp only [Act.put, List.setIfInBounds_toArray, List.set_cons_zero, List.set_cons_succ]
        rfl
      refine PrintLast.pure_ (i := 25) (N := some 40) (v := ?_) (a' := ?_) #[true, true, true, true, true, true, true, true, true, true, true, true, true, true, true, true, true, true, true, true, true, true, true, true, true, true, false] rfl rfl (by kernel_rfl) (fun _ _ _ h => h) (Or.inl ⟨by rfl, ?_⟩) ?_ ?_
      rotate_left
      · intro w'
        go_simp
        with_reducible rfl
      rotate_left
      · simp only [Act.put, List.setIfInBounds_toArray, List.set_cons_zero, List.set_cons_succ]
        rfl
      refine PrintLast.pure_ (i := 26) (N := some 6) (v := ?_) (a' := ?_) #[true, true, true, true, true, true, true, true, true, true, true, true, true, true, true, true, true, true, true, true, true, true, true, true, true, true, true] rfl rfl (by kernel_rfl) (fun _ _ _ h => h) (Or.inl ⟨by rfl, ?_⟩) ?_ ?_
      rotate_left
      · intro w'
        go_simp
        with_reducible rfl
      rotate_left
      · simp only [Act.put, List.setIfInBounds_toArray, List.set_cons_zero, List.set_cons_succ]
        rfl
      refine PrintLast.done_ (by kernel_rfl) ?_
      go_wp2_with fail
      go_ret
      exact ⟨rfl, HB0.out⟩
end Go.Proofs.Ytahihhklijcghaa
