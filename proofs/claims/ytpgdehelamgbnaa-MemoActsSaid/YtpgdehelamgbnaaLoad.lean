/-
  (*Table).Load, Clear and New; (*Entry).is.
-/
import Derived.Test.YtpgdehelamgbnaaCas
namespace Go.Proofs.Ytpgdehelamgbnaa
open Go.RowKit Go.Proofs.YtpgdehelamgbnaaW Go.Proofs.YtpgdehelamgbnaaW.PrintWords PMemoActs
set_option linter.unusedVariables false
set_option linter.unusedSimpArgs false
theorem store_none {P : Program} {op : Oper} {a : Act} {w : World} {K : Act → World → Prop} {Q : Exit → Act → World → Prop} (ty : TypeId) (x y : Operand) (ho : op.op = .store ty x y) (hN : op.dst = none)
    (b o : Nat) (cells : List Value) (hx : a.eval x = .pointer (some ⟨b, o, none⟩)) (hy : a.eval y = .agg cells.toArray)
    (ht : w.there b o cells.length) (hi : (P.info? ty).map (·.size) = some cells.length) (h1 : ∀ v ∈ cells, v.oneCell' = true)
    (h : K a (w.setCells b o cells)) : op.wp P a w K Q :=
  wp_store_mid ty x y ho b o cells.toArray hx hy (by simpa using ht) (by simpa using hi) (all_oneCell_toArray h1) (by rw [hN]; exact h)
theorem there_of {w : World} {g n : Nat} {cs : Array Value} {t : TypeId} (h : w.heap[g]? = some (.cells cs t (0, 0))) (hs : cs.size = n) : w.there g 0 n := fun j hj => by
  constructor
  · rw [Nat.zero_add, blk_cell h]
    simp [hs, hj]
  · exact blk_frozen h _
theorem set3 {w : World} {g : Nat} {a b c x y z : Value} {t : TypeId} (h : w.heap[g]? = some (.cells #[a, b, c] t (0, 0))) : (w.setCells g 0 [x, y, z]).heap[g]? = some (.cells #[x, y, z] t (0, 0)) := by
  have := blk_set (blk_set (blk_set h 0 x) 1 y) 2 z
  simpa [World.setCells] using this
theorem setCells_fr {S : Nat → Prop} {W0 : World} {g : Nat} (hg : S g ∨ W0.heap.size ≤ g) : ∀ (cs : List Value) (o : Nat) {W : World}, Fr S W0 W → Fr S W0 (W.setCells g o cs)
  | [], _, _, h => h
  | v :: r, o, _, h => setCells_fr hg r (o + 1) (h.setCell (p := ⟨g, o, none⟩) hg v)
theorem below_drew {B : Nat} {w w' : World} (h : Below B w w') : Below B w w'.drew := ⟨h.os, h.tape, h.output, h.size, h.block⟩
theorem own_setCells {b e s n g : Nat} {v : Value} {xs : List Value} : ∀ (cs : List Value) (o : Nat) {w : World}, w.ownsRow b e s v n xs → some g ≠ v.ownBlock → (w.setCells g o cs).ownsRow b e s v n xs
  | [], _, _, h, _ => h
  | c :: r, o, _, h, hne => own_setCells r (o + 1) (own_setCell h (p := ⟨g, o, none⟩) hne c) hne
/-- What Load reads: the entry, and the result's own block. -/
def LdS (w : World) (b r : Nat) (y : S31) (A : Option Addr) (c : Nat) : Prop := w.heap[b]? = some (.cells #[.int .i64 y.f0, .int .i64 y.f1, .slice A y.f2.length c] 31 (0, 0)) ∧
  w.heap[r]? = some (.cells #[.int .i64 0, .int .i64 0, .slice none 0 0] 31 (0, 0)) ∧ Kd.C Kd.string w A y.f2.length y.f2
theorem LdS.below {w w' : World} {b r : Nat} {y : S31} {A : Option Addr} {c : Nat} (h : LdS w b r y A c) (hb : Below w.heap.size w w') : LdS w' b r y A c :=
  ⟨(hb.block b (blk_lt h.1)).trans h.1, (hb.block r (blk_lt h.2.1)).trans h.2.1, Kd.C_below h.2.2 hb⟩
theorem En.reads {w : World} {F : Nat → Prop} {b : Nat} {y : S31} (h : En w F b y) : ∃ A c, w.heap[b]? = some (.cells #[.int .i64 y.f0, .int .i64 y.f1, .slice A y.f2.length c] 31 (0, 0)) ∧ y.f2.length ≤ c ∧ Kd.C Kd.string w A y.f2.length y.f2 := by
  obtain ⟨v, hb, _, ho, _⟩ := h
  obtain ⟨A, c, rfl, hc, hr⟩ := str_reads ho
  exact ⟨A, c, hb, hc, hr⟩
/-- What Load hands back. -/
def LoadP (W : World) (u : Option (Nat × S31)) (e : Ending) (w' : World) : Prop := Below W.heap.size W w' ∧
  match u with
  | none => e = .returned (.tuple #[.agg #[.int .i64 0, .int .i64 0, .slice none 0 0], .bool false])
  | some y => ∃ v, e = .returned (.tuple #[.agg #[.int .i64 y.2.f0, .int .i64 y.2.f1, v], .bool true]) ∧ w'.ownsRow W.heap.size 9 1 v y.2.f2.length (strs y.2.f2)
theorem zero31 : (Try.prog.info? 31).map (fun i => (i.zero, i.size)) = some (some (.agg #[.int .i64 0, .int .i64 0, .slice none 0 0]), 3) := by kernel_rfl
section
variable {W : World} {F : Nat → Prop} {x : Option Addr} {q : Nat} {L : List (Option (Nat × S31))}
set_option maxHeartbeats 1000000 in
set_option maxRecDepth 100000 in
theorem load_c (h : Tb W F x q L) (hs : ∀ b y, some (b, y) ∈ L → y.f2.length ≤ 8796093022200) (i : Int) : Calls Try.prog 15 #[.pointer x, .int .i64 i] W (LoadP W (look L i)) := by
  have hb1 := (Below.refl W.heap.size W).alloc (Nat.le_refl _) (.cells #[.int .i64 0, .int .i64 0, .slice none 0 0] 31)
  have H := Aside0.mk (h.below hb1)
  have HG := Aside0.mk (heap_alloc_new W (.cells #[.int .i64 0, .int .i64 0, .slice none 0 0] 31))
  have HB := Aside0.mk hb1
  have HS := Aside0.mk hs
  have HM : Aside0 (∀ b y, look L i = some (b, y) → some (b, y) ∈ L) := ⟨fun b y hl => by
    unfold look at hl
    split at hl
    · cases hl
    · rw [List.getD_eq_getElem?_getD] at hl
      cases hq : L[i.toNat]? with
      | none => rw [hq] at hl; cases hl
      | some u => rw [hq] at hl; cases hl; exact List.mem_of_getElem? hq⟩
  clear h hb1 hs
  go_enter Try.func15, Try.ntmps15
  go_wp2_with fail
  refine (at_c H.out i).mono ?_
  rintro e w1 ⟨rfl, rfl⟩
  generalize look L i = u at *
  cases u with
  | none =>
    unfold cellv ptrv
    dsimp only
    go_wp2_with fail
    have e0 := (blk_cell HG.out 0).trans rfl
    have e1 := (blk_cell HG.out 1).trans rfl
    have e2 := (blk_cell HG.out 2).trans rfl
    refine bodyPost_ret (v := .tuple #[.agg #[.int .i64 0, .int .i64 0, .slice none 0 0], .bool false]) ?_ rfl ⟨HB.out, rfl⟩
    simp [results, Try.f15, go_sem, e0, e1, e2]
  | some y =>
    obtain ⟨b, y⟩ := y
    have hm := HM.out b y rfl
    have HN := Aside0.mk (HS.out b y hm)
    obtain ⟨A, c, hbb, hcc, hr⟩ := (H.out.2.1 b y hm).reads
    have HX : Aside0 (LdS (W.alloc (.cells #[.int .i64 0, .int .i64 0, .slice none 0 0] 31)) b W.heap.size y A c) := ⟨hbb, HG.out, hr⟩
    have HL := Aside0.mk hcc
    clear hm hbb hcc hr HG HM HS H
    unfold cellv ptrv
    dsimp only
    generalize W.alloc (.cells #[.int .i64 0, .int .i64 0, .slice none 0 0] 31) = w1 at *
    go_wp2_with fail
    refine PrintLast.start_ (n := 16) (S := fun w' => LdS w' b W.heap.size y A c) (ds := [14]) #[false, false, false, false, false, false, false, false, false, false, false, false, false, false, false, false] (by kernel_rfl) rfl rfl (HX.out.below (below_drew (Below.refl _ _))) (fun hHeld => ?_)
    have HB4 := Aside0.mk (below_drew HB.out)
    clear HX HB
    generalize w1.drew = w4 at *
    refine PrintLast.pure_ (i := 0) (N := some 13) (v := ?_) (a' := ?_) #[true, false, false, false, false, false, false, false, false, false, false, false, false, false, false, false] rfl rfl (by kernel_rfl) (fun _ _ _ h => h) (Or.inl ⟨by rfl, ?_⟩) ?_ ?_
    rotate_left
    · intro w'
      go_simp
      with_reducible rfl
    rotate_left
    · simp only [Act.put, List.setIfInBounds_toArray, List.set_cons_zero, List.set_cons_succ]
      rfl
    refine PrintLast.pure_ (i := 1) (N := some 14) (v := ?_) (a' := ?_) #[true, true, false, false, false, false, false, false, false, false, false, false, false, false, false, false] rfl rfl (by kernel_rfl) (fun _ _ _ h => h) (Or.inl ⟨by rfl, ?_⟩) ?_ ?_
    rotate_left
    · intro w'
      go_simp
      with_reducible rfl
    rotate_left
    · simp only [Act.put, List.setIfInBounds_toArray, List.set_cons_zero, List.set_cons_succ]
      rfl
    refine PrintLast.pure_ (i := 2) (N := some 15) (v := ?_) (a' := ?_) #[true, true, true, false, false, false, false, false, false, false, false, false, false, false, false, false] rfl rfl (by kernel_rfl) (fun _ _ _ h => h) (Or.inl ⟨by rfl, ?_⟩) ?_ ?_
    rotate_left
    · intro w'
      go_simp
      with_reducible rfl
    rotate_left
    · simp only [Act.put, List.setIfInBounds_toArray, List.set_cons_zero, List.set_cons_succ]
      rfl
    refine PrintLast.take_ (i := 3) (N := some 16) (v := .int .i64 y.f0) (a' := ?_) #[true, true, true, true, false, false, false, false, false, false, false, false, false, false, false, false] rfl rfl (by kernel_rfl) (fun _ _ _ h => h) (Or.inl ⟨by rfl, ?_⟩) hHeld ?_ ?_
    · intro w' hS
      have hc2 := (blk_cell hS.1 0).trans rfl
      go_simp
    rotate_left
    · simp only [Act.put, List.setIfInBounds_toArray, List.set_cons_zero, List.set_cons_succ]
      rfl
    refine PrintLast.pure_ (i := 4) (N := some 17) (v := ?_) (a' := ?_) #[true, true, true, true, true, false, false, false, false, false, false, false, false, false, false, false] rfl rfl (by kernel_rfl) (fun _ _ _ h => h) (Or.inl ⟨by rfl, ?_⟩) ?_ ?_
    rotate_left
    · intro w'
      go_simp
      with_reducible rfl
    rotate_left
    · simp only [Act.put, List.setIfInBounds_toArray, List.set_cons_zero, List.set_cons_succ]
      rfl
    refine PrintLast.pure_ (i := 5) (N := some 18) (v := ?_) (a' := ?_) #[true, true, true, true, true, true, false, false, false, false, false, false, false, false, false, false] rfl rfl (by kernel_rfl) (fun _ _ _ h => h) (Or.inl ⟨by rfl, ?_⟩) ?_ ?_
    rotate_left
    · intro w'
      go_simp
      with_reducible rfl
    rotate_left
    · simp only [Act.put, List.setIfInBounds_toArray, List.set_cons_zero, List.set_cons_succ]
      rfl
    refine PrintLast.pure_ (i := 6) (N := some 19) (v := ?_) (a' := ?_) #[true, true, true, true, true, true, true, false, false, false, false, false, false, false, false, false] rfl rfl (by kernel_rfl) (fun _ _ _ h => h) (Or.inl ⟨by rfl, ?_⟩) ?_ ?_
    rotate_left
    · intro w'
      go_simp
      with_reducible rfl
    rotate_left
    · simp only [Act.put, List.setIfInBounds_toArray, List.set_cons_zero, List.set_cons_succ]
      rfl
    refine PrintLast.take_ (i := 7) (N := some 20) (v := .int .i64 y.f1) (a' := ?_) #[true, true, true, true, true, true, true, true, false, false, false, false, false, false, false, false] rfl rfl (by kernel_rfl) (fun _ _ _ h => h) (Or.inl ⟨by rfl, ?_⟩) hHeld ?_ ?_
    · intro w' hS
      have hc2 := (blk_cell hS.1 1).trans rfl
      go_simp
    rotate_left
    · simp only [Act.put, List.setIfInBounds_toArray, List.set_cons_zero, List.set_cons_succ]
      rfl
    refine PrintLast.pure_ (i := 8) (N := some 21) (v := ?_) (a' := ?_) #[true, true, true, true, true, true, true, true, true, false, false, false, false, false, false, false] rfl rfl (by kernel_rfl) (fun _ _ _ h => h) (Or.inl ⟨by rfl, ?_⟩) ?_ ?_
    rotate_left
    · intro w'
      go_simp
      with_reducible rfl
    rotate_left
    · simp only [Act.put, List.setIfInBounds_toArray, List.set_cons_zero, List.set_cons_succ]
      rfl
    refine PrintLast.pure_ (i := 9) (N := some 22) (v := ?_) (a' := ?_) #[true, true, true, true, true, true, true, true, true, true, false, false, false, false, false, false] rfl rfl (by kernel_rfl) (fun _ _ _ h => h) (Or.inl ⟨by rfl, ?_⟩) ?_ ?_
    rotate_left
    · intro w'
      go_simp
      with_reducible rfl
    rotate_left
    · simp only [Act.put, List.setIfInBounds_toArray, List.set_cons_zero, List.set_cons_succ]
      rfl
    refine PrintLast.pure_ (i := 10) (N := some 23) (v := ?_) (a' := ?_) #[true, true, true, true, true, true, true, true, true, true, true, false, false, false, false, false] rfl rfl (by kernel_rfl) (fun _ _ _ h => h) (Or.inl ⟨by rfl, ?_⟩) ?_ ?_
    rotate_left
    · intro w'
      go_simp
      with_reducible rfl
    rotate_left
    · simp only [Act.put, List.setIfInBounds_toArray, List.set_cons_zero, List.set_cons_succ]
      rfl
    refine PrintLast.take_ (i := 11) (N := some 24) (v := .slice A y.f2.length c) (a' := ?_) #[true, true, true, true, true, true, true, true, true, true, true, true, false, false, false, false] rfl rfl (by kernel_rfl) (fun _ _ _ h => h) (Or.inl ⟨by rfl, ?_⟩) hHeld ?_ ?_
    · intro w' hS
      have hc2 := (blk_cell hS.1 2).trans rfl
      go_simp
    rotate_left
    · simp only [Act.put, List.setIfInBounds_toArray, List.set_cons_zero, List.set_cons_succ]
      rfl
    refine PrintLast.one_ (i := 12) (N := some 25) #[true, true, true, true, true, true, true, true, true, true, true, true, true, false, false, false] rfl rfl (by kernel_rfl) (by decide) (fun K hK => ?_)
    refine PrintLast.goes_ Try.func31 (by kernel_rfl) rfl #[.slice A y.f2.length c] (by rfl) rfl rfl (by first | rfl | (simp only [List.map_toArray, List.map_cons, List.map_nil]; rfl)) ?_
    refine (clone_c hHeld.2.2 HN.out).mono ?_
    rintro e w5 ⟨v1, rfl, ho, hb⟩
    refine ⟨_, rfl, ?_⟩
    have HW5 := Aside0.mk HB4.out.size
    have HB1 := Aside0.mk (below_step HB4.out hb)
    clear HB4
    have HB4 := HB1
    clear HB1
    have HO := Aside0.mk ho
    obtain ⟨A1, c1, rfl, hc1, _⟩ := str_reads ho
    clear ho hc1
    refine hK.out _ _ (hHeld.below hb) (fun hHeld => ?_)
    clear hK K
    refine PrintLast.norm_ (a' := ?_) ?_ ?_
    rotate_left
    · show Act.put _ (some 25) _ = _
      simp only [Act.put, List.setIfInBounds_toArray, List.set_cons_zero, List.set_cons_succ]
      rfl
    refine PrintLast.pure_ (i := 13) (N := some 26) (v := ?_) (a' := ?_) #[true, true, true, true, true, true, true, true, true, true, true, true, true, true, false, false] rfl rfl (by kernel_rfl) (fun _ _ _ h => h) (Or.inl ⟨by rfl, ?_⟩) ?_ ?_
    rotate_left
    · intro w'
      go_simp
      with_reducible rfl
    rotate_left
    · simp only [Act.put, List.setIfInBounds_toArray, List.set_cons_zero, List.set_cons_succ]
      rfl
    refine PrintLast.last_ (i := 14) (N := none) #[true, true, true, true, true, true, true, true, true, true, true, true, true, true, true, false] rfl rfl (by kernel_rfl) (by decide) (fun K hK => ?_)
    rw [if_pos (by rfl)]
    refine store_none 31 _ _ rfl rfl W.heap.size 0 [.int .i64 y.f0, .int .i64 y.f1, .slice A1 y.f2.length c1] rfl rfl (there_of hHeld.2.1 rfl) (by kernel_rfl) (by intro v hv; simp at hv; rcases hv with rfl | rfl | rfl <;> rfl) ?_
    refine hK.out _ _ ?_
    clear hK K
    refine PrintLast.pure_ (i := 15) (N := some 5) (v := ?_) (a' := ?_) #[true, true, true, true, true, true, true, true, true, true, true, true, true, true, true, true] rfl rfl (by kernel_rfl) (fun _ _ _ h => h) (Or.inl ⟨by rfl, ?_⟩) ?_ ?_
    rotate_left
    · intro w'
      go_simp
      with_reducible rfl
    rotate_left
    · simp only [Act.put, List.setIfInBounds_toArray, List.set_cons_zero, List.set_cons_succ]
      rfl
    refine PrintLast.done_ (by kernel_rfl) ?_
    have hg6 := set3 hHeld.2.1 (x := .int .i64 y.f0) (y := .int .i64 y.f1) (z := .slice A1 y.f2.length c1)
    have hf6 := (setCells_fr (W0 := W) (S := fun _ => False) (g := W.heap.size) (Or.inr (Nat.le_refl _)) [.int .i64 y.f0, .int .i64 y.f1, .slice A1 y.f2.length c1] 0 (Fr.of_below HB4.out _)).to_below (Nat.le_refl _) (fun _ hk => hk.elim)
    have ho6 : (w5.setCells W.heap.size 0 [.int .i64 y.f0, .int .i64 y.f1, .slice A1 y.f2.length c1]).ownsRow W.heap.size 9 1 (.slice A1 y.f2.length c1) y.f2.length (strs y.f2) := own_setCells _ _ (own_weaken HO.out HW5.out) (own_ne HO.out hHeld.2.1 (by decide))
    have HF6 := Aside0.mk hf6
    have HO6 := Aside0.mk ho6
    clear hf6 ho6 HO HB4
    generalize w5.setCells W.heap.size 0 [.int .i64 y.f0, .int .i64 y.f1, .slice A1 y.f2.length c1] = w6 at *
    have c0 : w6.cell? ⟨W.heap.size, 0, none⟩ = some (.int .i64 y.f0) := (blk_cell hg6 0).trans rfl
    have c1' : w6.cell? ⟨W.heap.size, 1, none⟩ = some (.int .i64 y.f1) := (blk_cell hg6 1).trans rfl
    have c2 : w6.cell? ⟨W.heap.size, 2, none⟩ = some (.slice A1 y.f2.length c1) := (blk_cell hg6 2).trans rfl
    go_wp2_with fail
    refine bodyPost_ret (v := .tuple #[.agg #[.int .i64 y.f0, .int .i64 y.f1, .slice A1 y.f2.length c1], .bool true]) ?_ rfl ⟨HF6.out, _, rfl, HO6.out⟩
    simp [results, Try.f15, go_sem, c0, c1', c2]
end
end Go.Proofs.Ytpgdehelamgbnaa
