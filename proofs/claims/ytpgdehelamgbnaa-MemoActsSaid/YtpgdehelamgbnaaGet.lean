/-
  (*Table).Get: the style of the first entry that is one's.
-/
import Derived.Test.YtpgdehelamgbnaaScan
namespace Go.Proofs.Ytpgdehelamgbnaa
open Go.RowKit Go.Proofs.YtpgdehelamgbnaaW Go.Proofs.YtpgdehelamgbnaaW.PrintWords PMemoActs
set_option linter.unusedVariables false
set_option linter.unusedSimpArgs false
attribute [local go_sem] Oper.semAt_some
theorem keeps_below {W W' : World} (h : Below W.heap.size W W') : KeepsOthers W W' := ⟨h.size, fun k o hk ho => (h.block k (blk_lt hk)).trans hk⟩
theorem ownFrom_blk {β : Type} (B g : Nat) (cs : Array Value) (t : TypeId) : OwnFrom B (fun (_ : β) W => W.heap[g]? = some (.cells cs t (0, 0))) := fun _ W W' row hs hg hr => by
  refine (hg.block g (blk_lt hs) (fun e => ?_)).trans hs
  obtain ⟨_, o, ho, hc⟩ := hr g e.symm
  rw [hs] at ho
  cases ho
  cases hc
theorem ownFrom_own {β : Type} (B b e s n : Nat) (v : Value) (xs : List Value) : OwnFrom B (fun (_ : β) W => W.ownsRow b e s v n xs) := fun _ W W' row hs hg hr => by
  refine own_move hs (fun k hk => hg.block k (own_lt hs k hk) (fun e => ?_))
  obtain ⟨cells, hcell⟩ := own_typed hs k hk
  obtain ⟨_, o, ho, hc⟩ := hr k e.symm
  rw [hcell] at ho
  cases ho
  cases hc
theorem OwnFrom.or {β : Type} {B : Nat} {I I' : β → World → Prop} (h : OwnFrom B I) (h' : OwnFrom B I') : OwnFrom B (fun s W => I s W ∨ I' s W) := fun s W W' row hs hg hr => hs.imp (fun k => h s W W' row k hg hr) (fun k => h' s W W' row k hg hr)
theorem ownFrom_ex {β γ : Type} {B : Nat} {I : γ → β → World → Prop} (h : ∀ a, OwnFrom B (I a)) : OwnFrom B (fun s W => ∃ a, I a s W) := fun s W W' row ⟨a, ha⟩ hg hr => ⟨a, h a s W W' row ha hg hr⟩
/-- Blocks made one after the other. -/
def allocs (w : World) : List Obj → World
  | [] => w
  | o :: r => allocs (w.alloc o) r
theorem allocs_below : ∀ (os : List Obj) (w : World), Below w.heap.size w (allocs w os)
  | [], w => Below.refl _ _
  | o :: r, w => below_then ((Below.refl w.heap.size w).alloc (Nat.le_refl _) o) (by simp) (allocs_below r (w.alloc o))
theorem allocs_size : ∀ (os : List Obj) (w : World), (allocs w os).heap.size = w.heap.size + os.length
  | [], w => rfl
  | o :: r, w => by
    show (allocs (w.alloc o) r).heap.size = _
    rw [allocs_size r, World.size_alloc, List.length_cons]
    omega
theorem allocs_get : ∀ (os : List Obj) (w : World) (k : Nat), k < os.length → (allocs w os).heap[w.heap.size + k]? = os[k]?
  | o :: r, w, 0, _ => ((allocs_below r (w.alloc o)).block w.heap.size (by simp)).trans (heap_alloc_new w o)
  | o :: r, w, k + 1, h => by
    have := allocs_get r (w.alloc o) k (by simpa using h)
    rw [World.size_alloc] at this
    rw [show w.heap.size + (k + 1) = w.heap.size + 1 + k by omega]
    exact this
/-- A round of Get that has found the entry. -/
def GetR (W : World) (L : List (Option (Nat × S31))) (ep nd : Int) (pre : List (Fin L.length)) (W' : World) : Prop :=
  ∃ (v : Value) (y : S31), (∃ pre0 i b, pre = pre0 ++ [i] ∧ (∀ j ∈ pre0, Passed ep nd L j) ∧ L[i.val] = some (b, y) ∧ keyed ep nd y = true) ∧ W'.heap[W.heap.size + 2]? = some (.cells #[v] 29 (0, 0)) ∧
    W'.heap[W.heap.size + 3]? = some (.cells #[.bool true] 4 (0, 0)) ∧ W'.ownsRow W.heap.size 9 1 v y.f2.length (strs y.f2) ∧ Below W.heap.size W W'
/-- A round that has come to an empty cell. -/
def GetE (W0 : World) (L : List (Option (Nat × S31))) (ep nd : Int) (pre : List (Fin L.length)) (W' : World) : Prop :=
  (∃ pre0 i, pre = pre0 ++ [i] ∧ (∀ j ∈ pre0, Passed ep nd L j) ∧ L[i.val] = none) ∧ Below W0.heap.size W0 W'
theorem getR_own {W : World} {L : List (Option (Nat × S31))} {ep nd : Int} {B : Nat} (hB : W.heap.size ≤ B) : OwnFrom B (GetR W L ep nd) :=
  ownFrom_ex fun v => ownFrom_ex fun y => OwnFrom.and (ownFrom_pure _ _) (OwnFrom.and (ownFrom_blk _ _ _ _) (OwnFrom.and (ownFrom_blk _ _ _ _) (OwnFrom.and (ownFrom_own _ _ _ _ _ _ _) (ownFrom_below (Nat.le_refl _) hB))))
theorem getE_own {W : World} {L : List (Option (Nat × S31))} {ep nd : Int} : OwnFrom W.heap.size (GetE W L ep nd) := OwnFrom.and (ownFrom_pure _ _) (ownFrom_below (Nat.le_refl _) (Nat.le_refl _))
/-- What Get hands back. -/
def GetP (W : World) (r : Hit) (e : Ending) (w' : World) : Prop := Below W.heap.size W w' ∧
  match r with
  | .hit _ y => ∃ v, e = .returned (.tuple #[v, .bool true]) ∧ w'.ownsRow W.heap.size 9 1 v y.f2.length (strs y.f2)
  | _ => e = .returned (.tuple #[.slice none 0 0, .bool false])
section
variable {W : World} {F : Nat → Prop} {x : Option Addr} {q : Nat} {L : List (Option (Nat × S31))}
set_option maxHeartbeats 2000000 in
set_option maxRecDepth 100000 in
theorem get_c (h : Tb W F x q L) (hs : ∀ b y, some (b, y) ∈ L → y.f2.length ≤ 8796093022200) (ep nd : Int) :
    Calls Try.prog 12 #[.pointer x, .int .i64 ep, .int .i64 nd] W (GetP W (scan ep nd (line (absT L) (homeN L.length ep nd)))) := by
  obtain ⟨hh1, hh2⟩ := homeN_spec L.length ep nd h.1
  have HH2 := Aside0.mk hh2
  have HS := Aside0.mk hs
  have H := Aside0.mk h
  have hBel : Below W.heap.size W ((((W.alloc (.cells #[.int .i64 ep] 3)).alloc (.cells #[.int .i64 nd] 3)).alloc (.cells #[.slice none 0 0] 29)).alloc (.cells #[.bool false] 4)) :=
    ((((Below.refl W.heap.size W).alloc (Nat.le_refl _) _).alloc (by simp) _).alloc (by simp; omega) _).alloc (by simp; omega) _
  have H4 := Aside0.mk (h.below hBel)
  have HB4 := Aside0.mk hBel
  clear h hs hBel hh2
  refine (callsIn_wide (n := 6)).1 ?_
  refine callsIn_of_wp_marks Try.func12 rfl trivial ?_ rfl
  simp only [Try.ntmps12, List.size_toArray, List.length_cons, List.length_nil, Nat.reduceAdd, Nat.reduceSub, Array.replicate_succ, Array.replicate_zero, List.push_toArray, List.append_toArray, List.nil_append, List.cons_append]
  gi_wp2_with (first
    | (refine ⟨trivial, ?_⟩; gi_at_call 16; refine (callsIn_wide.2 (home_c H4.out ep nd)).mono ?_; rintro e w1 ⟨rfl, rfl⟩)
    | (refine ⟨trivial, ?_⟩; gi_at_call 29; refine (callsIn_wide.2 (from_c x _)).mono ?_; rintro e w1 ⟨rfl, rfl⟩))
  obtain ⟨hm, hmv⟩ : ∃ hm, homeN L.length ep nd = hm := ⟨_, rfl⟩
  rw [hmv] at HH2 ⊢
  obtain ⟨W0, hW0⟩ : ∃ W0, ((((((W.alloc (.cells #[.int .i64 ep] 3)).alloc (.cells #[.int .i64 nd] 3)).alloc (.cells #[.slice none 0 0] 29)).alloc (.cells #[.bool false] 4)).alloc (.cells #[.pointer x] 24)).alloc (.cells #[.int .i64 (hm : Int)] 3)) = W0 := ⟨_, rfl⟩
  have hA : allocs W [.cells #[.int .i64 ep] 3, .cells #[.int .i64 nd] 3, .cells #[.slice none 0 0] 29, .cells #[.bool false] 4, .cells #[.pointer x] 24, .cells #[.int .i64 (hm : Int)] 3] = W0 := hW0
  have ag := allocs_get [.cells #[.int .i64 ep] 3, .cells #[.int .i64 nd] 3, .cells #[.slice none 0 0] 29, .cells #[.bool false] 4, .cells #[.pointer x] 24, .cells #[.int .i64 (hm : Int)] 3] W
  have hB0 := allocs_below [.cells #[.int .i64 ep] 3, .cells #[.int .i64 nd] 3, .cells #[.slice none 0 0] 29, .cells #[.bool false] 4, .cells #[.pointer x] 24, .cells #[.int .i64 (hm : Int)] 3] W
  rw [hA] at ag hB0
  have b0 : W0.heap[W.heap.size]? = some (.cells #[.int .i64 ep] 3 (0, 0)) := ag 0 (by simp)
  have b1 : W0.heap[W.heap.size + 1]? = some (.cells #[.int .i64 nd] 3 (0, 0)) := ag 1 (by simp)
  have b2 : W0.heap[W.heap.size + 2]? = some (.cells #[.slice none 0 0] 29 (0, 0)) := ag 2 (by simp)
  have b3 : W0.heap[W.heap.size + 3]? = some (.cells #[.bool false] 4 (0, 0)) := ag 3 (by simp)
  have b4 : W0.heap[W.heap.size + 4]? = some (.cells #[.pointer x] 24 (0, 0)) := ag 4 (by simp)
  have b5 : W0.heap[W.heap.size + 5]? = some (.cells #[.int .i64 (hm : Int)] 3 (0, 0)) := ag 5 (by simp)
  clear ag hA
  rw [hW0]
  have HT0 := Aside0.mk (H.out.below hB0)
  clear hW0 H4 HB4 H
  have cl0 : W0.cell? ⟨W.heap.size, 0, none⟩ = some (.int .i64 ep) := (blk_cell b0 0).trans rfl
  have cl1 : W0.cell? ⟨W.heap.size + 1, 0, none⟩ = some (.int .i64 nd) := (blk_cell b1 0).trans rfl
  refine wpIn_rangeFunc_ownF (F := Fence.wide) (n := 6) rfl (by decide) (gf := 35) (lb := #[.pointer (some ⟨W.heap.size + 4, 0, none⟩), .pointer (some ⟨W.heap.size + 5, 0, none⟩)]) rfl trivial (enters_of Try.func35 (by kernel_rfl) rfl)
    (from_stops HT0.out HH2.out (by decide) ((blk_cell b4 0).trans rfl) ((blk_cell b5 0).trans rfl)) belowK_t (belowK_b (Nat.le_refl _)) (Below.refl _ _) (fun _ => rfl)
    (fun pre W' => (∀ i ∈ pre, Passed ep nd L i) ∧ Below W0.heap.size W0 W')
    (fun c pre W' => (c = .ret ∧ GetR W L ep nd pre W') ∨ (c = .exit 0 ∧ GetE W0 L ep nd pre W'))
    (OwnFrom.and (ownFrom_pure _ _) (ownFrom_below (Nat.le_refl _) (Nat.le_refl _)))
    (fun c => OwnFrom.or (OwnFrom.and (ownFrom_pure _ _) (getR_own hB0.size)) (OwnFrom.and (ownFrom_pure _ _) getE_own))
    ⟨fun i hi => by simp at hi, Below.refl _ _⟩
    (fun i => { tmps := #[.pointer x, .int .i64 ep, .int .i64 nd, undef, .pointer (some ⟨W.heap.size, 0, none⟩), .pointer (some ⟨W.heap.size + 1, 0, none⟩), .pointer (some ⟨W.heap.size + 1 + 1, 0, none⟩), .pointer (some ⟨W.heap.size + 1 + 1 + 1, 0, none⟩), undef, .pointer (ptrv L[i.val]), .pointer x, .pointer x, .int .i64 ep, .int .i64 nd, .int .i64 (hm : Int), .func (.func 35) #[] #[.pointer (some ⟨W.heap.size + 1 + 1 + 1 + 1, 0, none⟩), .pointer (some ⟨W.heap.size + 1 + 1 + 1 + 1 + 1, 0, none⟩)], .int .i64 (i.val : Int), .pointer (ptrv L[i.val]), undef, undef, undef, undef, undef, undef, undef, undef, undef, undef, undef], defers := [] }) ?assign ?body ?done ?stop
  case assign =>
    intro l i W' K hK
    dsimp only [encs2]
    gi_wp2
    exact hK
  case body =>
    rintro l pre i W' ⟨hp, hb⟩ _
    have HP := Aside0.mk hp
    have HBb := Aside0.mk hb
    have cl0 : W'.cell? ⟨W.heap.size, 0, none⟩ = some (.int .i64 ep) := (hb.cell (p := ⟨W.heap.size, 0, none⟩) (blk_lt b0)).trans ((blk_cell b0 0).trans rfl)
    have cl1 : W'.cell? ⟨W.heap.size + 1, 0, none⟩ = some (.int .i64 nd) := (hb.cell (p := ⟨W.heap.size + 1, 0, none⟩) (blk_lt b1)).trans ((blk_cell b1 0).trans rfl)
    have r2 := (hb.block _ (blk_lt b2)).trans b2
    have r3 := (hb.block _ (blk_lt b3)).trans b3
    have HT := Aside0.mk (HT0.out.below hb)
    obtain ⟨u, hu⟩ : ∃ u, L[i.val] = u := ⟨_, rfl⟩
    have HR2 := Aside0.mk r2
    have HR3 := Aside0.mk r3
    rw [hu]
    have HU := Aside0.mk hu
    clear hp hb hu r2 r3 b0 b1 b2 b3 b4 b5
    cases u with
    | none =>
      simp only [ptrv]
      gi_wp2
      exact ⟨KeepsOthers.refl _, Or.inr ⟨rfl, ⟨pre, i, rfl, HP.out, HU.out⟩, HBb.out⟩⟩
    | some z =>
      obtain ⟨b, y⟩ := z
      have hmem : some (b, y) ∈ L := by rw [← HU.out]; exact List.getElem_mem _
      have HE := Aside0.mk (HT.out.2.1 b y hmem)
      have HN := Aside0.mk (HS.out b y hmem)
      clear hmem
      simp only [ptrv]
      obtain ⟨A, c, hb2, hcc, hrd⟩ := HE.out.reads
      have c2 : W'.cell? ⟨b, 2, none⟩ = some (.slice A y.f2.length c) := (blk_cell hb2 2).trans rfl
      have HRD := Aside0.mk hrd
      clear hb2 hrd
      cases hk : keyed ep nd y with
      | false =>
        have HK := Aside0.mk hk
        clear hk
        gi_wp2_with (refine ⟨trivial, ?_⟩; gi_at_call 30; refine (CallsIn.inRound l (callsIn_wide.2 (is_c HE.out ep nd))).mono ?_; rintro e w1 ⟨he, rfl⟩; replace he : e = .returned (.bool (keyed ep nd y)) := he; rw [HK.out] at he; subst he)
        exact ⟨KeepsOthers.refl _, Below.refl _ _, fun j hj => (List.mem_append.1 hj).elim (HP.out j) (fun e => by rw [List.mem_singleton.1 e]; exact ⟨b, y, HU.out, HK.out⟩), HBb.out⟩
      | true =>
        have HK := Aside0.mk hk
        clear hk
        gi_wp2_with (first
          | (refine ⟨trivial, ?_⟩; gi_at_call 30; refine (CallsIn.inRound l (callsIn_wide.2 (is_c HE.out ep nd))).mono ?_; rintro e w1 ⟨he, rfl⟩; replace he : e = .returned (.bool (keyed ep nd y)) := he; rw [HK.out] at he; subst he)
          | (refine ⟨trivial, ?_⟩; gi_at_call 31; refine (CallsIn.inRound l (callsIn_wide.2 (clone_c HRD.out HN.out))).mono ?_; rintro e w2 ⟨v1, rfl, ho, hb⟩; obtain ⟨A1, c1, rfl, hc1, _⟩ := str_reads ho; have d2 := blk_cell ((hb.block _ (blk_lt HR2.out)).trans HR2.out) 0; have d3 := blk_cell ((hb.block _ (blk_lt HR3.out)).trans HR3.out) 0; have f2 := blk_frozen ((hb.block _ (blk_lt HR2.out)).trans HR2.out) 0; have f3 := blk_frozen ((hb.block _ (blk_lt HR3.out)).trans HR3.out) 0; have HO := Aside0.mk ho; have HB := Aside0.mk hb; clear ho hb))
        have e2 : w2.heap[W.heap.size + 2]? = some (.cells #[.slice none 0 0] 29 (0, 0)) := (HB.out.block _ (blk_lt HR2.out)).trans HR2.out
        have e3 : w2.heap[W.heap.size + 3]? = some (.cells #[.bool false] 4 (0, 0)) := (HB.out.block _ (blk_lt HR3.out)).trans HR3.out
        refine ⟨(keeps_below HB.out).trans ((KeepsOthers.setCell _ _ _).trans (KeepsOthers.setCell _ _ _)), Or.inl ⟨rfl, .slice A1 y.f2.length c1, y, ⟨pre, i, b, rfl, HP.out, HU.out, HK.out⟩, ?_, ?_, ?_, ?_⟩⟩
        · exact blk_far (blk_set e2 0 (.slice A1 y.f2.length c1)) (p := ⟨W.heap.size + 3, 0, none⟩) (by simp) _
        · exact blk_set (blk_far e3 (p := ⟨W.heap.size + 2, 0, none⟩) (by simp) _) 0 (.bool true)
        · have o1 := own_weaken HO.out (base' := W.heap.size) (Nat.le_trans hB0.size (Nat.le_trans HBb.out.size (Nat.le_refl _)))
          have o2 := own_setCell o1 (p := ⟨W.heap.size + 2, 0, none⟩) (own_ne o1 e2 (by decide)) (.slice A1 y.f2.length c1)
          exact own_setCell o2 (p := ⟨W.heap.size + 3, 0, none⟩) (own_ne o2 (blk_far e3 (p := ⟨W.heap.size + 2, 0, none⟩) (by simp) _) (by decide)) _
        · exact ((below_step (below_step hB0 HBb.out) HB.out).setCell (p := ⟨W.heap.size + 2, 0, none⟩) (by simp) _).setCell (p := ⟨W.heap.size + 3, 0, none⟩) (by simp) _
  case done =>
    rintro D xs W' hD rfl ⟨hp, hb⟩ hK
    have HP := Aside0.mk hp
    have HBb := Aside0.mk hb
    have r2 := (hb.block _ (blk_lt b2)).trans b2
    have r3 := (hb.block _ (blk_lt b3)).trans b3
    have d2 := blk_cell r2 0
    have d3 := blk_cell r3 0
    have f2 := blk_frozen r2 0
    have f3 := blk_frozen r3 0
    have HD := Aside0.mk hD
    have HKK := Aside0.mk hK
    clear hp hb hK hD
    gi_wp2
    have h2 : ((W'.setCell ⟨W.heap.size + 1 + 1, 0, none⟩ (.slice none 0 0)).setCell ⟨W.heap.size + 1 + 1 + 1, 0, none⟩ (.bool false)).heap[W.heap.size + 2]? = some (.cells #[.slice none 0 0] 29 (0, 0)) :=
      blk_far (blk_set r2 0 (.slice none 0 0)) (p := ⟨W.heap.size + 3, 0, none⟩) (by simp) _
    have h3 : ((W'.setCell ⟨W.heap.size + 1 + 1, 0, none⟩ (.slice none 0 0)).setCell ⟨W.heap.size + 1 + 1 + 1, 0, none⟩ (.bool false)).heap[W.heap.size + 3]? = some (.cells #[.bool false] 4 (0, 0)) :=
      blk_set (blk_far r3 (p := ⟨W.heap.size + 2, 0, none⟩) (by simp) _) 0 (.bool false)
    have h4 : Below W.heap.size W ((W'.setCell ⟨W.heap.size + 1 + 1, 0, none⟩ (.slice none 0 0)).setCell ⟨W.heap.size + 1 + 1 + 1, 0, none⟩ (.bool false)) :=
      ((below_step hB0 HBb.out).setCell (p := ⟨W.heap.size + 2, 0, none⟩) (by simp) _).setCell (p := ⟨W.heap.size + 3, 0, none⟩) (by simp) _
    have hK4 := ((KeepsOthers.setCell W' ⟨W.heap.size + 1 + 1, 0, none⟩ (.slice none 0 0)).trans (KeepsOthers.setCell _ ⟨W.heap.size + 1 + 1 + 1, 0, none⟩ (.bool false))).same D _ HKK.out rfl
    generalize (W'.setCell ⟨W.heap.size + 1 + 1, 0, none⟩ (.slice none 0 0)).setCell ⟨W.heap.size + 1 + 1 + 1, 0, none⟩ (.bool false) = w4 at *
    have q2 : w4.cell? ⟨W.heap.size + 1 + 1, 0, none⟩ = some (.slice none 0 0) := (blk_cell h2 0).trans rfl
    have q3 : w4.cell? ⟨W.heap.size + 1 + 1 + 1, 0, none⟩ = some (.bool false) := (blk_cell h3 0).trans rfl
    have p2 := cell_kept q2 (grownBy_putObj' w4 D (.deferred none)) (fun r e => by cases e; exact ⟨_, hK4, rfl⟩)
    have p3 := cell_kept q3 (grownBy_putObj' w4 D (.deferred none)) (fun r e => by cases e; exact ⟨_, hK4, rfl⟩)
    refine ⟨by simp, .inl ⟨_, _, rfl, run_takeDeferred hK4, ?_⟩⟩
    refine ⟨.tuple #[(.slice none 0 0), .bool false], by simp [results, Try.f12, go_sem, p2, p3], OwnFrom.putObj (I := fun (_ : Unit) W' => Below W.heap.size W W') (s := ()) (ownFrom_below (Nat.le_refl _) (Nat.le_trans hB0.size HD.out)) _ h4 (Nat.le_refl _) hK4 rfl, ?_⟩
    rw [hmv, scan_all HP.out]
  case stop =>
    rintro D c pre W' hD hpre hx hK
    have HD := Aside0.mk hD
    have HKK := Aside0.mk hK
    rcases hx with ⟨rfl, hx⟩ | ⟨rfl, hx⟩
    · obtain ⟨v, y, ⟨pre0, i, b, rfl, hp, hi, hk⟩, h2, h3, ho, h4⟩ := hx
      have hsc := scan_hit hpre hp hi hk
      obtain ⟨A1, c1, rfl, hc1, _⟩ := str_reads ho
      have hK4 := hK
      have HO := Aside0.mk ho
      have HX := Aside0.mk (And.intro h2 (And.intro h3 (And.intro h4 hK4)))
      clear hK hpre hp hi hk ho hc1 h2 h3 h4 hK4 hD
      gi_wp2
      obtain ⟨h2, h3, h4, hK4⟩ := HX.out
      generalize W' = w4 at *
      have q2 : w4.cell? ⟨W.heap.size + 1 + 1, 0, none⟩ = some (.slice A1 y.f2.length c1) := (blk_cell h2 0).trans rfl
      have q3 : w4.cell? ⟨W.heap.size + 1 + 1 + 1, 0, none⟩ = some (.bool true) := (blk_cell h3 0).trans rfl
      have p2 := cell_kept q2 (grownBy_putObj' w4 D (.deferred none)) (fun r e => by cases e; exact ⟨_, hK4, rfl⟩)
      have p3 := cell_kept q3 (grownBy_putObj' w4 D (.deferred none)) (fun r e => by cases e; exact ⟨_, hK4, rfl⟩)
      refine ⟨by simp, .inl ⟨_, _, rfl, run_takeDeferred hK4, ?_⟩⟩
      refine ⟨.tuple #[(.slice A1 y.f2.length c1), .bool true], by simp [results, Try.f12, go_sem, p2, p3], OwnFrom.putObj (I := fun (_ : Unit) W' => Below W.heap.size W W') (s := ()) (ownFrom_below (Nat.le_refl _) (Nat.le_trans hB0.size HD.out)) _ h4 (Nat.le_refl _) hK4 rfl, ?_⟩
      (try rw [hmv])
      rw [hsc]
      exact ⟨_, rfl, OwnFrom.putObj (I := fun (_ : Unit) W' => W'.ownsRow W.heap.size 9 1 (.slice A1 y.f2.length c1) y.f2.length (strs y.f2)) (s := ()) (ownFrom_own D _ _ _ _ _ _) _ HO.out (Nat.le_refl _) hK4 rfl⟩
    · obtain ⟨⟨pre0, i, rfl, hp, hi⟩, hb⟩ := hx
      have HSC := Aside0.mk (scan_free (ep := ep) (nd := nd) hpre hp hi)
      have HBb := Aside0.mk hb
      have r2 := (hb.block _ (blk_lt b2)).trans b2
      have r3 := (hb.block _ (blk_lt b3)).trans b3
      have d2 := blk_cell r2 0
      have d3 := blk_cell r3 0
      have f2 := blk_frozen r2 0
      have f3 := blk_frozen r3 0
      clear hp hb hK hD hpre hi
      gi_wp2
      have h2 : ((W'.setCell ⟨W.heap.size + 1 + 1, 0, none⟩ (.slice none 0 0)).setCell ⟨W.heap.size + 1 + 1 + 1, 0, none⟩ (.bool false)).heap[W.heap.size + 2]? = some (.cells #[.slice none 0 0] 29 (0, 0)) :=
        blk_far (blk_set r2 0 (.slice none 0 0)) (p := ⟨W.heap.size + 3, 0, none⟩) (by simp) _
      have h3 : ((W'.setCell ⟨W.heap.size + 1 + 1, 0, none⟩ (.slice none 0 0)).setCell ⟨W.heap.size + 1 + 1 + 1, 0, none⟩ (.bool false)).heap[W.heap.size + 3]? = some (.cells #[.bool false] 4 (0, 0)) :=
        blk_set (blk_far r3 (p := ⟨W.heap.size + 2, 0, none⟩) (by simp) _) 0 (.bool false)
      have h4 : Below W.heap.size W ((W'.setCell ⟨W.heap.size + 1 + 1, 0, none⟩ (.slice none 0 0)).setCell ⟨W.heap.size + 1 + 1 + 1, 0, none⟩ (.bool false)) :=
        ((below_step hB0 HBb.out).setCell (p := ⟨W.heap.size + 2, 0, none⟩) (by simp) _).setCell (p := ⟨W.heap.size + 3, 0, none⟩) (by simp) _
      have hK4 := ((KeepsOthers.setCell W' ⟨W.heap.size + 1 + 1, 0, none⟩ (.slice none 0 0)).trans (KeepsOthers.setCell _ ⟨W.heap.size + 1 + 1 + 1, 0, none⟩ (.bool false))).same D _ HKK.out rfl
      generalize (W'.setCell ⟨W.heap.size + 1 + 1, 0, none⟩ (.slice none 0 0)).setCell ⟨W.heap.size + 1 + 1 + 1, 0, none⟩ (.bool false) = w4 at *
      have q2 : w4.cell? ⟨W.heap.size + 1 + 1, 0, none⟩ = some (.slice none 0 0) := (blk_cell h2 0).trans rfl
      have q3 : w4.cell? ⟨W.heap.size + 1 + 1 + 1, 0, none⟩ = some (.bool false) := (blk_cell h3 0).trans rfl
      have p2 := cell_kept q2 (grownBy_putObj' w4 D (.deferred none)) (fun r e => by cases e; exact ⟨_, hK4, rfl⟩)
      have p3 := cell_kept q3 (grownBy_putObj' w4 D (.deferred none)) (fun r e => by cases e; exact ⟨_, hK4, rfl⟩)
      refine ⟨by simp, .inl ⟨_, _, rfl, run_takeDeferred hK4, ?_⟩⟩
      refine ⟨.tuple #[(.slice none 0 0), .bool false], by simp [results, Try.f12, go_sem, p2, p3], OwnFrom.putObj (I := fun (_ : Unit) W' => Below W.heap.size W W') (s := ()) (ownFrom_below (Nat.le_refl _) (Nat.le_trans hB0.size HD.out)) _ h4 (Nat.le_refl _) hK4 rfl, ?_⟩
      (try rw [hmv])
      rw [HSC.out]
end
end Go.Proofs.Ytpgdehelamgbnaa
