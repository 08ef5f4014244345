/-
  Chain of package cascade: the walk, the layings it leans on, and that the winner is the first of the Chain.
-/
import Derived.Test.YtahihhklijcghaaSortsW
import Derived.Test.YtahihhklijcghaaWApart
import Derived.WalkSpells
import Derived.Maps.AppendAt
import Derived.Shelf.SlicesQ.Reverse
import Derived.Test.YtahihhklijcghaaProg
import Derived.Test.YtahihhklijcghaaRanksP
/-! Chn -/
namespace Go.Proofs.Ytahihhklijcghaa
open Go.RowKit Go.Proofs.YtahihhklijcghaaW Go.Proofs.YtahihhklijcghaaW.PrintWords PCascadeSorts
set_option linter.unusedVariables false
set_option linter.unusedSimpArgs false
/-- Is it of that name? -/
def ofN (name : ByteArray) (x : S26) : Bool := x.f0.toList == name.toList
/-- The closure that asks it lies over name's box. -/
def delF (b : Nat) : Value := .func (.func 32) #[] #[.pointer (some ⟨b, 0, none⟩)]
theorem del_yes {W : World} {b : Nat} {name : ByteArray} {x : S26} (h : W.heap[b]? = some (.cells #[.string name] 9 (0, 0))) (hk : ofN name x = true) :
    Calls Try.prog 32 #[ev x, .pointer (some ⟨b, 0, none⟩)] W fun e w' => e = .returned (.bool false) ∧ Below W.heap.size W w' := by
  have hc := (blk_cell h 0).trans rfl
  have hlt := blk_lt h
  have h1 : (x.f0.toList == name.toList) = true := hk
  have h2 : (x.f0.toList != name.toList) = false := by rw [bne, h1]; rfl
  have hc2 : (W.alloc (.cells (pe x).toArray 26)).cell? ⟨b, 0, none⟩ = some (.string name) := (blk_cell (blk_alloc h _) 0).trans rfl
  clear hk h
  go_enter Try.func32, Try.ntmps32
  go_wp2_with fail
  go_ret
  exact ⟨rfl, (Below.refl _ _).alloc (Nat.le_refl _) _⟩
theorem del_no {W : World} {b : Nat} {name : ByteArray} {x : S26} (h : W.heap[b]? = some (.cells #[.string name] 9 (0, 0))) (hk : ofN name x = false) :
    Calls Try.prog 32 #[ev x, .pointer (some ⟨b, 0, none⟩)] W fun e w' => e = .returned (.bool true) ∧ Below W.heap.size W w' := by
  have hc := (blk_cell h 0).trans rfl
  have hlt := blk_lt h
  have h1 : (x.f0.toList == name.toList) = false := hk
  have h2 : (x.f0.toList != name.toList) = true := by rw [bne, h1]; rfl
  have hc2 : (W.alloc (.cells (pe x).toArray 26)).cell? ⟨b, 0, none⟩ = some (.string name) := (blk_cell (blk_alloc h _) 0).trans rfl
  clear hk h
  go_enter Try.func32, Try.ntmps32
  go_wp2_with fail
  go_ret
  exact ⟨rfl, (Below.refl _ _).alloc (Nat.le_refl _) _⟩
/-- The row and the name's box, while boxes come. -/
def Dl (W : World) (g c b : Nat) (name : ByteArray) (X : List S26) : Prop := Row8 26 W g c X ∧ W.heap[b]? = some (.cells #[.string name] 9 (0, 0))
theorem Dl.below {W w : World} {g c b : Nat} {name : ByteArray} {X : List S26} (h : Dl W g c b name X) (hb : Below W.heap.size W w) : Dl w g c b name X := by
  refine ⟨?_, (hb.block b (blk_lt h.2)).trans h.2⟩
  obtain ⟨cur, h1, h2⟩ := h.1
  exact ⟨cur, (hb.block g (blk_lt h1)).trans h1, h2⟩
theorem Dl.lt {W : World} {g c b : Nat} {name : ByteArray} {X : List S26} (h : Dl W g c b name X) : g < W.heap.size := by
  obtain ⟨cur, h1, _⟩ := h.1
  exact blk_lt h1
def Ix (W : World) (name : ByteArray) (X : List S26) (e : Ending) (w' : World) : Prop :=
  Below W.heap.size W w' ∧ (((∀ x ∈ X, ofN name x = true) ∧ e = .returned (.int .i64 (-1))) ∨ ∃ (k : Nat) (x : S26), X[k]? = some x ∧ (∀ y ∈ X.take k, ofN name y = true) ∧ ofN name x = false ∧ e = .returned (.int .i64 k))
theorem take_all {name : ByteArray} {X : List S26} {k : Nat} (hk : k < X.length) (h : ∀ x ∈ X.take k, ofN name x = true) (hx : ofN name X[k] = true) : ∀ x ∈ X.take (k + 1), ofN name x = true := fun x hx2 => by
  rw [List.take_succ_eq_append_getElem hk] at hx2
  rcases List.mem_append.1 hx2 with h2 | h2
  · exact h x h2
  · rw [List.mem_singleton.1 h2]
    exact hx
set_option maxHeartbeats 2000000 in
set_option maxRecDepth 100000 in
theorem index_c {W : World} {g c b : Nat} {name : ByteArray} {X : List S26} (h : Dl W g c b name X) (hn : X.length ≤ 1000000) :
    Calls Try.prog 37 #[.slice (some ⟨g, 0, none⟩) X.length c, delF b] W (Ix W name X) := by
  have H := Aside0.mk h
  have gn : (X.length : Int) ≤ 1000000 := by omega
  clear h hn
  unfold delF
  go_enter Try.func37, Try.ntmps37
  go_wp2_with fail
  go_loopw [8] (fun i wr => ∃ k : Nat, i = .int .i64 k ∧ k ≤ X.length ∧ Aside0 (Below W.heap.size W wr ∧ ∀ x ∈ X.take k, ofN name x = true)) (fun i _ => X.length - (intOf i).toNat)
  case atStart => exact ⟨0, rfl, Nat.zero_le _, ⟨Below.refl _ _, fun x hx => by simp at hx⟩⟩
  case round =>
    obtain ⟨k, rfl, hk, HB⟩ := hrel
    by_cases hlt : k < X.length
    · have g1 : (k : Int) < (X.length : Int) := by omega
      have HD := Aside0.mk (H.out.below HB.out.1)
      have he := HD.out.1.eig k hlt
      obtain ⟨c0, c1, c2, c3, c4, c5, c6, c7⟩ := he
      have HTA := Aside0.mk (take_all (name := name) hlt HB.out.2)
      have HLT := Aside0.mk hlt
      clear hk
      have hxe := List.getElem?_eq_getElem hlt
      generalize X[k] = x at c0 c1 c2 c3 c4 c5 c6 c7 HTA hxe
      have HXX := Aside0.mk hxe
      clear hxe hlt
      cases hof : ofN name x with
      | true =>
        have HOF := Aside0.mk hof
        clear hof
        go_wp2_with fail
        refine (del_yes HD.out.2 HOF.out).mono ?_
        rintro e w2 ⟨rfl, hb⟩
        have HB2 := Aside0.mk (below_step HB.out.1 hb)
        clear hb
        go_wp2_with fail
        go_roundw
        case rel => exact ⟨k + 1, by go_num, HLT.out, ⟨HB2.out, HTA.out HOF.out⟩⟩
        case measure => have := HLT.out; simp [intOf]; omega
      | false =>
        have HOF := Aside0.mk hof
        clear hof
        go_wp2_with fail
        refine (del_no HD.out.2 HOF.out).mono ?_
        rintro e w2 ⟨rfl, hb⟩
        have HB2 := Aside0.mk (below_step HB.out.1 hb)
        clear hb
        go_wp2_with fail
        go_ret
        exact ⟨HB2.out, .inr ⟨k, x, HXX.out, HB.out.2, HOF.out, rfl⟩⟩
    · have hkl : k = X.length := by omega
      subst hkl
      go_wp2_with fail
      go_ret
      exact ⟨HB.out.1, .inl ⟨fun x hx => HB.out.2 x (by rw [List.take_length]; exact hx), rfl⟩⟩
/-- How far the row has been gone through: i are kept of the first j. -/
structure Kp (name : ByteArray) (X Y : List S26) (i j : Nat) : Prop where
  len : Y.length = X.length
  lt : i < j
  le : j ≤ X.length
  lo : Y.take i = (X.take j).filter (ofN name)
  hi : Y.drop j = X.drop j
theorem filter_all {name : ByteArray} : ∀ {l : List S26}, (∀ x ∈ l, ofN name x = true) → l.filter (ofN name) = l := fun h => List.filter_eq_self.2 h
theorem Kp.start {name : ByteArray} {X : List S26} {k : Nat} {x : S26} (hx : X[k]? = some x) (h : ∀ y ∈ X.take k, ofN name y = true) (hn : ofN name x = false) : Kp name X X k (k + 1) := by
  obtain ⟨hk, hxe⟩ := List.getElem?_eq_some_iff.1 hx
  refine ⟨rfl, Nat.lt_succ_self _, hk, ?_, rfl⟩
  rw [List.take_succ_eq_append_getElem hk, List.filter_append, filter_all h, hxe]
  simp [hn]
theorem Kp.get {name : ByteArray} {X Y : List S26} {i j : Nat} (h : Kp name X Y i j) : Y[j]? = X[j]? := by
  have := congrArg (fun l : List S26 => l[0]?) h.hi
  simpa using this
theorem Kp.keep {name : ByteArray} {X Y : List S26} {i j : Nat} {x : S26} (h : Kp name X Y i j) (hx : X[j]? = some x) (hn : ofN name x = true) : Kp name X (Y.set i x) (i + 1) (j + 1) := by
  obtain ⟨hk, hxe⟩ := List.getElem?_eq_some_iff.1 hx
  have hl := h.len
  have hlt := h.lt
  refine ⟨by rw [List.length_set, hl], by omega, hk, ?_, ?_⟩
  · rw [List.take_succ_eq_append_getElem (by rw [List.length_set]; omega), List.getElem_set_self, List.take_set_of_le (Nat.le_refl _), h.lo, List.take_succ_eq_append_getElem hk, List.filter_append, hxe]
    simp [hn]
  · rw [List.drop_set_of_lt (by omega), ← List.drop_drop, ← List.drop_drop (l := X), h.hi]
theorem Kp.skip {name : ByteArray} {X Y : List S26} {i j : Nat} {x : S26} (h : Kp name X Y i j) (hx : X[j]? = some x) (hn : ofN name x = false) : Kp name X Y i (j + 1) := by
  obtain ⟨hk, hxe⟩ := List.getElem?_eq_some_iff.1 hx
  refine ⟨h.len, by have := h.lt; omega, hk, ?_, ?_⟩
  · rw [h.lo, List.take_succ_eq_append_getElem hk, List.filter_append, hxe]
    simp [hn]
  · rw [← List.drop_drop, ← List.drop_drop (l := X), h.hi]
theorem Kp.done {name : ByteArray} {X Y : List S26} {i : Nat} (h : Kp name X Y i X.length) : Y.take i = X.filter (ofN name) ∧ i = (X.filter (ofN name)).length ∧ i < X.length := by
  have h1 := h.lo
  rw [List.take_length] at h1
  have h2 := congrArg List.length h1
  rw [List.length_take, h.len] at h2
  have := h.lt
  exact ⟨h1, by omega, this⟩
theorem zero26 : (Try.prog.info? 26).map (·.zero) = some (some (.agg #[.string ⟨#[]⟩, .string ⟨#[]⟩, .int .i64 0, .bool false, .int .i64 0, .int .i64 0, .int .i64 0, .int .i64 0])) := by kernel_rfl
/-- The zeros of m entries. -/
def zs26 (m : Nat) : List Value := (Builtin.zeroCells #[.string ⟨#[]⟩, .string ⟨#[]⟩, .int .i64 0, .bool false, .int .i64 0, .int .i64 0, .int .i64 0, .int .i64 0] m).toList
theorem zs26_length (m : Nat) : (zs26 m).length = m * 8 := by unfold zs26; rw [Array.length_toList, size_zeroCells]; rfl
theorem zs26_one (m : Nat) : ∀ v ∈ zs26 m, v.oneCell' = true := fun v hv => by
  unfold zs26 Builtin.zeroCells at hv
  simp only [Array.mem_toList_iff, Array.mem_map] at hv
  obtain ⟨i, _, rfl⟩ := hv
  have h8 : i % 8 < 8 := Nat.mod_lt _ (by decide)
  have he : (#[Value.string ⟨#[]⟩, .string ⟨#[]⟩, .int .i64 0, .bool false, .int .i64 0, .int .i64 0, .int .i64 0, .int .i64 0] : Array Value).size = 8 := rfl
  rw [he]
  generalize i % 8 = q at h8
  match q, h8 with
  | 0, _ => rfl
  | 1, _ => rfl
  | 2, _ => rfl
  | 3, _ => rfl
  | 4, _ => rfl
  | 5, _ => rfl
  | 6, _ => rfl
  | 7, _ => rfl
theorem run_clear8 {W : World} {g c i : Nat} {Y : List S26} (h : Row8 26 W g c Y) (hi : i < Y.length) (ty : TypeId) (m : Nat) :
    (Builtin.clear_ #[22] ty #[.slice (some ⟨g, i * 8, none⟩) (Y.length - i) m]).run Try.prog W = .ok (.tuple #[]) (W.setCells g (i * 8) (zs26 (Y.length - i))) := by
  obtain ⟨cur, h1, h2, h3, h4, h5⟩ := h
  have hl := zs26_length (Y.length - i)
  have hst := run_storeCells_cells (P := Try.prog) g (i * 8) (zs26 (Y.length - i)) 0 W (fun j hj => by rw [cell_of_row W g _ cur 26 (0, 0) h1]; simp; omega) (fun j _ => blk_frozen h1 _) (zs26_one _)
  simp only [Nat.add_zero] at hst
  have hv : ∀ w, (zeroValue 26).run Try.prog w = .ok (.agg #[.string ⟨#[]⟩, .string ⟨#[]⟩, .int .i64 0, .bool false, .int .i64 0, .int .i64 0, .int .i64 0, .int .i64 0]) w := fun w => by kernel_rfl
  obtain ⟨q, hq⟩ : ∃ q, Y.length - i = q + 1 := ⟨Y.length - i - 1, by omega⟩
  rw [hq] at hst hl ⊢
  unfold zs26 at hst
  simp [Builtin.clear_, run_underlying Try.underlying22, hv, Value.cells, hst]
  rfl
theorem flat8_take : ∀ (L : List S26) (i : Nat), (flat8 L).take (8 * i) = flat8 (L.take i)
  | [], i => by simp [flat8]
  | x :: L, 0 => by simp [flat8]
  | x :: L, i + 1 => by
    show (pe x ++ flat8 L).take (8 * (i + 1)) = pe x ++ flat8 (L.take i)
    have h8 : (pe x).length = 8 := rfl
    rw [List.take_append, List.take_of_length_le (by rw [h8]; omega), h8, show 8 * (i + 1) - 8 = 8 * i by omega, flat8_take L i]
theorem row_cleared {W : World} {g c i : Nat} {Y : List S26} (h : Row8 26 W g c Y) (hi : i < Y.length) : Row8 26 (W.setCells g (i * 8) (zs26 (Y.length - i))) g c (Y.take i) := by
  obtain ⟨cur, h1, h2, h3, h4, h5⟩ := h
  have hl := zs26_length (Y.length - i)
  obtain ⟨cur', hc, hs, ht⟩ := setCells_row (zs26 (Y.length - i)) (i * 8) W cur h1 (by rw [hl]; omega)
  have hlen : (Y.take i).length = i := by rw [List.length_take]; omega
  refine ⟨cur', hc, ?_, by omega, by omega, h5⟩
  have hcl : cur.toList.length = c * 8 := by rw [Array.length_toList, h3]
  rw [hlen, ht, List.append_assoc, List.take_append_of_le_length (by rw [List.length_take, hcl]; omega), List.take_take, ← flat8_take, ← h2, List.take_take]
  congr 1
  omega
/-- What DeleteFunc leaves. -/
def Dd (B : Nat) (W0 : World) (g c : Nat) (name : ByteArray) (X : List S26) (e : Ending) (w' : World) : Prop :=
  e = .returned (.slice (some ⟨g, 0, none⟩) (X.filter (ofN name)).length c) ∧ Row8 26 w' g c (X.filter (ofN name)) ∧ Below B W0 w'
theorem put8_box {W : World} {g i b : Nat} {x : S26} {name : ByteArray} (h : W.heap[b]? = some (.cells #[.string name] 9 (0, 0))) (hg : ∃ cur, W.heap[g]? = some (.cells cur 26 (0, 0))) : (put8 W g i x).heap[b]? = some (.cells #[.string name] 9 (0, 0)) := by
  have hne : b ≠ g := by
    rintro rfl
    obtain ⟨cur, hc⟩ := hg
    rw [h] at hc
    injection hc with hc
    injection hc with _ hc
    exact absurd hc (by decide)
  rw [← put8_cells, setCells_far _ _ _ hne]
  exact h
theorem put8_below {B : Nat} {W0 W : World} {g i : Nat} {x : S26} (h : Below B W0 W) (hg : B ≤ g) : Below B W0 (put8 W g i x) := by
  unfold put8
  exact (((((((h.setCell (p := ⟨g, i, none⟩) hg _).setCell (p := ⟨g, i + 1, none⟩) hg _).setCell (p := ⟨g, i + 2, none⟩) hg _).setCell (p := ⟨g, i + 3, none⟩) hg _).setCell (p := ⟨g, i + 4, none⟩) hg _).setCell (p := ⟨g, i + 5, none⟩) hg _).setCell (p := ⟨g, i + 6, none⟩) hg _).setCell (p := ⟨g, i + 7, none⟩) hg _
theorem Dl.put {W : World} {g c b i : Nat} {name : ByteArray} {X : List S26} (h : Dl W g c b name X) (hi : i < X.length) (x : S26) : Dl (put8 W g (i * 8) x) g c b name (X.set i x) :=
  ⟨h.1.put i hi x, put8_box h.2 (by obtain ⟨cur, hc, _⟩ := h.1; exact ⟨cur, hc⟩)⟩
set_option maxHeartbeats 4000000 in
set_option maxRecDepth 100000 in
theorem delete_c {W W0 : World} {B g c b : Nat} {name : ByteArray} {X : List S26} (h : Dl W g c b name X) (hn : X.length ≤ 1000000) (hb : Below B W0 W) (hg : B ≤ g) (hz : B ≤ W.heap.size) :
    Calls Try.prog 30 #[.slice (some ⟨g, 0, none⟩) X.length c, delF b] W (Dd B W0 g c name X) := by
  have H := Aside0.mk h
  have HIX := Aside0.mk (index_c h hn)
  have HW := Aside0.mk hb
  have HG := Aside0.mk hg
  have HZ := Aside0.mk hz
  have gn : (X.length : Int) ≤ 1000000 := by omega
  have gc : (X.length : Int) ≤ (c : Int) := by obtain ⟨_, _, _, _, h, _⟩ := h.1; omega
  have gc2 : (c : Int) ≤ 9223372036854775807 := by obtain ⟨_, _, _, _, _, h⟩ := h.1; simp only [maxLen] at h; omega
  clear h hn hb hg hz
  unfold delF at HIX ⊢
  go_enter Try.func30, Try.ntmps30
  go_wp2_with fail
  refine HIX.out.mono ?_
  rintro e w1 ⟨hb, (⟨hall, rfl⟩ | ⟨k, x, hx, hall, hno, rfl⟩)⟩
  · have HB1 := Aside0.mk (And.intro hb hall)
    clear hb hall
    go_wp2_with fail
    go_ret
    have hf := filter_all HB1.out.2
    refine ⟨by rw [hf]; rfl, by rw [hf]; exact (H.out.below HB1.out.1).1, ?_⟩
    exact HW.out.trans (HB1.out.1.mono HZ.out)
  · have HK := Aside0.mk (Kp.start hx hall hno)
    have HB1 := Aside0.mk (HW.out.trans (hb.mono HZ.out))
    have HD1 := Aside0.mk (H.out.below hb)
    have gk : (k : Int) < (X.length : Int) := by have := HK.out.le; omega
    have gk2 : k < X.length := by omega
    clear hb hx hall hno HIX
    have hk1 : ((k : Int) == -1) = false := beq_eq_false_iff_ne.2 (by omega)
    go_wp2_with fail
    clear hk1
    go_loopw [5, 6] (fun s5 s6 wr => ∃ (i j : Nat) (Y : List S26), s5 = .int .i64 i ∧ s6 = .int .i64 j ∧ j ≤ X.length ∧ Aside0 (Kp name X Y i j) ∧ Aside0 (Dl wr g c b name Y) ∧ Aside0 (Below B W0 wr)) (fun _ s6 _ => X.length - (intOf s6).toNat)
    case atStart => exact ⟨k, k + 1, X, rfl, by go_num, by omega, HK, HD1, HB1⟩
    case round =>
      obtain ⟨i, j, Y, rfl, rfl, hj, HK, HD, HB⟩ := hrel
      have HLY : Aside0 (Y.length = X.length) := ⟨HK.out.len⟩
      have gij : (i : Int) < (j : Int) := by have := HK.out.lt; omega
      by_cases hlt : j < X.length
      · have g1 : (j : Int) < (X.length : Int) := by omega
        obtain ⟨x, hx⟩ : ∃ x, X[j]? = some x := ⟨_, List.getElem?_eq_getElem hlt⟩
        have HX := Aside0.mk hx
        have HLT := Aside0.mk hlt
        have hyl : j < Y.length := by rw [HLY.out]; exact hlt
        have hyx : Y[j] = x := by
          have := HK.out.get
          rw [hx, List.getElem?_eq_getElem hyl] at this
          exact Option.some.inj this
        have he := HD.out.1.eig j hyl
        rw [hyx] at he
        obtain ⟨c0, c1, c2, c3, c4, c5, c6, c7⟩ := he
        have hbk := heap_alloc_new wr (.cells (pe x).toArray 26)
        have hab : Below wr.heap.size wr (wr.alloc (.cells (pe x).toArray 26)) := (Below.refl _ _).alloc (Nat.le_refl _) _
        have HD3 := Aside0.mk (HD.out.below hab)
        have HB3 := Aside0.mk (HB.out.trans (hab.mono (Nat.le_trans HG.out (Nat.le_of_lt HD.out.lt))))
        have HBK := Aside0.mk hbk
        clear hbk hab hx hlt hyl hyx hj HD HB
        go_upto_region 8 with fail
        change Code.wp Try.prog _ _ _ (wr.alloc (.cells (pe x).toArray 26))
        generalize wr.alloc (.cells (pe x).toArray 26) = w3 at *
        generalize wr.heap.size = b7 at *
        clear c0 c1 c2 c3 c4 c5 c6 c7
        have c0 := (blk_cell HBK.out 0).trans rfl
        have c1 := (blk_cell HBK.out 1).trans rfl
        have c2 := (blk_cell HBK.out 2).trans rfl
        have c3 := (blk_cell HBK.out 3).trans rfl
        have c4 := (blk_cell HBK.out 4).trans rfl
        have c5 := (blk_cell HBK.out 5).trans rfl
        have c6 := (blk_cell HBK.out 6).trans rfl
        have c7 := (blk_cell HBK.out 7).trans rfl
        cases hof : ofN name x with
        | false =>
          have HOF := Aside0.mk hof
          clear hof
          go_wp2_with fail
          refine (del_no HD3.out.2 HOF.out).mono ?_
          rintro e w4 ⟨rfl, hb⟩
          have HD4 := Aside0.mk (HD3.out.below hb)
          have HB4 := Aside0.mk (HB3.out.trans (hb.mono (Nat.le_trans HG.out (Nat.le_of_lt HD3.out.lt))))
          clear hb
          go_wp2_with fail
          go_roundw
          case rel => exact ⟨i, j + 1, Y, rfl, by go_num, HLT.out, ⟨HK.out.skip HX.out HOF.out⟩, HD4, HB4⟩
          case measure => have := HLT.out; simp [intOf]; omega
        | true =>
          have HOF := Aside0.mk hof
          clear hof
          go_wp2_with fail
          refine (del_yes HD3.out.2 HOF.out).mono ?_
          rintro e w4 ⟨rfl, hb⟩
          have HD4 := Aside0.mk (HD3.out.below hb)
          have HB4 := Aside0.mk (HB3.out.trans (hb.mono (Nat.le_trans HG.out (Nat.le_of_lt HD3.out.lt))))
          have HBK4 := Aside0.mk (blk_below HBK.out hb)
          clear hb c0 c1 c2 c3 c4 c5 c6 c7
          have c0 := (blk_cell HBK4.out 0).trans rfl
          have c1 := (blk_cell HBK4.out 1).trans rfl
          have c2 := (blk_cell HBK4.out 2).trans rfl
          have c3 := (blk_cell HBK4.out 3).trans rfl
          have c4 := (blk_cell HBK4.out 4).trans rfl
          have c5 := (blk_cell HBK4.out 5).trans rfl
          have c6 := (blk_cell HBK4.out 6).trans rfl
          have c7 := (blk_cell HBK4.out 7).trans rfl
          have hiy : i < Y.length := by have := HLT.out; have := HLY.out; omega
          have gin : (i : Int) < (X.length : Int) := by have := HLT.out; omega
          obtain ⟨d0, d1, d2, d3, d4, d5, d6, d7⟩ := HD4.out.1.eig i hiy
          have f0 := HD4.out.1.frozen (i * 8)
          have f1 := HD4.out.1.frozen (i * 8 + 1)
          have f2 := HD4.out.1.frozen (i * 8 + 2)
          have f3 := HD4.out.1.frozen (i * 8 + 3)
          have f4 := HD4.out.1.frozen (i * 8 + 4)
          have f5 := HD4.out.1.frozen (i * 8 + 5)
          have f6 := HD4.out.1.frozen (i * 8 + 6)
          have f7 := HD4.out.1.frozen (i * 8 + 7)
          have HP : Aside0 (Dl (put8 w4 g (i * 8) x) g c b name (Y.set i x) ∧ Below B W0 (put8 w4 g (i * 8) x)) := ⟨HD4.out.put hiy x, put8_below HB4.out HG.out⟩
          unfold put8 at HP
          generalize Y[i] = y at d0 d1 d2 d3 d4 d5 d6 d7
          clear hiy
          go_wp2_with fail
          go_roundw
          case rel => exact ⟨i + 1, j + 1, Y.set i x, by go_num, by go_num, HLT.out, ⟨HK.out.keep HX.out HOF.out⟩, ⟨HP.out.1⟩, ⟨HP.out.2⟩⟩
          case measure => have := HLT.out; simp [intOf]; omega
      · have hjl : j = X.length := by omega
        subst hjl
        obtain ⟨e1, e2, e3⟩ := HK.out.done
        have gin : (i : Int) < (X.length : Int) := by omega
        have hiy : i < Y.length := by rw [HLY.out]; exact e3
        have hcl := fun ty m => run_clear8 HD.out.1 hiy ty m
        rw [HLY.out] at hcl
        have HRC := Aside0.mk (row_cleared HD.out.1 hiy)
        have HFC : Aside0 (Below B W0 (wr.setCells g (i * 8) (zs26 (Y.length - i)))) := ⟨by
          obtain ⟨q1, q2, q3, q4⟩ := setCells_same g (zs26 (Y.length - i)) (i * 8) wr
          refine ⟨q1.trans HB.out.os, q2.trans HB.out.tape, q3.trans HB.out.output, by rw [q4]; exact HB.out.size, fun k hk => ?_⟩
          rw [setCells_far _ _ _ (by have := HG.out; omega)]
          exact HB.out.block k hk⟩
        rw [e1, HLY.out] at HRC
        rw [HLY.out] at HFC
        have HE2 := Aside0.mk e2
        clear e1 e2 e3 hiy hj hlt
        go_wp2_with fail
        go_ret
        exact ⟨by rw [← HE2.out]; rfl, HRC.out, HFC.out⟩
/-! ### nil -/
theorem index_nil (W : World) (b : Nat) : Calls Try.prog 37 #[.slice none 0 0, delF b] W fun e w' => e = .returned (.int .i64 (-1)) ∧ w' = W := by
  unfold delF
  go_enter Try.func37, Try.ntmps37
  go_wp2_with fail
  go_loop [8] (fun i => i = .int .i64 0) (fun _ => 0)
  case atStart => exact rfl
  case round =>
    subst hrel
    go_wp2_with fail
    go_ret
    exact ⟨rfl, rfl⟩
theorem delete_nil (W : World) (b : Nat) : Calls Try.prog 30 #[.slice none 0 0, delF b] W fun e w' => e = .returned (.slice none 0 0) ∧ w' = W := by
  have H := Aside0.mk (index_nil W b)
  unfold delF at H ⊢
  go_enter Try.func30, Try.ntmps30
  go_wp2_with fail
  refine H.out.mono ?_
  rintro e w' ⟨rfl, rfl⟩
  go_wp2_with fail
  go_ret
  exact ⟨rfl, rfl⟩
/-! ### Clone -/
theorem Rw.cases {t : TypeId} {W : World} {base : Nat} {v : Value} {L : List S26} (h : Rw t W base v L) : (v = .slice none 0 0 ∧ L = []) ∨ ∃ g c, v = .slice (some ⟨g, 0, none⟩) L.length c ∧ base ≤ g ∧ Row8 t W g c L := by
  obtain ⟨i, ⟨h0, h1⟩, h2⟩ := h
  obtain rfl := reps_flat h2
  rcases h1 with ⟨hv, h1⟩ | ⟨g, c, cur, rfl, hb, hc, h3, h4, h5, h6⟩
  · exact .inl ⟨hv, List.eq_nil_of_length_eq_zero h1⟩
  · exact .inr ⟨g, c, rfl, hb, cur, hc, by rw [Nat.mul_comm]; exact h6, h5, h3, h4⟩
theorem rw_of_R {W : World} {base : Nat} {ok : Nat → Prop} {v : Value} {L : List S26} (h : Kd.R k26 26 W base ok v L) : Rw 26 W base v L := by
  obtain ⟨_, inner, ho, hr⟩ := h
  exact ⟨inner, ho, hr.imp_ (fun p c hp => k26_openM hp)⟩
/-- What Clone leaves: a row of its own, or nil. -/
def Cl (W : World) (l : List S26) (e : Ending) (w' : World) : Prop := ∃ v, e = .returned v ∧ Rw 26 w' W.heap.size v l ∧ Below W.heap.size W w'
set_option maxHeartbeats 2000000 in
theorem clone_c {W : World} {A : Option Addr} {c : Nat} {l : List S26} (h : Kd.C k26 W A l.length l) (hc : l.length ≤ c) (hl : l.length ≤ 1000000) :
    Calls Try.prog 31 #[.slice A l.length c] W (Cl W l) := by
  have he := fun (w : World) (a : Option Addr) (n c : Nat) => Lib.run_eql_slice_nil (P := Try.prog) w 22 26 a n c 0 0 Try.underlying22
  rcases A with _ | ad
  · obtain rfl : l = [] := by
      rcases Nat.eq_zero_or_pos l.length with h0 | h0
      · exact List.eq_nil_of_length_eq_zero h0
      · obtain ⟨ad, e, _⟩ := h.2.2 h0
        cases e
    clear h hc hl
    go_enter Try.func31, Try.ntmps31
    go_wp2_with fail
    go_ret
    exact ⟨_, rfl, Rw.nil _ _ _, Below.refl _ _⟩
  · have H := Aside0.mk h
    have HL := Aside0.mk hl
    clear h hc hl
    go_enter Try.func31, Try.ntmps31
    go_wp2_with (at_builtin; refine Kd.R_append_rows k26 (w0 := W) W.heap.size rfl (.tmp 5) (.tmp 6) 22 26 (.agg #[.string ⟨#[]⟩, .string ⟨#[]⟩, .int .i64 0, .bool false, .int .i64 0, .int .i64 0, .int .i64 0, .int .i64 0]) 80 rfl Try.underlying22 info26 rfl (by decide) (by decide) (.slice (some ⟨W.heap.size, 0, none⟩) 0 0) [] l (some ad) l.length c (fun _ => True) (fun _ => False) rfl rfl ?a1 (Kd.C_below H.out ?a2) (fun _ _ h => h) (fun _ h => h.elim) (fun _ _ => trivial) ?a3 ?a4 ?a5 ?_; (case a1 => exact ⟨fun _ _ => trivial, [], World.ownsRow_made W #[] 0 (Nat.le_refl _) (by decide) rfl, Reps.none _ _⟩); (case a2 => exact (Below.refl _ _).alloc (Nat.le_refl _) _); (case a3 => exact (Below.refl _ _).alloc (Nat.le_refl _) _); (case a4 => simp); (case a5 => have := HL.out; simp; omega); intro v1 w1 hr hb hg hat; have HR := Aside0.mk hr; have HB := Aside0.mk hb; clear hr hb hg hat)
    go_ret
    exact ⟨_, rfl, rw_of_R HR.out, HB.out⟩
end Go.Proofs.Ytahihhklijcghaa
/-! Laid -/
namespace Go.Proofs.Ytahihhklijcghaa
open Go.Shelf
def revL_ren : Go.Shelf.Ren := ⟨fun | 35 => 33 | n => n, fun | 22 => 22 | 23 => 26 | 3 => 3 | 4 => 4 | 0 => 0 | n => n, fun | n => n⟩
theorem revL : Go.Proofs.SlLaysE0.n35 Try.prog revL_ren := {
  mixed := by kernel_rfl
  f35 := ⟨Try.f33.name, by decide, Try.func33.trans (congrArg some (by kernel_rfl))⟩
  t0 := Try.underlying0
  a0 := Try.isAgg0
  z0 := Try.sizeOf0
  v0 := Try.zeroValue0
  t3 := Try.underlying3
  a3 := Try.isAgg3
  z3 := Try.sizeOf3
  v3 := Try.zeroValue3
  t4 := Try.underlying4
  a4 := Try.isAgg4
  z4 := Try.sizeOf4
  v4 := Try.zeroValue4
  t22 := Try.underlying22
  a22 := Try.isAgg22
  z22 := Try.sizeOf22
  v22 := Try.zeroValue22 }
end Go.Proofs.Ytahihhklijcghaa
/-! Chain -/
namespace Go.Proofs.Ytahihhklijcghaa
open Go.RowKit Go.Proofs.YtahihhklijcghaaW Go.Proofs.YtahihhklijcghaaW.PrintWords PCascadeSorts
open Go.Sort (Holds HoldsK flatK putRow putRowK)
set_option linter.unusedVariables false
set_option linter.unusedSimpArgs false
instance inh26 : Inhabited S26 := ⟨z26⟩
theorem cells_arr (L : List S26) (q : Nat) (hq : q < L.length) : L.toArray[q]! = L[q] := by
  rw [getElem!_pos _ q (by simpa using hq)]
  simp
theorem holds_row {W : World} {g c : Nat} {L : List S26} (h : Row8 26 W g c L) : HoldsK pe 8 W g 0 L.toArray := by
  intro j hj
  have hj2 : j < L.length * 8 := by simpa using hj
  have hq : j / 8 < L.length := by omega
  have hr : j % 8 < 8 := by omega
  have hg := Go.Sort.get_flatK pe 8 L.toArray j (by simpa using hj2)
  rw [hg, cells_arr L _ hq, Nat.zero_add]
  refine ⟨?_, h.frozen j⟩
  have hc := h.cell (j / 8) hq (j % 8) hr
  rw [show j / 8 * 8 + j % 8 = j by omega] at hc
  rw [hc, getElem!_pos _ (j % 8) hr]
  exact List.getElem?_eq_getElem hr
theorem C_of_holds {W : World} {g : Nat} {L : List S26} (hl : L.length ≤ 1000000) (h : HoldsK pe 8 W g 0 L.toArray) : Kd.C k26 W (some ⟨g, 0, none⟩) L.length L := by
  refine ⟨rfl, by first | omega | (unfold maxLen; omega), fun _ => ⟨_, rfl, fun j p hj => ⟨pe p, rfl, k26_mk W p, fun i u hu => ?_⟩⟩⟩
  obtain ⟨hjl, hjp⟩ := List.getElem?_eq_some_iff.1 hj
  have hi : i < 8 := (List.getElem?_eq_some_iff.1 hu).1
  have hc := (h.cell (i := j) (c := i) (by simpa using hjl) hi).1
  rw [cells_arr L j hjl, hjp, getElem!_pos _ i hi] at hc
  rw [List.getElem?_eq_getElem hi] at hu
  show W.cell? ((⟨g, 0, none⟩ : Addr).add (j * 8 + i)) = some u
  rw [Addr.add_lit, ← Nat.add_assoc, hc]
  exact hu
theorem agg26 : ∀ w, (isAgg 26).run Try.prog w = .ok true w := Try.isAgg26
theorem so26 : ∀ w, (Go.sizeOf 26).run Try.prog w = .ok 8 w := Try.sizeOf26
/-- What Reverse leaves. -/
theorem reverse_c {W : World} {g c : Nat} {L : List S26} (h : Row8 26 W g c L) (hl : L.length ≤ 1000000) :
    Calls Try.prog 33 #[.slice (some ⟨g, 0, none⟩) L.length c] W fun e w' => e = .returned (.tuple #[]) ∧ Kd.C k26 w' (some ⟨g, 0, none⟩) L.length L.reverse ∧ Below g W w' := by
  have hz : L.toArray.size = L.length := by simp
  have hh := holds_row h
  have hr := AnyQ.slices_Reverse revL 8 agg26 so26 pe (fun _ => rfl) (fun x v hv => pe_one x v hv) g 0 c L.toArray W hh (by rw [hz]; omega)
  rw [hz] at hr
  refine hr.mono ?_
  rintro e w' ⟨rfl, n, rfl⟩
  have hs : (flatK pe 8 L.toArray.reverse).size = (flatK pe 8 L.toArray).size := by simp
  have h0 : HoldsK pe 8 (Go.Sort.ahead W n) g 0 L.toArray := hh
  have h2 : HoldsK pe 8 (putRowK pe 8 (Go.Sort.ahead W n) g 0 L.toArray.reverse) g 0 L.toArray.reverse := Go.Sort.holds_putRow id _ g 0 _ _ h0 hs
  refine ⟨rfl, ?_, ?_⟩
  · have := C_of_holds (L := L.reverse) (by simpa using hl) (by simpa using h2)
    rw [List.length_reverse] at this
    simpa using this
  · refine ⟨rfl, rfl, rfl, by simp [putRowK, Go.Sort.ahead], fun k hk => ?_⟩
    show (W.heap.modify g _)[k]? = W.heap[k]?
    rw [Array.getElem?_modify, if_neg (by omega)]
theorem reverse_nil (A : Option Addr) (c : Nat) (W : World) : Calls Try.prog 33 #[.slice A 0 c] W fun e w' => e = .returned (.tuple #[]) ∧ w' = W := AnyQ.slices_Reverse_empty revL A c W
/-- All of a name, the winner first. -/
def chainE (l : List S26) (name : ByteArray) : List S26 := (sortE (l.filter (ofN name))).reverse
/-- What Chain leaves. -/
def Ch (W : World) (R : List S26) (e : Ending) (w' : World) : Prop := ∃ A c, e = .returned (.slice A R.length c) ∧ R.length ≤ c ∧ Kd.C k26 w' A R.length R ∧ Below W.heap.size W w' ∧ (R ≠ [] → ∃ g, A = some ⟨g, 0, none⟩)
set_option maxHeartbeats 2000000 in
set_option maxRecDepth 100000 in
theorem chain_c {W : World} {A : Option Addr} {c : Nat} {l : List S26} (name : ByteArray) (h : Kd.C k26 W A l.length l) (hc : l.length ≤ c) (hn : l.length ≤ 100) :
    Calls Try.prog 19 #[.slice A l.length c, .string name] W (Ch W (chainE l name)) := by
  have hb0 : Below W.heap.size W (W.alloc (.cells #[.string name] 9)) := (Below.refl _ _).alloc (Nat.le_refl _) _
  have hbx := heap_alloc_new W (.cells #[.string name] 9)
  have HCL := Aside0.mk (clone_c (Kd.C_below h hb0) hc (by omega))
  have HBX := Aside0.mk hbx
  have HB0 := Aside0.mk hb0
  have HN := Aside0.mk hn
  have HFN : Aside0 ((l.filter (ofN name)).length ≤ 100) := ⟨Nat.le_trans (List.length_filter_le _ _) hn⟩
  clear h hc hn hbx hb0
  go_enter Try.func19, Try.ntmps19
  go_wp2_with fail
  generalize W.alloc (.cells #[.string name] 9) = w1 at *
  refine HCL.out.mono ?_
  rintro e w2 ⟨v, rfl, hrw, hb⟩
  have HB2 := Aside0.mk (below_step HB0.out hb)
  have HBX2 := Aside0.mk (blk_below HBX.out hb)
  have HZ : Aside0 (W.heap.size ≤ w1.heap.size) := ⟨HB0.out.size⟩
  rcases hrw.cases with ⟨rfl, rfl⟩ | ⟨g, c2, rfl, hg, hrow⟩
  · clear hrw hb HCL
    have hce : chainE [] name = [] := rfl
    rw [hce]
    clear hce
    go_wp2_with fail
    refine (delete_nil w2 W.heap.size).mono ?_
    rintro e w3 ⟨rfl, rfl⟩
    go_wp2_with fail
    refine (sorts_c (l := []) (Kd.C_nil _ _) (by decide)).mono ?_
    rintro e w4 ⟨v, rfl, hrw, hb⟩
    have HB4 := Aside0.mk (below_step HB2.out hb)
    clear hb
    have h0 : sortE ([] : List S26) = [] := rfl
    rw [h0] at hrw
    obtain ⟨A4, c4, rfl, hl4⟩ := hrw.slice_
    obtain ⟨_, _, hC⟩ := hrw.C26
    have HC4 := Aside0.mk hC
    have HL4 := Aside0.mk hl4
    clear hrw h0 hl4 hC
    go_wp2_with fail
    refine (reverse_nil A4 c4 w4).mono ?_
    rintro e w5 ⟨rfl, rfl⟩
    go_wp2_with fail
    go_ret
    exact ⟨A4, c4, rfl, HL4.out, HC4.out, HB4.out, fun h => absurd rfl h⟩
  · have HD := Aside0.mk (delete_c (B := W.heap.size) (W0 := W) (name := name) (b := W.heap.size) ⟨hrow, HBX2.out⟩ (by have := HN.out; omega) HB2.out (Nat.le_trans HZ.out hg) HB2.out.size)
    clear hrow hrw hb hg HCL
    unfold delF at HD
    go_wp2_with fail
    refine HD.out.mono ?_
    rintro e w3 ⟨rfl, hrow, hb⟩
    obtain ⟨_, hle, hC⟩ := (hrow.rw_ (base := 0) (Nat.zero_le _)).C26
    have HS := Aside0.mk (sorts_c (c := c2) hC HFN.out)
    have HB3 := Aside0.mk hb
    clear hrow hb hC hle HD
    go_wp2_with fail
    refine HS.out.mono ?_
    rintro e w4 ⟨v, rfl, hrw, hb⟩
    have HB4 := Aside0.mk (below_step HB3.out hb)
    have HZ4 : Aside0 (W.heap.size ≤ w3.heap.size) := ⟨HB3.out.size⟩
    rcases hrw.cases with ⟨rfl, h0⟩ | ⟨g2, c4, rfl, hg2, hrow⟩
    · have hce : chainE l name = [] := by unfold chainE; rw [h0]; rfl
      have HCE := Aside0.mk hce
      clear hrw hb HS h0 hce
      go_wp2_with fail
      refine (reverse_nil none 0 w4).mono ?_
      rintro e w5 ⟨rfl, rfl⟩
      go_wp2_with fail
      go_ret
      rw [HCE.out]
      exact ⟨none, 0, rfl, Nat.le_refl _, Kd.C_nil _ _, HB4.out, fun h => absurd rfl h⟩
    · have HR := Aside0.mk (reverse_c hrow (by rw [sortE_length]; have := HFN.out; omega))
      have HL4 : Aside0 ((chainE l name).length = (sortE (l.filter (ofN name))).length) := ⟨by unfold chainE; rw [List.length_reverse]⟩
      have HLC : Aside0 ((sortE (l.filter (ofN name))).length ≤ c4) := ⟨by obtain ⟨_, _, _, _, h, _⟩ := hrow; exact h⟩
      have HG2 := Aside0.mk hg2
      clear hrw hb HS hg2 hrow
      go_wp2_with fail
      refine HR.out.mono ?_
      rintro e w5 ⟨rfl, hC, hb⟩
      have HC5 := Aside0.mk hC
      have HB5 := Aside0.mk (HB4.out.trans (hb.mono (Nat.le_trans HZ4.out HG2.out)))
      clear hC hb HR
      go_wp2_with fail
      go_ret
      have hl := HL4.out
      refine ⟨some ⟨g2, 0, none⟩, c4, by rw [hl]; rfl, by rw [hl]; exact HLC.out, by rw [hl]; exact HC5.out, HB5.out, fun _ => ⟨g2, rfl⟩⟩
end Go.Proofs.Ytahihhklijcghaa
/-! ChnP -/
namespace Go.Proofs.Ytahihhklijcghaa
open Go.RowKit Go.Proofs.YtahihhklijcghaaW Go.Proofs.YtahihhklijcghaaW.PrintWords PCascadeSorts
set_option linter.unusedVariables false
set_option linter.unusedSimpArgs false
theorem snoc_ind {α : Type} {P : List α → Prop} (h0 : P []) (h1 : ∀ l x, P l → P (l ++ [x])) (l : List α) : P l := by
  have key : ∀ r : List α, P r.reverse := fun r => by
    induction r with
    | nil => exact h0
    | cons x r ih => rw [List.reverse_cons]; exact h1 _ _ ih
  have := key l.reverse
  rwa [List.reverse_reverse] at this
def firstW : List S26 → S26 × Bool
  | [] => (z26, false)
  | e :: _ => (e, true)
theorem win_chain (name : ByteArray) (l : List S26) : winS l name = firstW (chainE l name) := by
  refine snoc_ind (P := fun l => winS l name = firstW (chainE l name)) rfl (fun l x ih => ?_) l
  · rw [winS_snoc, ih]
    unfold chainE
    rw [List.filter_append]
    cases hx : ofN name x with
    | false =>
      have hne : ¬ x.f0.toList = name.toList := by
        intro e
        unfold ofN at hx
        rw [e] at hx
        simp at hx
      have : List.filter (ofN name) [x] = [] := by simp [hx]
      rw [this, List.append_nil]
      unfold winStep
      rw [if_neg (fun h => hne h.1)]
    | true =>
      have he : x.f0.toList = name.toList := by
        unfold ofN at hx
        simpa using hx
      have : List.filter (ofN name) [x] = [x] := by simp [hx]
      rw [this, sortE_snoc]
      generalize sortE (l.filter (ofN name)) = R
      rcases List.eq_nil_or_concat R with h0 | ⟨A, y, h0⟩
      · subst h0
        rw [insE_nil]
        unfold winStep
        simp [firstW, he]
      · rw [List.concat_eq_append] at h0
        subst h0
        cases hl : lessS x y with
        | true =>
          rw [insE_less A hl]
          unfold winStep
          simp [firstW, hl]
        | false =>
          rw [insE_not A hl]
          unfold winStep
          simp [firstW, hl, he]
theorem less_asym {a b : S26} (h : lessS a b = true) : lessS b a = false := lessS_ord.weak _ _ h
theorem less_trans {a b c : S26} (h1 : lessS a b = true) (h2 : lessS b c = true) : lessS a c = true := lessS_lt h1 (less_asym h2)
theorem sorted_at {l : List S26} (h : Sorted l) {i : Nat} (hi : i + 1 < l.length) : lessS (l[i + 1]) (l[i]'(by omega)) = false := by
  unfold Sorted at h
  rw [List.pairwise_iff_getElem] at h
  exact h i (i + 1) (by omega) hi (by omega)
end Go.Proofs.Ytahihhklijcghaa
