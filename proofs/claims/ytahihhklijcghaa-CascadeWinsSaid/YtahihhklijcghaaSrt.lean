/-
  Sort of package cascade: the walk.
-/
import Derived.Test.YtahihhklijcghaaEnt
namespace Go.Proofs.Ytahihhklijcghaa
open Go.RowKit Go.Proofs.YtahihhklijcghaaW.PrintWords PCascadeSorts
set_option linter.unusedVariables false
set_option linter.unusedSimpArgs false
/-- The entries with their places. -/
def nums_ : Nat → List S26 → List It
  | _, [] => []
  | k, x :: l => ⟨x, (k : Int)⟩ :: nums_ (k + 1) l
theorem nums_length : ∀ (k : Nat) (l : List S26), (nums_ k l).length = l.length
  | _, [] => rfl
  | k, x :: l => by simp only [nums_, List.length_cons, nums_length (k + 1) l]
theorem nums_take : ∀ (k : Nat) (l : List S26) (i : Nat) (hi : i < l.length), (nums_ k l).take (i + 1) = (nums_ k l).take i ++ [⟨l[i], ((k + i : Nat) : Int)⟩]
  | k, x :: l, 0, _ => by simp [nums_]
  | k, x :: l, i + 1, h => by
    have ih := nums_take (k + 1) l i (by simpa using h)
    simp only [nums_, List.take_succ_cons, List.getElem_cons_succ, List.cons_append]
    rw [ih]
    have : k + 1 + i = k + (i + 1) := by omega
    rw [this]
theorem is55 (W : World) (x : It) : (Instr.typeAssert (itv x) 20 55 true).run Try.prog W = .ok (.tuple #[.agg (pc x).toArray, .bool true]) W := is_it W x
/-- What the pops leave. -/
structure Pops (N O M : List It) : Prop where
  perm : (O ++ M).Perm N
  sorted : O.Pairwise (fun a b => lessV b a = false)
  before : ∀ a ∈ O, ∀ b ∈ M, lessV b a = false
theorem Pops.start {N M : List It} (h : M.Perm N) : Pops N [] M := ⟨h, .nil, fun a ha => by cases ha⟩
theorem Pops.step {N O M M' : List It} (h : Pops N O M) (h0 : 0 < M.length) (hh : Hp.Heap lessV M M.length) (hp : (Hp.at_ M 0 :: M').Perm M) : Pops N (O ++ [Hp.at_ M 0]) M' := by
  have top : ∀ b ∈ M, lessV b (Hp.at_ M 0) = false := by
    intro b hb
    obtain ⟨i, hi, rfl⟩ := List.mem_iff_getElem.1 hb
    rw [← Hp.at_get hi]
    exact hh.top lessV_ord lessV_self i hi
  have mem : Hp.at_ M 0 ∈ M := by rw [Hp.at_get h0]; exact List.getElem_mem h0
  constructor
  · rw [List.append_assoc]
    exact (List.Perm.append_left O hp).trans h.perm
  · rw [List.pairwise_append]
    refine ⟨h.sorted, by simp, fun a ha b hb => ?_⟩
    rw [List.mem_singleton] at hb
    subst hb
    exact h.before a ha _ mem
  · intro a ha b hb
    have hbM : b ∈ M := hp.subset (List.mem_cons_of_mem _ hb)
    rw [List.mem_append, List.mem_singleton] at ha
    rcases ha with ha | rfl
    · exact h.before a ha b hbM
    · exact top b hbM
def ents (O : List It) : List S26 := O.map (·.f0)
set_option maxHeartbeats 2000000 in
set_option maxRecDepth 100000 in
theorem sort_w {W : World} {A : Option Addr} {c : Nat} {l : List S26} (h : Kd.C k26 W A l.length l) (hn : l.length ≤ 100) :
    Calls Try.prog 17 #[.slice A l.length c] W fun e w' => ∃ v O, e = .returned v ∧ Rw 26 w' W.heap.size v (ents O) ∧ Pops (nums_ 0 l) O [] ∧ Below W.heap.size W w' := by
  have HC := Aside0.mk h
  have gn : (l.length : Int) ≤ 100 := by omega
  have HP0 : Aside0 (Pl W ((W.alloc (Obj.cells #[] 55)).alloc (Obj.cells #[Value.slice (some ⟨W.heap.size, 0, none⟩) 0 0] 52)) (W.heap.size + 1) []) := ⟨by
    have b1 := heap_alloc_new (W.alloc (Obj.cells #[] 55)) (Obj.cells #[Value.slice (some ⟨W.heap.size, 0, none⟩) 0 0] 52)
    have e1 : (W.alloc (Obj.cells #[] 55)).heap.size = W.heap.size + 1 := by simp
    rw [e1] at b1
    exact ⟨W.heap.size, 0, b1, ⟨#[], blk_alloc (heap_alloc_new W _) _, rfl, rfl, Nat.le_refl _, Nat.zero_le _⟩, Nat.le_refl _, Nat.le_succ _, ((Below.refl _ _).alloc (Nat.le_refl _) _).alloc (by simp) _⟩⟩
  clear h
  go_enter Try.func17, Try.ntmps17
  go_wp2_with fail
  go_loopw [16] (fun v wr => ∃ k : Nat, v = .int .i64 k ∧ k ≤ l.length ∧ Aside0 (Pl W wr (W.heap.size + 1) ((nums_ 0 l).take k))) (fun v _ => l.length - (intOf v).toNat)
  case atStart => exact ⟨0, rfl, Nat.zero_le _, HP0⟩
  case round =>
    clear HP0
    obtain ⟨k, rfl, hk, HP⟩ := hrel
    by_cases hlt : k < l.length
    · have gk : (k : Int) < (l.length : Int) := by omega
      obtain ⟨ad, rfl, h8⟩ := ent_at HC.out k hlt
      have h8 := h8.below (W' := wr) (by obtain ⟨_, _, _, _, _, _, h⟩ := HP.out; exact h)
      obtain ⟨c0, c1, c2, c3, c4, c5, c6, c7⟩ := h8
      have HT := Aside0.mk (nums_take 0 l k hlt)
      generalize l[k] = x at *
      go_wp2_with fail
      have HP1 := Aside0.mk (HP.out.below ((Below.refl _ _).alloc (Nat.le_refl _) (Obj.cells (pe x).toArray 26)))
      refine (HP1.out.push (by rw [List.length_take]; omega) ⟨x, (k : Int)⟩).mono ?_
      rintro e w1 ⟨rfl, hP⟩
      have HP2 : Aside0 (Pl W w1 (W.heap.size + 1) ((nums_ 0 l).take (k + 1))) := ⟨by
        rw [HT.out, Nat.zero_add]
        exact hP⟩
      clear hP HP1 HP c0 c1 c2 c3 c4 c5 c6 c7 h8
      go_wp2_with fail
      go_roundw
      case rel => exact ⟨k + 1, by go_num, by omega, HP2⟩
      case measure => simp [intOf]; omega
    · have hkl : k = l.length := by omega
      subst hkl
      have HP2 : Aside0 (Pl W wr (W.heap.size + 1) (nums_ 0 l)) := ⟨by
        have := HP.out
        rw [List.take_of_length_le (by rw [nums_length]; exact Nat.le_refl _)] at this
        exact this⟩
      clear HP
      go_wp2_with fail
      refine (HP2.out.init (by rw [nums_length]; omega)).mono ?_
      rintro e w1 ⟨M0, rfl, hp, hh, hP⟩
      have HPs := Aside0.mk (Pops.start hp)
      have HH := Aside0.mk hh
      have HP := Aside0.mk hP
      clear hp hh hP HP2
      go_wp2_with fail
      go_loopg [7] l.length (fun kq v wr => ∃ (O M : List It), M.length ≤ kq ∧ M.length ≤ 100 ∧ Aside0 (O.length ≤ 100) ∧ Aside0 (Pops (nums_ 0 l) O M) ∧ Aside0 (Hp.Heap lessV M M.length) ∧ Aside0 (Pl W wr (W.heap.size + 1) M) ∧ Aside0 (Rw 26 wr W.heap.size v (ents O)))
      case atStart =>
        have hl := HPs.out.perm.length_eq
        rw [List.nil_append, nums_length] at hl
        exact ⟨[], M0, by omega, by omega, ⟨Nat.zero_le _⟩, HPs, HH, HP, ⟨Rw.nil _ _ _⟩⟩
      case round =>
        clear HPs HH HP
        obtain ⟨O, M, hM, hM2, HO, HPs, HH, HP, HR⟩ := hrel
        obtain ⟨g, c2, hcell⟩ := HP.out.len
        go_wp2_with fail
        refine (len_c _ _ _ _).mono ?_
        rintro e w2 ⟨rfl, rfl⟩
        clear hcell
        by_cases h0 : M.length = 0
        · obtain rfl : M = [] := List.eq_nil_of_length_eq_zero h0
          clear h0 hM hM2
          go_wp2_with fail
          go_ret
          exact ⟨_, O, rfl, HR.out, HPs.out, by obtain ⟨_, _, _, _, _, _, h⟩ := HP.out; exact h⟩
        · have g0 : (0 : Int) < (M.length : Int) := by omega
          go_wp2_with fail
          refine (HP.out.pop (by omega) (by omega) HH.out).mono ?_
          rintro e w3 ⟨M', rfl, hp, hh, hP, hR⟩
          have hlen : M.length = M'.length + 1 := by rw [← hp.length_eq, List.length_cons]
          have HPs2 := Aside0.mk (HPs.out.step (by omega) HH.out hp)
          have HH2 := Aside0.mk hh
          have HP2 := Aside0.mk hP
          have HR2 := Aside0.mk (hR _ _ _ HR.out)
          have HL : Aside0 ((O ++ [Hp.at_ M 0]).length ≤ 100) := ⟨by
            have h1 := HPs2.out.perm.length_eq
            rw [List.length_append, nums_length] at h1
            omega⟩
          clear hp hh hP hR HR HP HH HPs
          generalize Hp.at_ M 0 = y at *
          have hta := is55 w3 y
          unfold itv at hta ⊢
          have HB3 : Aside0 (Below W.heap.size W (w3.alloc (.cells (pc y).toArray 55))) := ⟨by
            obtain ⟨_, _, _, _, _, _, h⟩ := HP2.out
            exact h.alloc h.size _⟩
          have HS3 : Aside0 (W.heap.size ≤ (w3.alloc (.cells (pc y).toArray 55)).heap.size) := ⟨HB3.out.size⟩
          have HR3 := Aside0.mk (HR2.out.below ((Below.refl _ _).alloc (Nat.le_refl _) (Obj.cells (pc y).toArray 55)))
          have HP3 := Aside0.mk (HP2.out.below ((Below.refl _ _).alloc (Nat.le_refl _) (Obj.cells (pc y).toArray 55)))
          obtain ⟨inner, hown, hreps⟩ := HR3.out
          have HOW := Aside0.mk hown
          have HRE := Aside0.mk hreps
          have HLE : Aside0 ((ents O).length ≤ 100) := ⟨by unfold ents; rw [List.length_map]; exact HO.out⟩
          clear hown hreps
          go_wp2_with (at_builtin; refine print_append_cells (w0 := W) (W := w3.alloc (.cells (pc y).toArray 55)) W.heap.size rfl (.tmp 44) (.tmp 47) 22 26 _ 8 80 rfl Try.underlying22 info26 rfl (by decide) (by decide) u7 (ents O).length inner (pe y.f0) rfl (by rw [World.size_alloc]; rfl) rfl (pe_one _) HOW.out HB3.out HS3.out (by have := HLE.out; omega) ?_; intro v1 w4 ho4 hb4 hg4 hv4; have HR4 := Aside0.mk (Rw.snoc HRE.out ho4); have HP4 := Aside0.mk (HP3.out.grown HR3.out hg4 hb4); clear ho4 hb4 hg4 hv4)
          go_roundg M'.length
          case rel => exact ⟨O ++ [y], M', Nat.le_refl _, by omega, HL, HPs2, HH2, HP4, ⟨by unfold ents at *; rw [List.map_append]; exact HR4.out⟩⟩
          case measure => omega
/-- What Sort gives. -/
theorem sort_c {W : World} {A : Option Addr} {c : Nat} {l : List S26} (h : Kd.C k26 W A l.length l) (hn : l.length ≤ 100) :
    Calls Try.prog 17 #[.slice A l.length c] W fun e w' => ∃ v O, e = .returned v ∧ Rw 26 w' W.heap.size v (ents O) ∧ Pops (nums_ 0 l) O [] ∧ Below W.heap.size W w' := sort_w h hn
end Go.Proofs.Ytahihhklijcghaa
