/-
  Winners of package cascade and the law CascadeWins: plain law, layings, the map, the walks.
-/
import Derived.Test.YtahihhklijcghaaChainA
import Derived.Test.YtahihhklijcghaaRefN
import Derived.Sort.Walk0
import Derived.Shelf.SlIter.Nil
import Derived.Shelf.SortM.Plain
import Derived.Shelf.SortM.SortNone
import Derived.Test.YtahihhklijcghaaProg
import Derived.Maps.OwnOps
import Derived.Maps.Views
import Derived.Test.YtahihhklijcghaaLight
/-! WnsP -/
namespace Go.Proofs.Ytahihhklijcghaa
open Go.RowKit Go.Proofs.YtahihhklijcghaaW Go.Proofs.YtahihhklijcghaaW.PrintWords PCascadeSorts
set_option linter.unusedVariables false
set_option linter.unusedSimpArgs false
theorem ba_inj {a b : ByteArray} (h : a.toList = b.toList) : a = b := by
  rw [Lib.toList_data, Lib.toList_data] at h
  cases a
  cases b
  congr 1
  exact Array.toList_inj.1 h
theorem less_b (a b : ByteArray) : Op.bytesLess a.toList b.toList = decide (a.toList < b.toList) := bytesLess_eq _ _
theorem bl_irrefl (a : List UInt8) : ¬ a < a := List.lt_irrefl a
theorem bl_trans {a b c : List UInt8} (h1 : a < b) (h2 : b < c) : a < c := List.lt_trans h1 h2
theorem bl_asymm {a b : List UInt8} (h : a < b) : ¬ b < a := List.lt_asymm h
theorem bl_total {a b : List UInt8} (h : ¬ a < b) (hn : a ≠ b) : b < a := by
  rcases List.le_iff_lt_or_eq.1 (List.not_lt.1 h) with h | h
  · exact h
  · exact absurd h.symm hn
/-! ### the names, each once, rising -/
/-- A name more. -/
def insU (e : ByteArray) : List ByteArray → List ByteArray
  | [] => [e]
  | n :: r => if n.toList < e.toList then n :: insU e r else if n.toList = e.toList then e :: r else e :: n :: r
def Rising (L : List ByteArray) : Prop := L.Pairwise fun a b => a.toList < b.toList
theorem insU_mem {e x : ByteArray} : ∀ {L : List ByteArray}, x ∈ insU e L ↔ x = e ∨ x ∈ L
  | [] => by simp [insU]
  | n :: r => by
    unfold insU
    split
    · rw [List.mem_cons, insU_mem, List.mem_cons]
      constructor
      · rintro (h | h | h)
        · exact .inr (.inl h)
        · exact .inl h
        · exact .inr (.inr h)
      · rintro (h | h | h)
        · exact .inr (.inl h)
        · exact .inl h
        · exact .inr (.inr h)
    · split
      · next h =>
        rw [List.mem_cons, List.mem_cons, ba_inj h]
        constructor
        · rintro (h | h)
          · exact .inl h
          · exact .inr (.inr h)
        · rintro (h | h | h)
          · exact .inl h
          · exact .inl h
          · exact .inr h
      · rw [List.mem_cons]
theorem insU_rising {e : ByteArray} : ∀ {L : List ByteArray}, Rising L → Rising (insU e L)
  | [], _ => by simp [insU, Rising]
  | n :: r, h => by
    obtain ⟨h1, h2⟩ := List.pairwise_cons.1 h
    unfold insU
    split
    · next hl =>
      refine List.pairwise_cons.2 ⟨fun b hb => ?_, insU_rising h2⟩
      rcases insU_mem.1 hb with rfl | hb
      · exact hl
      · exact h1 b hb
    · split
      · next hne he =>
        refine List.pairwise_cons.2 ⟨fun b hb => ?_, h2⟩
        rw [← he]
        exact h1 b hb
      · next hl hne =>
        have hlt := bl_total hl hne
        refine List.pairwise_cons.2 ⟨fun b hb => ?_, h⟩
        rcases List.mem_cons.1 hb with rfl | hb
        · exact hlt
        · exact bl_trans hlt (h1 b hb)
theorem insU_length (e : ByteArray) : ∀ L : List ByteArray, (insU e L).length ≤ L.length + 1
  | [] => by simp [insU]
  | n :: r => by
    unfold insU
    have := insU_length e r
    split
    · simp only [List.length_cons]; omega
    · split
      · simp
      · simp
def namesU (l : List S26) : List ByteArray := l.foldl (fun ns x => insU x.f0 ns) []
theorem namesU_snoc (l : List S26) (x : S26) : namesU (l ++ [x]) = insU x.f0 (namesU l) := by
  unfold namesU
  rw [List.foldl_append]
  rfl
theorem namesU_rising (l : List S26) : Rising (namesU l) := snoc_ind (P := fun l => Rising (namesU l)) List.Pairwise.nil (fun l x ih => by rw [namesU_snoc]; exact insU_rising ih) l
theorem namesU_length (l : List S26) : (namesU l).length ≤ l.length := snoc_ind (P := fun l => (namesU l).length ≤ l.length) (Nat.le_refl _) (fun l x ih => by
  rw [namesU_snoc, List.length_append, List.length_singleton]
  exact Nat.le_trans (insU_length _ _) (Nat.succ_le_succ ih)) l
theorem namesU_mem {l : List S26} {n : ByteArray} : n ∈ namesU l ↔ ∃ x ∈ l, x.f0 = n := snoc_ind (P := fun l => n ∈ namesU l ↔ ∃ x ∈ l, x.f0 = n) (by simp [namesU]) (fun l x ih => by
  rw [namesU_snoc, insU_mem, ih]
  constructor
  · rintro (rfl | ⟨y, hy, rfl⟩)
    · exact ⟨x, by simp, rfl⟩
    · exact ⟨y, by simp [hy], rfl⟩
  · rintro ⟨y, hy, rfl⟩
    rcases List.mem_append.1 hy with hy | hy
    · exact .inr ⟨y, hy, rfl⟩
    · rw [List.mem_singleton.1 hy]
      exact .inl rfl) l
theorem strict_ext {α : Type} {lt : α → α → Prop} (irr : ∀ a, ¬ lt a a) (asy : ∀ {a b}, lt a b → ¬ lt b a) : ∀ {L M : List α}, L.Pairwise lt → M.Pairwise lt → (∀ x, x ∈ L ↔ x ∈ M) → L = M
  | [], [], _, _, _ => rfl
  | [], m :: M, _, _, h => absurd ((h m).2 (List.mem_cons_self ..)) (by simp)
  | a :: L, [], _, _, h => absurd ((h a).1 (List.mem_cons_self ..)) (by simp)
  | a :: L, m :: M, hL, hM, h => by
    obtain ⟨l1, l2⟩ := List.pairwise_cons.1 hL
    obtain ⟨m1, m2⟩ := List.pairwise_cons.1 hM
    have e : a = m := by
      rcases List.mem_cons.1 ((h a).1 (List.mem_cons_self ..)) with e | ha
      · exact e
      · rcases List.mem_cons.1 ((h m).2 (List.mem_cons_self ..)) with e | hm
        · exact e.symm
        · exact absurd (l1 m hm) (asy (m1 a ha))
    subst e
    congr 1
    refine strict_ext irr asy l2 m2 (fun x => ⟨fun hx => ?_, fun hx => ?_⟩)
    · rcases List.mem_cons.1 ((h x).1 (List.mem_cons_of_mem _ hx)) with e | hx'
      · subst e
        exact absurd (l1 x hx) (irr x)
      · exact hx'
    · rcases List.mem_cons.1 ((h x).2 (List.mem_cons_of_mem _ hx)) with e | hx'
      · subst e
        exact absurd (m1 x hx) (irr x)
      · exact hx'
theorem win_has {l : List S26} {n : ByteArray} : (winS l n).2 = true ↔ ∃ x ∈ l, x.f0 = n := snoc_ind (P := fun l => (winS l n).2 = true ↔ ∃ x ∈ l, x.f0 = n) (by simp [winS]) (fun l x ih => by
  rw [winS_snoc]
  unfold winStep
  by_cases hx : x.f0.toList = n.toList
  · have hx' := ba_inj hx
    constructor
    · intro _
      exact ⟨x, by simp, hx'⟩
    · intro _
      split
      · rfl
      · next h =>
        cases h2 : (winS l n).2 with
        | true => rfl
        | false => exact absurd ⟨hx, .inl h2⟩ h
  · rw [if_neg (fun h => hx h.1), ih]
    constructor
    · rintro ⟨y, hy, e⟩
      exact ⟨y, by simp [hy], e⟩
    · rintro ⟨y, hy, e⟩
      rcases List.mem_append.1 hy with hy | hy
      · exact ⟨y, hy, e⟩
      · rw [List.mem_singleton.1 hy] at e
        exact absurd (by rw [e]) hx) l
/-- The winners of all names. -/
def winnersE (l : List S26) : List S26 := (namesU l).map fun n => (winS l n).1
theorem winnersE_length (l : List S26) : (winnersE l).length ≤ l.length := by
  unfold winnersE
  rw [List.length_map]
  exact namesU_length l
/-! ### the document's functions -/
theorem rd33_map (l : List S26) (i : Nat) (h : i < l.length) : rd_T33 (l.map to33) (i : Int) = to33 l[i] := by
  rw [rd33_at _ i (by rw [List.length_map]; exact h)]
  exact List.getElem_map _
theorem back {i : Nat} (h : i ≤ 1000) : wrap64 ((i : Int) - 1) = (i : Int) - 1 := by
  unfold wrap64
  omega
theorem rchain_l1 (R : List S26) (hn : R.length ≤ 100) : ∀ (i k : Nat) (O : List S33), i ≤ R.length → i < k → O.length + i ≤ 200 →
    gouacheref17_Chain.l1 k (R.map to33) O ((i : Int) - 1) = some (O ++ ((R.take i).reverse.map to33)) := by
  intro i
  induction i with
  | zero =>
    intro k O hi hk hO
    obtain ⟨k, rfl⟩ : ∃ m, k = m + 1 := ⟨k - 1, by omega⟩
    simp only [gouacheref17_Chain.l1]
    rw [if_neg (by omega)]
    simp
  | succ i ih =>
    intro k O hi hk hO
    obtain ⟨k, rfl⟩ : ∃ m, k = m + 1 := ⟨k - 1, by omega⟩
    have e : ((i + 1 : Nat) : Int) - 1 = (i : Int) := by omega
    rw [e]
    simp only [gouacheref17_Chain.l1]
    rw [if_pos (by omega), if_pos (by omega), if_pos (by rw [List.length_map]; omega), if_pos (by omega), rd33_map R i (by omega), back (by omega)]
    rw [ih k _ (by omega) (by omega) (by rw [List.length_append, List.length_singleton]; omega), List.take_succ_eq_append_getElem (by omega : i < R.length), List.reverse_append, List.map_append, List.reverse_singleton, List.map_singleton, List.append_assoc]
theorem rchain_l0 (name : ByteArray) (l : List S26) (hn : l.length ≤ 100) (d : Nat) : ∀ (k i : Nat), i + d = l.length → d + 102 < k →
    gouacheref17_Chain.l0 k name (((l.take i).filter (ofN name)).map to33) (l.map to33) (l.length : Int) (i : Int) = some ((chainE l name).map to33) := by
  induction d with
  | zero =>
    intro k i hi hk
    obtain ⟨k, rfl⟩ : ∃ m, k = m + 1 := ⟨k - 1, by omega⟩
    have hfl : (l.filter (ofN name)).length ≤ 100 := Nat.le_trans (List.length_filter_le _ _) hn
    have hsl := sortE_length (l.filter (ofN name))
    simp only [gouacheref17_Chain.l0]
    rw [if_neg (by omega), List.take_of_length_le (by omega)]
    unfold gouacheref17_Sort.f
    rw [if_pos (by rw [List.length_map]; exact hfl), Option.bind_some, of_to, List.length_map, back (by omega)]
    rw [rchain_l1 (sortE (l.filter (ofN name))) (by omega) _ k [] (Nat.le_refl _) (by omega) (by simp; omega)]
    rw [List.take_length]
    rfl
  | succ d ih =>
    intro k i hi hk
    obtain ⟨k, rfl⟩ : ∃ m, k = m + 1 := ⟨k - 1, by omega⟩
    have hlt : i < l.length := by omega
    have hw : wrap64 ((i : Int) + 1) = ((i + 1 : Nat) : Int) := by rw [wrap_next (n := l.length) (by omega) (by omega) (by omega)]; omega
    have hfl : ((l.take i).filter (ofN name)).length ≤ 100 := Nat.le_trans (List.length_filter_le _ _) (by rw [List.length_take]; omega)
    have ih := ih k (i + 1) (by omega) (by omega)
    rw [List.take_succ_eq_append_getElem hlt, List.filter_append] at ih
    simp only [gouacheref17_Chain.l0]
    rw [if_pos (by omega), if_pos (by omega), if_pos (by rw [List.length_map]; omega), rd33_map l i hlt, hw]
    generalize l[i] = x at ih
    by_cases hx : x.f0.toList = name.toList
    · have h1 : ofN name x = true := by unfold ofN; rw [hx]; simp
      have h2 : List.filter (ofN name) [x] = [x] := by simp [h1]
      rw [h2, List.map_append] at ih
      rw [if_pos (by exact hx), if_pos (by rw [List.length_map]; omega)]
      exact ih
    · have h1 : ofN name x = false := by unfold ofN; simp [hx]
      have h2 : List.filter (ofN name) [x] = [] := by simp [h1]
      rw [h2, List.append_nil] at ih
      rw [if_neg (by exact hx)]
      exact ih
theorem rchain_f (name : ByteArray) (l : List S26) (hn : l.length ≤ 100) (k : Nat) (hk : 203 ≤ k) : gouacheref17_Chain.f k (l.map to33) name = some ((chainE l name).map to33) := by
  have := rchain_l0 name l hn l.length k 0 (by omega) (by omega)
  unfold gouacheref17_Chain.f
  rw [List.length_map]
  exact this
theorem rwin_f (name : ByteArray) (l : List S26) (hn : l.length ≤ 100) (k : Nat) (hk : 203 ≤ k) : gouacheref17_Winner.f k (l.map to33) name =
    some ((winS l name).1.f0, (winS l name).1.f1, (winS l name).1.f2, (winS l name).1.f3, (winS l name).1.f4.f0, (winS l name).1.f4.f1, (winS l name).1.f4.f2, (winS l name).1.f5, (winS l name).2) := by
  unfold gouacheref17_Winner.f
  rw [rchain_f name l hn k hk, Option.bind_some, win_chain]
  cases h : chainE l name with
  | nil => rfl
  | cons x r =>
    have h0 : ¬ (((x :: r).map to33).length : Int) = 0 := by rw [List.length_map, List.length_cons]; omega
    rw [if_neg h0]
    have hl : (0 : Int) < (((x :: r).map to33).length : Int) := by rw [List.length_map, List.length_cons]; omega
    rw [if_pos hl]
    rfl
/-! ### Winners -/
theorem rdOf_at (L : List ByteArray) (i : Nat) (h : i < L.length) : rdOf ByteArray.empty L (i : Int) = L[i] := by
  unfold rdOf
  rw [Int.toNat_natCast, List.getD_eq_getElem?_getD, List.getElem?_eq_getElem h]
  rfl
theorem rw_l0_up {x0 x15 : List S33} {x3 : List ByteArray} {x16 x17 : Int} {r : List S33} {K : Nat} (h : gouacheref17_Winners.l0 K x0 x3 x15 x16 x17 = some r) : ∀ {k : Nat}, K ≤ k → gouacheref17_Winners.l0 k x0 x3 x15 x16 x17 = some r := by
  intro k hk
  obtain ⟨d, rfl⟩ : ∃ d, k = K + d := ⟨k - K, by omega⟩
  clear hk
  induction d with
  | zero => exact h
  | succ d ih => exact (gouacheref17_Winners.mono_l (K + d)).1 _ _ _ _ _ _ ih
section
variable (x0 x15 : List S33) (x16 x17 : Int) (N : List ByteArray) (y : S26) (r : List S33) (K : Nat)
theorem rw_l1_true (hN : N.length ≤ 100) (d : Nat) : ∀ (k j : Nat) (M : List ByteArray), j + d = N.length → (∀ n ∈ N.drop j, y.f0.toList < n.toList) → M.length + d ≤ 300 → gouacheref17_Winners.l0 K x0 (M ++ N.drop j) x15 x16 (wrap64 (x17 + 1)) = some r → K + 2 * d + 1 ≤ k →
    gouacheref17_Winners.l1 k x0 M true x15 x16 x17 N (N.length : Int) (j : Int) y.f0 y.f1 y.f2 y.f3 y.f4.f0 y.f4.f1 y.f4.f2 y.f5 = some r := by
  induction d with
  | zero =>
    intro k j M hj hlt hM h hk
    obtain ⟨k, rfl⟩ : ∃ m, k = m + 1 := ⟨k - 1, by omega⟩
    rw [List.drop_of_length_le (by omega), List.append_nil] at h
    simp only [gouacheref17_Winners.l1]
    rw [if_neg (by omega), if_pos True.intro]
    exact rw_l0_up h (by omega)
  | succ d ih =>
    intro k j M hj hlt hM h hk
    obtain ⟨k, rfl⟩ : ∃ m, k = m + 2 := ⟨k - 2, by omega⟩
    have hjl : j < N.length := by omega
    have hw : wrap64 ((j : Int) + 1) = ((j + 1 : Nat) : Int) := by rw [wrap_next (n := N.length) (by omega) (by omega) (by omega)]; omega
    rw [List.drop_eq_getElem_cons hjl] at h hlt
    have hn := hlt _ (List.mem_cons_self ..)
    have h1 : Op.bytesLess (N[j]).toList y.f0.toList = false := by rw [less_b]; exact decide_eq_false (bl_asymm hn)
    have h2 : ¬ (N[j]).toList = y.f0.toList := fun e => bl_irrefl _ (by rw [e] at hn; exact hn)
    simp only [gouacheref17_Winners.l1]
    rw [if_pos (by omega), if_pos (by omega), if_pos (by omega), rdOf_at N j hjl, h1, if_neg (by decide)]
    simp only [gouacheref17_Winners.j2]
    rw [if_neg (by decide), if_neg h2, if_pos (by omega), hw]
    refine ih k (j + 1) (M ++ [N[j]]) (by omega) (fun n hn => hlt n (List.mem_cons_of_mem _ hn)) (by rw [List.length_append, List.length_singleton]; omega) ?_ (by omega)
    rw [List.append_assoc]
    exact h
theorem rw_l1_false (hN : N.length ≤ 100) (d : Nat) : ∀ (k j : Nat) (M : List ByteArray), j + d = N.length → Rising (N.drop j) → M.length + d ≤ 200 → gouacheref17_Winners.l0 K x0 (M ++ insU y.f0 (N.drop j)) x15 x16 (wrap64 (x17 + 1)) = some r → K + 2 * d + 1 ≤ k →
    gouacheref17_Winners.l1 k x0 M false x15 x16 x17 N (N.length : Int) (j : Int) y.f0 y.f1 y.f2 y.f3 y.f4.f0 y.f4.f1 y.f4.f2 y.f5 = some r := by
  induction d with
  | zero =>
    intro k j M hj hr hM h hk
    obtain ⟨k, rfl⟩ : ∃ m, k = m + 1 := ⟨k - 1, by omega⟩
    rw [List.drop_of_length_le (by omega)] at h
    simp only [gouacheref17_Winners.l1]
    rw [if_neg (by omega), if_neg (by decide), if_pos (by omega)]
    exact rw_l0_up h (by omega)
  | succ d ih =>
    intro k j M hj hr hM h hk
    obtain ⟨k, rfl⟩ : ∃ m, k = m + 2 := ⟨k - 2, by omega⟩
    have hjl : j < N.length := by omega
    have hw : wrap64 ((j : Int) + 1) = ((j + 1 : Nat) : Int) := by rw [wrap_next (n := N.length) (by omega) (by omega) (by omega)]; omega
    rw [List.drop_eq_getElem_cons hjl] at h hr
    obtain ⟨r1, r2⟩ := List.pairwise_cons.1 hr
    simp only [gouacheref17_Winners.l1]
    rw [if_pos (by omega), if_pos (by omega), if_pos (by omega), rdOf_at N j hjl, less_b]
    unfold insU at h
    by_cases h1 : (N[j]).toList < y.f0.toList
    · rw [if_pos h1] at h
      rw [if_pos (decide_eq_true h1)]
      have h2 : ¬ (N[j]).toList = y.f0.toList := fun e => bl_irrefl _ (by rw [e] at h1; exact h1)
      simp only [gouacheref17_Winners.j2]
      rw [if_neg (by decide), if_neg h2, if_pos (by omega), hw]
      refine ih k (j + 1) (M ++ [N[j]]) (by omega) r2 (by rw [List.length_append, List.length_singleton]; omega) ?_ (by omega)
      rw [List.append_assoc]
      exact h
    · rw [if_neg h1] at h
      rw [if_neg (by simpa using h1)]
      simp only [gouacheref17_Winners.j2, Bool.not_false]
      rw [if_pos True.intro, if_pos (by omega), Option.bind_some]
      by_cases h2 : (N[j]).toList = y.f0.toList
      · rw [if_pos h2] at h
        rw [if_pos h2, hw]
        refine rw_l1_true x0 x15 x16 x17 N y r K hN d k (j + 1) (M ++ [y.f0]) (by omega) (fun n hn => by rw [← h2]; exact r1 n hn) (by rw [List.length_append, List.length_singleton]; omega) ?_ (by omega)
        rw [List.append_assoc]
        exact h
      · rw [if_neg h2] at h
        have hlt := bl_total h1 h2
        rw [if_neg h2, if_pos (by rw [List.length_append, List.length_singleton]; omega), hw]
        refine rw_l1_true x0 x15 x16 x17 N y r K hN d k (j + 1) (M ++ [y.f0] ++ [N[j]]) (by omega) (fun n hn => bl_trans hlt (r1 n hn)) (by rw [List.length_append, List.length_append, List.length_singleton, List.length_singleton]; omega) ?_ (by omega)
        rw [List.append_assoc, List.append_assoc]
        exact h
end
theorem rw_l2 (l : List S26) (hn : l.length ≤ 100) (N : List ByteArray) (hN : N.length ≤ 100) (d : Nat) : ∀ (k j : Nat), j + d = N.length → d + 204 ≤ k →
    gouacheref17_Winners.l2 k (l.map to33) (((N.take j).map fun n => (winS l n).1).map to33) N (N.length : Int) (j : Int) = some ((N.map fun n => (winS l n).1).map to33) := by
  induction d with
  | zero =>
    intro k j hj hk
    obtain ⟨k, rfl⟩ : ∃ m, k = m + 1 := ⟨k - 1, by omega⟩
    simp only [gouacheref17_Winners.l2]
    rw [if_neg (by omega), List.take_of_length_le (by omega)]
  | succ d ih =>
    intro k j hj hk
    obtain ⟨k, rfl⟩ : ∃ m, k = m + 1 := ⟨k - 1, by omega⟩
    have hjl : j < N.length := by omega
    have hw : wrap64 ((j : Int) + 1) = ((j + 1 : Nat) : Int) := by rw [wrap_next (n := N.length) (by omega) (by omega) (by omega)]; omega
    have ih := ih k (j + 1) (by omega) (by omega)
    rw [List.take_succ_eq_append_getElem hjl, List.map_append, List.map_append] at ih
    simp only [gouacheref17_Winners.l2]
    rw [if_pos (by omega), if_pos (by omega), if_pos (by omega), rdOf_at N j hjl, rwin_f _ l hn k (by omega), Option.bind_some, if_pos (by rw [List.length_map, List.length_map, List.length_take]; omega), hw]
    exact ih
theorem rw_l0 (l : List S26) (hn : l.length ≤ 100) (d : Nat) : ∀ (k i : Nat), i + d = l.length → d * 210 + 400 ≤ k →
    gouacheref17_Winners.l0 k (l.map to33) (namesU (l.take i)) (l.map to33) (l.length : Int) (i : Int) = some ((winnersE l).map to33) := by
  induction d with
  | zero =>
    intro k i hi hk
    obtain ⟨k, rfl⟩ : ∃ m, k = m + 1 := ⟨k - 1, by omega⟩
    have hN : (namesU l).length ≤ 100 := Nat.le_trans (namesU_length l) hn
    simp only [gouacheref17_Winners.l0]
    rw [if_neg (by omega), List.take_of_length_le (by omega)]
    exact rw_l2 l hn (namesU l) hN (namesU l).length k 0 (by omega) (by omega)
  | succ d ih =>
    intro k i hi hk
    obtain ⟨k, rfl⟩ : ∃ m, k = m + 1 := ⟨k - 1, by omega⟩
    have hlt : i < l.length := by omega
    have hw : wrap64 ((i : Int) + 1) = ((i + 1 : Nat) : Int) := by rw [wrap_next (n := l.length) (by omega) (by omega) (by omega)]; omega
    have hN : (namesU (l.take i)).length ≤ 100 := Nat.le_trans (namesU_length _) (by rw [List.length_take]; omega)
    have ih := ih (d * 210 + 400) (i + 1) (by omega) (Nat.le_refl _)
    rw [List.take_succ_eq_append_getElem hlt, namesU_snoc] at ih
    simp only [gouacheref17_Winners.l0]
    rw [if_pos (by omega), if_pos (by omega), if_pos (by rw [List.length_map]; omega), rd33_map l i hlt]
    exact rw_l1_false (l.map to33) (l.map to33) (l.length : Int) (i : Int) (namesU (l.take i)) l[i] _ (d * 210 + 400) hN (namesU (l.take i)).length k 0 [] (by omega) (namesU_rising _) (by simp; omega) (by rw [hw]; exact ih) (by omega)
theorem rwinners_f (l : List S26) (hn : l.length ≤ 100) (k : Nat) (hk : 21400 ≤ k) : gouacheref17_Winners.f k (l.map to33) = some ((winnersE l).map to33) := by
  have := rw_l0 l hn l.length k 0 (by omega) (by omega)
  unfold gouacheref17_Winners.f
  rw [List.length_map]
  exact this
end Go.Proofs.Ytahihhklijcghaa
/-! LaidK -/
namespace Go.Proofs.Ytahihhklijcghaa
open Go.RowKit Go.Maps Go.Sort Go.Shelf
def keysL_ren : Go.Shelf.Ren := ⟨fun | 7 => 35 | 10 => 40 | n => n, fun | 23 => 63 | 26 => 9 | 3 => 26 | 28 => 67 | 0 => 0 | 27 => 66 | 33 => 76 | 4 => 4 | n => n, fun | n => n⟩
theorem keysL : Go.Proofs.SlLaysZ.n7 Try.prog keysL_ren := {
  mixed := by kernel_rfl
  f7 := ⟨Try.f35.name, by decide, Try.func35.trans (congrArg some (by kernel_rfl))⟩
  f10 := ⟨Try.f40.name, by decide, Try.func40.trans (congrArg some (by kernel_rfl))⟩
  t0 := Try.underlying0
  a0 := Try.isAgg0
  z0 := Try.sizeOf0
  v0 := Try.zeroValue0
  t4 := Try.underlying4
  a4 := Try.isAgg4
  z4 := Try.sizeOf4
  v4 := Try.zeroValue4
  t23 := Try.underlying63
  a23 := Try.isAgg63
  z23 := Try.sizeOf63
  v23 := Try.zeroValue63
  t26 := Try.underlying9
  a26 := Try.isAgg9
  z26 := Try.sizeOf9
  v26 := Try.zeroValue9
  t27 := Try.underlying66
  a27 := Try.isAgg66
  z27 := Try.sizeOf66
  v27 := Try.zeroValue66
  t28 := Try.underlying67
  a28 := Try.isAgg67
  z28 := Try.sizeOf67
  v28 := Try.zeroValue67
  t33 := Try.underlying76
  a33 := Try.isAgg76
  z33 := Try.sizeOf76
  v33 := Try.zeroValue76 }
def sortedL_ren : Go.Shelf.Ren := ⟨fun | 6 => 34 | 8 => 38 | 9 => 39 | 11 => 41 | 13 => 43 | 12 => 42 | 23 => 53 | 24 => 54 | 14 => 44 | 15 => 45 | 16 => 46 | 17 => 47 | 18 => 48 | 19 => 49 | 20 => 50 | 21 => 51 | 22 => 52 | 25 => 55 | 26 => 56 | 27 => 57 | 28 => 58 | 29 => 59 | 30 => 60 | 31 => 61 | n => n, fun | 26 => 9 | 28 => 67 | 24 => 64 | 0 => 0 | 3 => 3 | 37 => 81 | 48 => 92 | 50 => 94 | 4 => 4 | 40 => 84 | 39 => 83 | 45 => 89 | 5 => 5 | 9 => 9 | 51 => 95 | 55 => 99 | 57 => 101 | 58 => 102 | 33 => 76 | n => n, fun | n => n⟩
theorem sortedL : Go.Proofs.SlLaysZ.n6 Try.prog sortedL_ren := {
  mixed := by kernel_rfl
  f6 := ⟨Try.f34.name, by decide, Try.func34.trans (congrArg some (by kernel_rfl))⟩
  f8 := ⟨Try.f38.name, by decide, Try.func38.trans (congrArg some (by kernel_rfl))⟩
  f11 := ⟨Try.f41.name, by decide, Try.func41.trans (congrArg some (by kernel_rfl))⟩
  t0 := Try.underlying0
  a0 := Try.isAgg0
  z0 := Try.sizeOf0
  v0 := Try.zeroValue0
  t24 := Try.underlying64
  a24 := Try.isAgg64
  z24 := Try.sizeOf64
  v24 := Try.zeroValue64
  t26 := Try.underlying9
  a26 := Try.isAgg9
  z26 := Try.sizeOf9
  v26 := Try.zeroValue9
  t28 := Try.underlying67
  a28 := Try.isAgg67
  z28 := Try.sizeOf67
  v28 := Try.zeroValue67
  i26 := by kernel_rfl }
def sortL_ren : Go.Shelf.Ren := ⟨fun | 6 => 39 | 8 => 43 | 9 => 42 | 19 => 53 | 20 => 54 | 21 => 44 | 22 => 45 | 23 => 46 | 24 => 47 | 25 => 48 | 26 => 49 | 27 => 50 | 28 => 51 | 29 => 52 | 36 => 55 | 31 => 56 | 32 => 57 | 37 => 58 | 38 => 59 | 39 => 60 | 41 => 61 | n => n, fun | 27 => 64 | 29 => 9 | 3 => 3 | 32 => 81 | 26 => 64 | 0 => 0 | 44 => 92 | 46 => 94 | 4 => 4 | 36 => 84 | 35 => 83 | 41 => 89 | 5 => 5 | 9 => 9 | 53 => 95 | 57 => 99 | 63 => 101 | 64 => 102 | n => n, fun | n => n⟩
theorem sortL : Go.Proofs.SlLaysM.n6 Try.prog sortL_ren := {
  mixed := by kernel_rfl
  f6 := ⟨Try.f39.name, by decide, Try.func39.trans (congrArg some (by kernel_rfl))⟩
  f8 := Try.func43.trans (congrArg some (by kernel_rfl))
  f9 := ⟨Try.f42.name, by decide, Try.func42.trans (congrArg some (by kernel_rfl))⟩
  f19 := Try.func53.trans (congrArg some (by kernel_rfl))
  f20 := Try.func54.trans (congrArg some (by kernel_rfl))
  f21 := ⟨Try.f44.name, by decide, Try.func44.trans (congrArg some (by kernel_rfl))⟩
  f22 := ⟨Try.f45.name, by decide, Try.func45.trans (congrArg some (by kernel_rfl))⟩
  f23 := ⟨Try.f46.name, by decide, Try.func46.trans (congrArg some (by kernel_rfl))⟩
  f24 := ⟨Try.f47.name, by decide, Try.func47.trans (congrArg some (by kernel_rfl))⟩
  f25 := ⟨Try.f48.name, by decide, Try.func48.trans (congrArg some (by kernel_rfl))⟩
  f26 := ⟨Try.f49.name, by decide, Try.func49.trans (congrArg some (by kernel_rfl))⟩
  f27 := ⟨Try.f50.name, by decide, Try.func50.trans (congrArg some (by kernel_rfl))⟩
  f28 := ⟨Try.f51.name, by decide, Try.func51.trans (congrArg some (by kernel_rfl))⟩
  f29 := ⟨Try.f52.name, by decide, Try.func52.trans (congrArg some (by kernel_rfl))⟩
  f31 := Try.func56.trans (congrArg some (by kernel_rfl))
  f32 := Try.func57.trans (congrArg some (by kernel_rfl))
  f36 := ⟨Try.f55.name, by decide, Try.func55.trans (congrArg some (by kernel_rfl))⟩
  f37 := ⟨Try.f58.name, by decide, Try.func58.trans (congrArg some (by kernel_rfl))⟩
  f38 := ⟨Try.f59.name, by decide, Try.func59.trans (congrArg some (by kernel_rfl))⟩
  f39 := ⟨Try.f60.name, by decide, Try.func60.trans (congrArg some (by kernel_rfl))⟩
  f41 := ⟨Try.f61.name, by decide, Try.func61.trans (congrArg some (by kernel_rfl))⟩
  t0 := Try.underlying0
  a0 := Try.isAgg0
  z0 := Try.sizeOf0
  v0 := Try.zeroValue0
  t3 := Try.underlying3
  a3 := Try.isAgg3
  z3 := Try.sizeOf3
  v3 := Try.zeroValue3
  t4 := Try.underlying4
  a4 := Try.isAgg4
  z4 := Try.sizeOf4
  v4 := Try.zeroValue4
  t5 := Try.underlying5
  a5 := Try.isAgg5
  z5 := Try.sizeOf5
  v5 := Try.zeroValue5
  t9 := Try.underlying9
  a9 := Try.isAgg9
  z9 := Try.sizeOf9
  v9 := Try.zeroValue9
  t26 := Try.underlying64
  a26 := Try.isAgg64
  z26 := Try.sizeOf64
  v26 := Try.zeroValue64
  t27 := Try.underlying64
  a27 := Try.isAgg64
  z27 := Try.sizeOf64
  v27 := Try.zeroValue64
  t29 := Try.underlying9
  a29 := Try.isAgg9
  z29 := Try.sizeOf9
  v29 := Try.zeroValue9
  t32 := Try.underlying81
  a32 := Try.isAgg81
  z32 := Try.sizeOf81
  v32 := Try.zeroValue81
  t35 := Try.underlying83
  a35 := Try.isAgg83
  z35 := Try.sizeOf83
  v35 := Try.zeroValue83
  t36 := Try.underlying84
  a36 := Try.isAgg84
  z36 := Try.sizeOf84
  v36 := Try.zeroValue84
  t41 := Try.underlying89
  a41 := Try.isAgg89
  z41 := Try.sizeOf89
  v41 := Try.zeroValue89
  t44 := Try.underlying92
  a44 := Try.isAgg92
  z44 := Try.sizeOf92
  v44 := Try.zeroValue92
  t46 := Try.underlying94
  a46 := Try.isAgg94
  z46 := Try.sizeOf94
  v46 := Try.zeroValue94
  t53 := Try.underlying95
  a53 := Try.isAgg95
  z53 := Try.sizeOf95
  v53 := Try.zeroValue95
  t57 := Try.underlying99
  a57 := Try.isAgg99
  z57 := Try.sizeOf99
  v57 := Try.zeroValue99
  t63 := Try.underlying101
  a63 := Try.isAgg101
  z63 := Try.sizeOf101
  v63 := Try.zeroValue101
  t64 := Try.underlying102
  a64 := Try.isAgg102
  z64 := Try.sizeOf102
  v64 := Try.zeroValue102 }
/-- slices.Sort's two contracts, at the fence that asks nothing. -/
theorem sortsIn (m : Nat) : AnyZ.SortsIn Try.prog sortedL_ren Fence.wide m :=
  ⟨fun blk off cap ss W hH hblk hsz => callsIn_wide.2 (AnyM.slices_Sort_string sortL blk off cap ss W hH hblk hsz),
   fun p cap W => callsIn_wide.2 (AnyM.slices_Sort_string_none sortL p cap W)⟩
/-- maps.Keys. -/
theorem keys_c (mb : Option Nat) (W : World) : Calls Try.prog 35 #[.map mb] W fun e w' => e = .returned (.func (.func 40) #[] #[.pointer (some ⟨W.heap.size, 0, none⟩)]) ∧ w' = W.alloc (.cells #[.map mb] 63) :=
  (callsIn_wide (n := 5)).1 (AnyZ.keys_in keysL Fence.wide 5 trivial rfl mb W)
/-- slices.Sorted of a map's keys. -/
theorem sorted_c {H : Type} (b nn : Nat) (D0 : DataW H) (R : Value → Option (DataW H × List MemPlace)) (w : World) (hown : w.ownsMap Try.prog 9 R b nn D0) (hmax : Maps.size D0 ≤ maxLen) (hbytes : Maps.size D0 * 16 ≤ 140737488355328) :
    Calls Try.prog 34 #[.func (.func 40) #[] #[.pointer (some ⟨w.heap.size, 0, none⟩)]] (w.alloc (.cells #[.map (some b)] 63)) fun e w' => ∃ (v : Value) (ss : List (List UInt8)), e = .returned v ∧ ss.Perm (strKeys D0) ∧
      w'.ownsRow w.heap.size 9 1 v ss.length ((ss.mergeSort (fun x y => decide (x ≤ y))).map encStr) ∧ Below w.heap.size w w' := by
  have hbl := hown.lt
  have hseq : SeqGives Fence.wide 2 Try.prog 40 #[.pointer (some ⟨w.heap.size, 0, none⟩)] encStr (fun ss => ss.Perm (strKeys D0)) (Maps.size D0) (w.alloc (.cells #[.map (some b)] 63)) :=
    AnyZ.keys_gives (ρ := keysL_ren) { keysL with } Fence.wide _ trivial rfl (by omega) w.heap.size b nn D0 _ (by simp) (by simp) (by
      obtain ⟨es, clock, hb, Ft, hs, hD⟩ := hown
      exact ⟨es, clock, (Below.heap_alloc _ _ b hbl).trans hb, Ft, hs, hD⟩)
  have cS := AnyZ.sorted_in sortedL Fence.wide 5 trivial trivial trivial trivial rfl (by omega) (sortsIn _) (enters_of Try.func39 (by kernel_rfl) rfl) 40 #[.pointer (some ⟨w.heap.size, 0, none⟩)] trivial (enters_of Try.func40 (by kernel_rfl) rfl) _ _ hmax hbytes _ hseq
  refine ((callsIn_wide (n := 5)).1 cS).mono ?_
  rintro e w' ⟨v, ss, rfl, hS, hrow, hnil, hb⟩
  exact ⟨v, ss, rfl, hS, ownsRow_base_a hrow (by simp), ((Below.refl _ w).alloc (Nat.le_refl _) _).trans (hb.mono (by simp))⟩
end Go.Proofs.Ytahihhklijcghaa
/-! WnsM -/
namespace Go.Proofs.Ytahihhklijcghaa
open Go.RowKit Go.Proofs.YtahihhklijcghaaW Go.Proofs.YtahihhklijcghaaW.PrintWords PCascadeSorts
open Go.Maps (Keyed string_keyed has IsMap)
set_option linter.unusedVariables false
set_option linter.unusedSimpArgs false
/-- An element of the map reads as itself. -/
def heldR (v : Value) : Option (DataW Value × List MemPlace) := some (.held v, [])
def keyN (n : ByteArray) : Lit := .string n.data.toList
theorem keyN_inj {a b : ByteArray} (h : keyN a = keyN b) : a = b := by
  unfold keyN at h
  injection h with h
  exact ba_inj (by rw [Lib.toList_data, Lib.toList_data]; exact h)
theorem keyN_key (n : ByteArray) : WideAt.IsKeyLit (keyN n) := trivial
theorem keyK : Keyed Try.prog 9 := string_keyed Try.underlying9
theorem key_of {n : ByteArray} (h : n.size ≤ 140737488351232) : keyOf Try.prog 9 (.string n) = some (keyN n) := Go.WideMaps.keyOf_string_mk Try.underlying9 (by unfold maxLen; omega)
/-- The map's datum holds each name's winner. -/
def Mp (D : DataW Value) (l : List S26) : Prop := IsMap D ∧ ∀ n : ByteArray, has D (keyN n) = (winS l n).2 ∧ ((winS l n).2 = true → ∀ z, D.atKey (keyN n) z = .held (ev (winS l n).1))
theorem Mp.nil : Mp (.map []) [] := ⟨⟨[], rfl⟩, fun n => ⟨rfl, fun h => by cases h⟩⟩
theorem winS_other {l : List S26} {x : S26} {n : ByteArray} (h : ¬ x.f0 = n) : winS (l ++ [x]) n = winS l n := by
  rw [winS_snoc]
  unfold winStep
  rw [if_neg (fun e => h (ba_inj e.1))]
theorem winS_put {l : List S26} {x : S26} (h : (winS l x.f0).2 = false ∨ lessS x (winS l x.f0).1 = false) : winS (l ++ [x]) x.f0 = (x, true) := by
  rw [winS_snoc]
  unfold winStep
  rw [if_pos ⟨rfl, h⟩]
theorem winS_keep {l : List S26} {x : S26} (h1 : (winS l x.f0).2 = true) (h2 : lessS x (winS l x.f0).1 = true) : winS (l ++ [x]) x.f0 = winS l x.f0 := by
  rw [winS_snoc]
  unfold winStep
  rw [if_neg (fun h => by rcases h.2 with h | h <;> simp [h1, h2] at h)]
theorem Mp.put {D : DataW Value} {l : List S26} {x : S26} (h : Mp D l) (hx : (winS l x.f0).2 = false ∨ lessS x (winS l x.f0).1 = false) : Mp (D.put (keyN x.f0) (.held (ev x))) (l ++ [x]) := by
  refine ⟨h.1.put _ _, fun n => ?_⟩
  by_cases hn : x.f0 = n
  · subst hn
    rw [winS_put hx]
    exact ⟨Maps.has_put_same h.1 (keyN_key _) _, fun _ z => Maps.atKey_put_same h.1 (keyN_key _) _ z⟩
  · rw [winS_other hn]
    have hne : keyN n ≠ keyN x.f0 := fun e => hn (keyN_inj e).symm
    rw [Maps.has_put_other hne]
    refine ⟨(h.2 n).1, fun h1 z => ?_⟩
    rw [Maps.atKey_put_other hne]
    exact (h.2 n).2 h1 z
theorem Mp.keep {D : DataW Value} {l : List S26} {x : S26} (h : Mp D l) (h1 : (winS l x.f0).2 = true) (h2 : lessS x (winS l x.f0).1 = true) : Mp D (l ++ [x]) := by
  refine ⟨h.1, fun n => ?_⟩
  by_cases hn : x.f0 = n
  · subst hn
    rw [winS_keep h1 h2]
    exact h.2 _
  · rw [winS_other hn]
    exact h.2 n
theorem winS_none {l : List S26} {n : ByteArray} (h : (winS l n).2 = false) : winS l n = (z26, false) := by
  rw [win_chain] at h ⊢
  cases hc : chainE l n with
  | nil => rfl
  | cons x r => rw [hc] at h; cases h
theorem zv26 (w : World) : (zeroValue 26).run Try.prog w = .ok (ev z26) w := by kernel_rfl
section
variable {w : World} {b k : Nat} {D : DataW Value} {l : List S26} {n : ByteArray}
/-- 'was, ok := all[n]' -/
theorem look_ok (ho : w.ownsMap Try.prog 9 heldR b k D) (h : Mp D l) (hn : n.size ≤ 140737488351232) :
    (Instr.lookup 63 (.map (some b)) (.string n) true).run Try.prog w = .ok (.tuple #[ev (winS l n).1, .bool (winS l n).2]) w := by
  obtain ⟨es, clock, hb, F, _, rfl⟩ := ho
  rcases Maps.fit_look true keyK Try.underlying63 (zv26 w) hb F (key_of hn) with ⟨hrun, _, hat⟩ | ⟨e0, y, _, _, hrun, hRv, hat, _⟩
  · have h2 : (winS l n).2 = false := by rw [← (h.2 n).1]; exact Maps.has_false_of_atKey hat
    rw [hrun, winS_none h2]
    rfl
  · have h2 : (winS l n).2 = true := by rw [← (h.2 n).1]; exact Maps.has_true_of_atKey hat
    have he := (h.2 n).2 h2 (.held undef)
    rw [hat] at he
    have hy : y.1 = .held e0.val := (congrArg Prod.fst (Option.some.inj hRv)).symm
    rw [hy] at he
    have he := DataW.held.inj he
    rw [hrun, h2, he]
    rfl
/-- 'all[n]' -/
theorem look_at (ho : w.ownsMap Try.prog 9 heldR b k D) (h : Mp D l) (hn : n.size ≤ 140737488351232) :
    (Instr.lookup 63 (.map (some b)) (.string n) false).run Try.prog w = .ok (ev (winS l n).1) w := by
  obtain ⟨es, clock, hb, F, _, rfl⟩ := ho
  rcases Maps.fit_look false keyK Try.underlying63 (zv26 w) hb F (key_of hn) with ⟨hrun, _, hat⟩ | ⟨e0, y, _, _, hrun, hRv, hat, _⟩
  · have h2 : (winS l n).2 = false := by rw [← (h.2 n).1]; exact Maps.has_false_of_atKey hat
    rw [hrun, winS_none h2]
    rfl
  · have h2 : (winS l n).2 = true := by rw [← (h.2 n).1]; exact Maps.has_true_of_atKey hat
    have he := (h.2 n).2 h2 (.held undef)
    rw [hat] at he
    have hy : y.1 = .held e0.val := (congrArg Prod.fst (Option.some.inj hRv)).symm
    rw [hy] at he
    have he := DataW.held.inj he
    rw [hrun, he]
    rfl
theorem own_size (ho : w.ownsMap Try.prog 9 heldR b k D) : Maps.size D ≤ k := by
  obtain ⟨es, clock, hb, F, hs, rfl⟩ := ho
  rw [Maps.size_eq, length_sorted, List.length_map, Array.length_toList]
  exact hs
/-- The keys that the library gives, sorted, are the names. -/
theorem names_of (ho : w.ownsMap Try.prog 9 heldR b k D) (h : Mp D l) {ss : List (List UInt8)} (hp : ss.Perm (strKeys D)) : ss.mergeSort (fun x y => decide (x ≤ y)) = (namesU l).map (·.data.toList) ∧ ss.length = (namesU l).length := by
  have hr : ((namesU l).map (·.data.toList)).Pairwise (fun a b => a < b) := by
    rw [List.pairwise_map]
    exact (namesU_rising l).imp (fun {a b} h => by rw [Lib.toList_data, Lib.toList_data] at h; exact h)
  have hC : Collected D (fun _ => false) ((namesU l).map (·.data.toList)) := by
    refine ⟨hr.imp (fun {a b} h (e : a = b) => bl_irrefl a (by rw [← e] at h; exact h)), fun x => ?_⟩
    have hx := (h.2 ⟨x.toArray⟩).1
    have hk : keyN ⟨x.toArray⟩ = .string x := rfl
    rw [hk] at hx
    rw [hx, win_has, List.mem_map]
    constructor
    · rintro ⟨a, ha, rfl⟩
      exact ⟨namesU_mem.1 ha, rfl⟩
    · rintro ⟨ha, _⟩
      exact ⟨_, namesU_mem.2 ha, rfl⟩
  have hp2 := hC.perm ho keyK Try.underlying9 (fun _ => rfl)
  have hpn : ss.Perm ((namesU l).map (·.data.toList)) := hp.trans hp2.symm
  refine ⟨?_, by rw [hpn.length_eq, List.length_map]⟩
  have e := mergeSort_of_perm hpn
  show ss.mergeSort leB = _
  rw [e]
  exact List.mergeSort_of_pairwise (hr.imp (fun {a b} h => by simp only [leB, decide_eq_true_eq]; exact List.le_of_lt h))
end
end Go.Proofs.Ytahihhklijcghaa
/-! WnsW -/
namespace Go.Proofs.Ytahihhklijcghaa
open Go.RowKit Go.Proofs.YtahihhklijcghaaW Go.Proofs.YtahihhklijcghaaW.PrintWords PCascadeSorts
set_option linter.unusedVariables false
set_option linter.unusedSimpArgs false
/-- An entry in a box. -/
def Bk (w : World) (p : Nat) (x : S26) : Prop := w.heap[p]? = some (.cells (pe x).toArray 26 (0, 0))
theorem Bk.new (w : World) (x : S26) : Bk (w.alloc (.cells (pe x).toArray 26)) w.heap.size x := heap_alloc_new w _
theorem Bk.below {w w' : World} {p : Nat} {x : S26} (h : Bk w p x) (hb : Below w.heap.size w w') : Bk w' p x := blk_below h hb
theorem Bk.c8 {w : World} {p : Nat} {x : S26} (h : Bk w p x) : w.cell? ⟨p, 0, none⟩ = some (.string x.f0) ∧ w.cell? ⟨p, 1, none⟩ = some (.string x.f1) ∧ w.cell? ⟨p, 2, none⟩ = some (.int .i64 x.f2) ∧ w.cell? ⟨p, 3, none⟩ = some (.bool x.f3) ∧ w.cell? ⟨p, 4, none⟩ = some (.int .i64 x.f4.f0) ∧ w.cell? ⟨p, 5, none⟩ = some (.int .i64 x.f4.f1) ∧ w.cell? ⟨p, 6, none⟩ = some (.int .i64 x.f4.f2) ∧ w.cell? ⟨p, 7, none⟩ = some (.int .i64 x.f5) :=
  ⟨blk_cell h 0, blk_cell h 1, blk_cell h 2, blk_cell h 3, blk_cell h 4, blk_cell h 5, blk_cell h 6, blk_cell h 7⟩
/-- The map in block b. -/
def Mw (w : World) (b k : Nat) (l : List S26) : Prop := ∃ D, w.ownsMap Try.prog 9 heldR b k D ∧ Mp D l
theorem Mw.below {w w' : World} {b k : Nat} {l : List S26} (h : Mw w b k l) (hb : Below w.heap.size w w') : Mw w' b k l := by
  obtain ⟨D, ⟨es, clock, h1, h2⟩, h3⟩ := h
  exact ⟨D, ⟨es, clock, (hb.block b (Array.getElem?_eq_some_iff.1 h1).1).trans h1, h2⟩, h3⟩
theorem Mw.new (w : World) : Mw (w.alloc (.map #[] 0)) w.heap.size 0 [] := ⟨_, World.ownsMap_made w _ _ _, Mp.nil⟩
theorem Mw.ok {w : World} {b k : Nat} {l : List S26} (h : Mw w b k l) {n : ByteArray} (hn : n.size ≤ 140737488351232) : (Instr.lookup 63 (.map (some b)) (.string n) true).run Try.prog w = .ok (.tuple #[ev (winS l n).1, .bool (winS l n).2]) w := by
  obtain ⟨D, h1, h2⟩ := h
  exact look_ok h1 h2 hn
theorem Mw.at_ {w : World} {b k : Nat} {l : List S26} (h : Mw w b k l) {n : ByteArray} (hn : n.size ≤ 140737488351232) : (Instr.lookup 63 (.map (some b)) (.string n) false).run Try.prog w = .ok (ev (winS l n).1) w := by
  obtain ⟨D, h1, h2⟩ := h
  exact look_at h1 h2 hn
theorem Mw.put {w : World} {b k : Nat} {l : List S26} {x : S26} (h : Mw w b k l) (hn : x.f0.size ≤ 140737488351232) (hk : k ≤ 1000) (hx : (winS l x.f0).2 = false ∨ lessS x (winS l x.f0).1 = false) :
    ∃ w', (Instr.mapUpdate 63 (.map (some b)) (.string x.f0) (ev x)).run Try.prog w = .ok () w' ∧ Mw w' b (k + 1) (l ++ [x]) ∧ w.grownBy w' (some b) := by
  obtain ⟨D, h1, h2⟩ := h
  obtain ⟨w', h3, h4, h5⟩ := h1.update (d := .held (ev x)) (ps := []) keyK Try.underlying63 (by unfold maxLen; omega) (key_of hn) rfl
  exact ⟨w', h3, ⟨_, h4, h2.put hx⟩, h5⟩
theorem Mw.keep {w : World} {b k : Nat} {l : List S26} {x : S26} (h : Mw w b k l) (h1 : (winS l x.f0).2 = true) (h2 : lessS x (winS l x.f0).1 = true) : Mw w b (k + 1) (l ++ [x]) := by
  obtain ⟨D, h3, h4⟩ := h
  exact ⟨D, h3.mono (Nat.le_succ _), h4.keep h1 h2⟩
/-- A row of names. -/
def Ns (w : World) (A : Option Addr) (N : List ByteArray) : Prop := ∀ i (hi : i < N.length), ∃ g, A = some ⟨g, 0, none⟩ ∧ w.cell? ⟨g, i, none⟩ = some (.string N[i])
theorem Ns.below {w w' : World} {A : Option Addr} {N : List ByteArray} (h : Ns w A N) (hb : Below w.heap.size w w') : Ns w' A N := fun i hi => by
  obtain ⟨g, e, hc⟩ := h i hi
  exact ⟨g, e, pw_cell_below hb hc⟩
theorem ns_of {w : World} {base : Nat} {v : Value} {N : List ByteArray} (h : w.ownsRow base 9 1 v N.length ((N.map (·.data.toList)).map encStr)) : ∃ A c, v = .slice A N.length c ∧ N.length ≤ c ∧ Ns w A N := by
  have he : (N.map (·.data.toList)).map encStr = N.map Value.string := by
    rw [List.map_map]
    exact List.map_congr_left (fun n _ => by simp [encStr])
  rw [he] at h
  rcases h.2 with ⟨rfl, h0⟩ | ⟨g, c, cur, rfl, hb, hc, h3, h4, h5, h6⟩
  · rw [h0]
    exact ⟨none, 0, rfl, Nat.le_refl _, fun i hi => by omega⟩
  · refine ⟨_, c, rfl, h3, fun i hi => ⟨g, rfl, ?_⟩⟩
    have ha := congrArg (fun l : List Value => l[i]?) h6
    simp only [Nat.mul_one] at ha
    rw [List.getElem?_take_of_lt hi, List.getElem?_map, List.getElem?_eq_getElem hi] at ha
    rw [cell_of_row w g i cur 9 (0, 0) hc]
    simpa using ha
theorem Rw.weaken {t : TypeId} {W : World} {base base' : Nat} {v : Value} {L : List S26} (h : Rw t W base v L) (hb : base' ≤ base) : Rw t W base' v L := by
  obtain ⟨i, h1, h2⟩ := h
  exact ⟨i, own_weaken h1 hb, h2⟩
set_option maxHeartbeats 2000000 in
set_option maxRecDepth 100000 in
theorem winners_c {W : World} {A : Option Addr} {c : Nat} {l : List S26} (h : Kd.C k26 W A l.length l) (hf : Fits l) (hn : l.length ≤ 100) :
    Calls Try.prog 21 #[.slice A l.length c] W fun e w' => ∃ v, e = .returned v ∧ Rw 26 w' W.heap.size v (winnersE l) ∧ Below W.heap.size W w' := by
  have H := Aside0.mk h
  have HF := Aside0.mk hf
  have HN := Aside0.mk hn
  have gn : (l.length : Int) ≤ 100 := by omega
  clear h hf hn
  have HM0 := Aside0.mk (Mw.new W)
  have HB0 : Aside0 (Below W.heap.size W (W.alloc (.map #[] 0))) := ⟨(Below.refl _ _).alloc (Nat.le_refl _) _⟩
  have hmm := @run_makeMap Try.prog
  go_enter Try.func21, Try.ntmps21
  go_wp2_with fail
  clear hmm
  generalize W.alloc (.map #[] 0) = w1 at *
  go_loopw [14] (fun v wr => ∃ k : Nat, v = .int .i64 k ∧ k ≤ l.length ∧ Aside0 (Mw wr W.heap.size k (l.take k)) ∧ Aside0 (Below W.heap.size W wr)) (fun v _ => l.length - (intOf v).toNat)
  case atStart => exact ⟨0, rfl, Nat.zero_le _, HM0, HB0⟩
  case round =>
    clear HM0 HB0
    obtain ⟨k, rfl, hk, HM, HB⟩ := hrel
    by_cases hlt : k < l.length
    · have gk : (k : Int) < (l.length : Int) := by omega
      have HLT := Aside0.mk hlt
      obtain ⟨ad, rfl, h8⟩ := ent_at H.out k hlt
      obtain ⟨c0, c1, c2, c3, c4, c5, c6, c7⟩ := h8.below HB.out
      have HT : Aside0 (l.take (k + 1) = l.take k ++ [l[k]]) := ⟨List.take_succ_eq_append_getElem hlt⟩
      have HSZ : Aside0 ((l[k]).f0.size ≤ 140737488351232) := ⟨(HF.out _ (List.getElem_mem hlt)).1⟩
      clear h8 hk
      generalize l[k] = x at *
      clear hlt
      have HBX := Aside0.mk (Bk.new wr x)
      have HB2 : Aside0 (Below W.heap.size W (wr.alloc (.cells (pe x).toArray 26))) := ⟨HB.out.alloc HB.out.size _⟩
      have HM2 := Aside0.mk (HM.out.below ((Below.refl _ _).alloc (Nat.le_refl _) (Obj.cells (pe x).toArray 26)))
      go_upto_region 5 with fail
      change Code.wp Try.prog _ _ _ (wr.alloc (.cells (pe x).toArray 26))
      generalize wr.alloc (.cells (pe x).toArray 26) = wa at *
      generalize wr.heap.size = p5 at *
      clear c0 c1 c2 c3 c4 c5 c6 c7 HB HM
      have hlk := HM2.out.ok HSZ.out
      obtain ⟨c0, c1, c2, c3, c4, c5, c6, c7⟩ := HBX.out.c8
      cases hwin : winS (l.take k) x.f0 with
      | mk was okb =>
      rw [hwin] at hlk
      have HWIN := Aside0.mk hwin
      clear hwin
      have HBY := Aside0.mk (Bk.new wa was)
      have HB3 : Aside0 (Below W.heap.size W (wa.alloc (.cells (pe was).toArray 26))) := ⟨HB2.out.alloc HB2.out.size _⟩
      have HM3 := Aside0.mk (HM2.out.below ((Below.refl _ _).alloc (Nat.le_refl _) (Obj.cells (pe was).toArray 26)))
      have HBX3 := Aside0.mk (HBX.out.below ((Below.refl _ _).alloc (Nat.le_refl _) (Obj.cells (pe was).toArray 26)))
      clear HB2 HM2 HBX
      go_upto_region 6 with fail
      change Code.wp Try.prog _ _ _ (wa.alloc (.cells (pe was).toArray 26))
      generalize wa.alloc (.cells (pe was).toArray 26) = wb at *
      generalize wa.heap.size = p6 at *
      clear c0 c1 c2 c3 c4 c5 c6 c7 hlk
      obtain ⟨c0, c1, c2, c3, c4, c5, c6, c7⟩ := HBX3.out.c8
      cases okb with
      | false =>
        obtain ⟨w4, hput, hM4, hg4⟩ := HM3.out.put HSZ.out (by have := HLT.out; have := HN.out; omega) (.inl (by rw [HWIN.out]))
        have HM4 := Aside0.mk hM4
        have HB4 : Aside0 (Below W.heap.size W w4) := ⟨HB3.out.grown hg4 HB3.out.size (fun j hj => by cases hj; exact Nat.le_refl _)⟩
        rw [← HT.out] at HM4
        clear hM4 hg4
        go_wp2_with fail
        go_roundw
        case rel => exact ⟨k + 1, by go_num, HLT.out, HM4, HB4⟩
        case measure => have := HLT.out; simp [intOf]; omega
      | true =>
        obtain ⟨d0, d1, d2, d3, d4, d5, d6, d7⟩ := HBY.out.c8
        have hwin := HWIN.out
        cases hl : lessS x was with
        | false =>
          have HL := Aside0.mk hl
          have HLE := Aside0.mk (less_c x was wb)
          rw [hl] at HLE
          clear hwin hl
          go_wp2_with fail
          refine HLE.out.mono ?_
          rintro e w4 ⟨rfl, hb⟩
          have HB4 := Aside0.mk (below_step HB3.out hb)
          have HM4 := Aside0.mk (HM3.out.below hb)
          have HBX4 := Aside0.mk (HBX3.out.below hb)
          clear hb c0 c1 c2 c3 c4 c5 c6 c7 d0 d1 d2 d3 d4 d5 d6 d7 HB3 HM3 HBX3 HLE
          obtain ⟨c0, c1, c2, c3, c4, c5, c6, c7⟩ := HBX4.out.c8
          obtain ⟨w5, hput, hM5, hg5⟩ := HM4.out.put HSZ.out (by have := HLT.out; have := HN.out; omega) (.inr (by rw [HWIN.out]; exact HL.out))
          have HM5 := Aside0.mk hM5
          have HB5 : Aside0 (Below W.heap.size W w5) := ⟨HB4.out.grown hg5 HB4.out.size (fun j hj => by cases hj; exact Nat.le_refl _)⟩
          rw [← HT.out] at HM5
          clear hM5 hg5
          go_wp2_with fail
          go_roundw
          case rel => exact ⟨k + 1, by go_num, HLT.out, HM5, HB5⟩
          case measure => have := HLT.out; simp [intOf]; omega
        | true =>
          have HLE := Aside0.mk (less_c x was wb)
          rw [hl] at HLE
          have HM4 := Aside0.mk (HM3.out.keep (x := x) (by rw [hwin]) (by rw [hwin]; exact hl))
          rw [← HT.out] at HM4
          clear hwin hl
          go_wp2_with fail
          refine HLE.out.mono ?_
          rintro e w4 ⟨rfl, hb⟩
          have HB5 := Aside0.mk (below_step HB3.out hb)
          have HM5 := Aside0.mk (HM4.out.below hb)
          clear hb
          go_wp2_with fail
          go_roundw
          case rel => exact ⟨k + 1, by go_num, HLT.out, HM5, HB5⟩
          case measure => have := HLT.out; simp [intOf]; omega
    · have hkl : k = l.length := by omega
      subst hkl
      rw [List.take_length] at HM
      obtain ⟨D, hown, hmp⟩ := HM.out
      have hsz := own_size hown
      have HSO := Aside0.mk (sorted_c W.heap.size l.length D heldR wr hown (by have := HN.out; unfold maxLen; omega) (by have := HN.out; omega))
      have HKE := Aside0.mk (keys_c (some W.heap.size) wr)
      have HNA := Aside0.mk (fun ss hp => names_of (ss := ss) hown hmp hp)
      clear hown hmp hsz hlt hk
      go_wp2_with fail
      refine HKE.out.mono ?_
      rintro e w2 ⟨rfl, rfl⟩
      clear HKE
      go_wp2_with fail
      refine HSO.out.mono ?_
      rintro e w3 ⟨v, ss, rfl, hp, hrow, hb⟩
      obtain ⟨hms, hlen⟩ := HNA.out ss hp
      rw [hms, hlen] at hrow
      have HB3 := Aside0.mk (below_step HB.out hb)
      have HM3 := Aside0.mk (HM.out.below hb)
      have HNL : Aside0 ((namesU l).length ≤ 100) := ⟨Nat.le_trans (namesU_length l) HN.out⟩
      have HNF : Aside0 (∀ n ∈ namesU l, n.size ≤ 140737488351232) := ⟨fun n hn => by obtain ⟨x, hx, rfl⟩ := namesU_mem.1 hn; exact (HF.out x hx).1⟩
      have HWE : Aside0 (winnersE l = (namesU l).map fun n => (winS l n).1) := ⟨rfl⟩
      obtain ⟨A2, c2, rfl, hc2, hns⟩ := ns_of hrow
      have HNS := Aside0.mk hns
      clear hp hms hlen hb HSO HNA HB HM hrow hns
      generalize namesU l = N at *
      have gN : (N.length : Int) ≤ 100 := by have := HNL.out; omega
      go_wp2_with fail
      go_loopw [8, 42] (fun v8 v wr => ∃ j : Nat, v = .int .i64 j ∧ j ≤ N.length ∧ Aside0 (Rw 26 wr w3.heap.size v8 ((N.take j).map fun n => (winS l n).1)) ∧ Aside0 (Below w3.heap.size w3 wr)) (fun _ v _ => N.length - (intOf v).toNat)
      case atStart => exact ⟨0, rfl, Nat.zero_le _, ⟨Rw.nil _ _ _⟩, ⟨Below.refl _ _⟩⟩
      case round =>
        obtain ⟨j, rfl, hj, HR, HB⟩ := hrel
        by_cases hlt : j < N.length
        · have gj : (j : Int) < (N.length : Int) := by omega
          have HLT := Aside0.mk hlt
          obtain ⟨g, rfl, hcell⟩ := HNS.out.below HB.out j hlt
          have HT : Aside0 ((N.take (j + 1)).map (fun n => (winS l n).1) = (N.take j).map (fun n => (winS l n).1) ++ [(winS l N[j]).1]) := ⟨by rw [List.take_succ_eq_append_getElem hlt, List.map_append]; rfl⟩
          have hlk := (HM3.out.below HB.out).at_ (HNF.out _ (List.getElem_mem hlt))
          have HLE : Aside0 (((N.take j).map (fun n => (winS l n).1)).length ≤ 100) := ⟨by rw [List.length_map, List.length_take]; omega⟩
          generalize N[j] = n at *
          generalize (winS l n).1 = y at *
          obtain ⟨inner, hown, hreps⟩ := HR.out
          have HOW := Aside0.mk hown
          have HRE := Aside0.mk hreps
          generalize (N.take j).map (fun n => (winS l n).1) = L at *
          clear hown hreps hlt hj
          have HSZ : Aside0 (w3.heap.size ≤ wr.heap.size) := ⟨HB.out.size⟩
          go_wp2_with (at_builtin; refine print_append_cells (w0 := w3) (W := wr) w3.heap.size rfl (.tmp 46) (.tmp 50) 22 26 _ 8 80 rfl Try.underlying22 info26 rfl (by decide) (by decide) u8 L.length inner (pe y) rfl rfl rfl (pe_one _) HOW.out HB.out HSZ.out (by have := HLE.out; omega) ?_; intro v1 w4 ho4 hb4 hg4 hv4; have HR4 := Aside0.mk (Rw.snoc HRE.out ho4); have HB4 := Aside0.mk hb4; clear ho4 hb4 hg4 hv4)
          rw [← HT.out] at HR4
          go_roundw
          case rel => exact ⟨j + 1, by go_num, HLT.out, HR4, HB4⟩
          case measure => have := HLT.out; simp [intOf]; omega
        · have hjl : j = N.length := by omega
          subst hjl
          have HR2 := Aside0.mk HR.out
          rw [List.take_length, ← HWE.out] at HR2
          go_wp2_with fail
          go_ret
          exact ⟨_, rfl, HR2.out.weaken HB3.out.size, HB3.out.trans (HB.out.mono HB3.out.size)⟩
end Go.Proofs.Ytahihhklijcghaa
/-! WinsW -/
namespace Go.Proofs.Ytahihhklijcghaa
open Go.RowKit Go.Proofs.YtahihhklijcghaaW Go.Proofs.YtahihhklijcghaaW.PrintWords PCascadeSorts
set_option linter.unusedVariables false
set_option linter.unusedSimpArgs false
/-- What a call leaves: a row of the document's entries. -/
def Rr (W : World) (L : List S26) (e : Ending) (w' : World) : Prop := ∃ A c, e = .returned (.slice A L.length c) ∧ L.length ≤ c ∧ Kd.C k33 w' A (L.map to33).length (L.map to33) ∧ Below W.heap.size W w'
theorem R33 {w : World} {base : Nat} {ok : Nat → Prop} {v : Value} {L : List S26} (h : Kd.R k33 33 w base ok v (L.map to33)) : ∃ A c, v = .slice A L.length c ∧ L.length ≤ c ∧ Kd.C k33 w A (L.map to33).length (L.map to33) := by
  obtain ⟨_, inner, ho, hr⟩ := h
  obtain ⟨A, c, rfl, hrow⟩ := own_reads_row ho (hr.imp_ (R' := k33.K w) (fun p c hp => by rw [k33_openM hp]; exact k33_mk w p)) rfl
  have hl := own_le ho
  rw [List.length_map] at hl
  exact ⟨A, c, by rw [List.length_map], hl, hrow⟩
theorem plain_r {W : World} {A : Option Addr} {c : Nat} {l : List S26} (h : Kd.C k26 W A l.length l) (hn : l.length ≤ 100) : Calls Try.prog 16 #[.slice A l.length c] W (Rr W l) := by
  refine (plain_c h hn).mono ?_
  rintro e w' ⟨v, rfl, hr, hb⟩
  obtain ⟨A2, c2, rfl, hl⟩ := hr.slice_
  exact ⟨A2, c2, rfl, hl, hr.C33.2.2, hb⟩
section
variable {W : World} {A : Option Addr} {c : Nat} {l : List S26}
theorem rwinners_c (h : Kd.C k33 W A (l.map to33).length (l.map to33)) (hc : l.length ≤ c) (hn : l.length ≤ 100) : Calls Try.prog 22 #[.slice A l.length c] W (Rr W (winnersE l)) := by
  have := gouacheref17_Winners.calls 21400 A c (l.map to33) _ W h (by rw [List.length_map]; exact hc) (rwinners_f l hn _ (Nat.le_refl _))
  rw [List.length_map] at this
  refine this.mono ?_
  rintro e w' ⟨v, rfl, hr, hb⟩
  obtain ⟨A2, c2, rfl, hl, hC⟩ := R33 hr
  exact ⟨A2, c2, rfl, hl, hC, hb⟩
theorem rchain_c (name : ByteArray) (h : Kd.C k33 W A (l.map to33).length (l.map to33)) (hc : l.length ≤ c) (hn : l.length ≤ 100) : Calls Try.prog 23 #[.slice A l.length c, .string name] W (Rr W (chainE l name)) := by
  have := gouacheref17_Chain.calls 203 A c (l.map to33) name _ W h (by rw [List.length_map]; exact hc) (rchain_f name l hn _ (Nat.le_refl _))
  rw [List.length_map] at this
  refine this.mono ?_
  rintro e w' ⟨v, rfl, hr, hb⟩
  obtain ⟨A2, c2, rfl, hl, hC⟩ := R33 hr
  exact ⟨A2, c2, rfl, hl, hC, hb⟩
theorem rwin_c (name : ByteArray) (h : Kd.C k33 W A (l.map to33).length (l.map to33)) (hc : l.length ≤ c) (hn : l.length ≤ 100) :
    Calls Try.prog 20 #[.slice A l.length c, .string name] W fun e w' => e = .returned (.tuple #[ev (winS l name).1, .bool (winS l name).2]) ∧ Below W.heap.size W w' := by
  have := gouacheref17_Winner.calls 203 A c (l.map to33) name _ _ _ _ _ _ _ _ _ W h (by rw [List.length_map]; exact hc) (rwin_f name l hn _ (Nat.le_refl _))
  rw [List.length_map] at this
  exact this
theorem win_c (name : ByteArray) (h : Kd.C k26 W A l.length l) (hc : l.length ≤ c) (hn : l.length ≤ 100) :
    Calls Try.prog 10 #[.slice A l.length c, .string name] W fun e w' => e = .returned (.tuple #[ev (winS l name).1, .bool (winS l name).2]) ∧ Below W.heap.size W w' :=
  cascade_Winner.calls (l.length + 2) A c l name _ _ _ _ _ _ _ _ _ W h hc (win_f name l (by omega) _ (by omega))
theorem winners_r (h : Kd.C k26 W A l.length l) (hf : Fits l) (hn : l.length ≤ 100) :
    Calls Try.prog 21 #[.slice A l.length c] W fun e w' => ∃ A2 c2, e = .returned (.slice A2 (winnersE l).length c2) ∧ Kd.C k26 w' A2 (winnersE l).length (winnersE l) ∧ Below W.heap.size W w' := by
  refine (winners_c h hf hn).mono ?_
  rintro e w' ⟨v, rfl, hr, hb⟩
  obtain ⟨A2, c2, rfl, hl⟩ := hr.slice_
  exact ⟨A2, c2, rfl, hr.C26.2.2, hb⟩
theorem chain_r (name : ByteArray) (h : Kd.C k26 W A l.length l) (hc : l.length ≤ c) (hn : l.length ≤ 100) :
    Calls Try.prog 19 #[.slice A l.length c, .string name] W fun e w' => ∃ A2 c2, e = .returned (.slice A2 (chainE l name).length c2) ∧ Kd.C k26 w' A2 (chainE l name).length (chainE l name) ∧ Below W.heap.size W w' := by
  refine (chain_c name h hc hn).mono ?_
  rintro e w' ⟨A2, c2, rfl, _, hC, hb, _⟩
  exact ⟨A2, c2, rfl, hC, hb⟩
end
theorem chainE_length (l : List S26) (name : ByteArray) : (chainE l name).length ≤ l.length := by
  unfold chainE
  rw [List.length_reverse, sortE_length]
  exact List.length_filter_le _ _
theorem Bk.range {w : World} {p : Nat} {x : S26} (h : Bk w p x) : w.rangeAt p 0 (pe x) := fun j v hj => by
  rw [Nat.zero_add, blk_cell h]
  simpa using hj
theorem eql33_self (x : S26) (w : World) : (binOp .eql 33 (ev x) (ev x)).run Try.prog w = .ok (.bool true) w := by
  simp only [binOp]
  simp [Op.equal, Op.maxDepth, eqA33 9997 w]
theorem bx_new (w : World) (x : S26) (t : TypeId) : (w.alloc (.cells (pe x).toArray t)).rangeAt w.heap.size 0 (pe x) := range_new w _ t
set_option maxHeartbeats 4000000 in
set_option maxRecDepth 100000 in
theorem wins_w {W : World} {A : Option Addr} {c : Nat} {l : List S26} (name : ByteArray) (h : Kd.C k26 W A l.length l) (hc : l.length ≤ c) (hf : Fits l) (hn : l.length ≤ 1759218604441) (hnm : name.size ≤ 140737488351232) :
    Calls Try.prog 7 #[.slice A l.length c, .string name] W fun e w' => e = .returned (.bool true) ∧ Below W.heap.size W w' := by
  have H := Aside0.mk h
  have HCC := Aside0.mk hc
  have HF := Aside0.mk hf
  have HL := Aside0.mk (light_c h hc hf hn)
  have gl : (l.length : Int) ≤ 1759218604441 := by omega
  have gn : (name.size : Int) ≤ 140737488351232 := by omega
  clear h hc hf hn hnm
  by_cases h1000 : 1000 < name.size
  · have g1000 : (1000 : Int) < (name.size : Int) := by omega
    go_enter Try.func7, Try.ntmps7
    go_wp2_with fail
    refine HL.out.mono ?_
    rintro e w1 ⟨b, rfl, _, hb⟩
    have HW1 := Aside0.mk hb
    clear hb h1000
    cases b with
    | false =>
      go_wp2_with fail
      refine (lives_c _).mono ?_
      rintro e w2 ⟨rfl, hb⟩
      have HW2 := Aside0.mk (below_step HW1.out hb)
      clear hb
      go_wp2_with fail
      go_ret
      exact ⟨rfl, HW2.out⟩
    | true =>
      go_wp2_with fail
      refine (lives_c _).mono ?_
      rintro e w2 ⟨rfl, hb⟩
      have HW2 := Aside0.mk (below_step HW1.out hb)
      clear hb
      go_wp2_with fail
      go_ret
      exact ⟨rfl, HW2.out⟩
  · have g1000 : (name.size : Int) ≤ 1000 := by omega
    clear h1000
    go_enter Try.func7, Try.ntmps7
    go_wp2_with fail
    refine HL.out.mono ?_
    rintro e w1 ⟨b, rfl, hlen, hb⟩
    have HB1 := Aside0.mk hb
    have HLN := Aside0.mk hlen
    clear hb HL hlen
    cases b with
    | false =>
      go_wp2_with fail
      refine (lives_c _).mono ?_
      rintro e w2 ⟨rfl, hb⟩
      have HW2 := Aside0.mk (below_step HB1.out hb)
      clear hb
      go_wp2_with fail
      go_ret
      exact ⟨rfl, HW2.out⟩
    | true =>
      have HN := Aside0.mk (HLN.out rfl)
      clear HLN
      have HWI := Aside0.mk (win_c name (Kd.C_below H.out HB1.out) HCC.out HN.out)
      have HWR := Aside0.mk (fun (w : World) (A : Option Addr) (c : Nat) h hc => rwin_c (W := w) (A := A) (c := c) (l := l) name h hc HN.out)
      generalize winS l name = s at *
      obtain ⟨best, found⟩ := s
      go_wp2_with fail
      refine HWI.out.mono ?_
      rintro e w2 ⟨rfl, hb⟩
      have HB2 : Aside0 (Below W.heap.size W (w2.alloc (.cells (pe best).toArray 26))) := ⟨(below_step HB1.out hb).alloc (below_step HB1.out hb).size _⟩
      have HX5 := Aside0.mk (Bk.new w2 best)
      clear hb HWI HB1
      go_upto_region 4 with fail
      change Code.wp Try.prog _ _ _ (w2.alloc (.cells (pe best).toArray 26))
      generalize w2.alloc (.cells (pe best).toArray 26) = w3 at *
      generalize w2.heap.size = p5 at *
      have HPL := Aside0.mk (plain_r (c := c) (Kd.C_below H.out HB2.out) HN.out)
      go_wp2_with fail
      refine HPL.out.mono ?_
      rintro e w4 ⟨A4, c4, rfl, hc4, hC4, hb⟩
      have HB4 := Aside0.mk (below_step HB2.out hb)
      have HX6 := Aside0.mk (HX5.out.below hb)
      have HWR4 := Aside0.mk (HWR.out w4 A4 c4 hC4 hc4)
      clear hb HB2 HX5 HWR HPL hc4 hC4
      go_wp2_with fail
      refine HWR4.out.mono ?_
      rintro e w5 ⟨rfl, hb⟩
      have HB5 := Aside0.mk (below_step HB4.out hb)
      have HS : Aside0 (Below W.heap.size W (w5.alloc (.cells (pe best).toArray 33)) ∧ (w5.alloc (.cells (pe best).toArray 33)).rangeAt p5 0 (pe best) ∧ (w5.alloc (.cells (pe best).toArray 33)).rangeAt w5.heap.size 0 (pe best)) :=
        ⟨HB5.out.alloc HB5.out.size _, World.rangeAt_alloc (HX6.out.below hb).range _, bx_new w5 best 33⟩
      have HC21 := Aside0.mk (fun (w : World) (hb : Below W.heap.size W w) => winners_r (W := w) (c := c) (Kd.C_below H.out hb) HF.out HN.out)
      have HC22 := Aside0.mk (fun (w : World) (A : Option Addr) (c : Nat) h hc => rwinners_c (W := w) (A := A) (c := c) (l := l) h hc HN.out)
      have HWL : Aside0 ((winnersE l).length ≤ 100) := ⟨Nat.le_trans (winnersE_length l) HN.out⟩
      generalize winnersE l = WE at *
      have HC19 := Aside0.mk (fun (w : World) (hb : Below W.heap.size W w) => chain_r (W := w) (c := c) name (Kd.C_below H.out hb) HCC.out HN.out)
      have HC23 := Aside0.mk (fun (w : World) (A : Option Addr) (c : Nat) h hc => rchain_c (W := w) (A := A) (c := c) (l := l) name h hc HN.out)
      have HCL : Aside0 ((chainE l name).length ≤ 100) := ⟨Nat.le_trans (chainE_length l name) HN.out⟩
      generalize chainE l name = CE at *
      clear hb HWR4 HB4 HB5 HX6
      go_upto_region 5 with fail
      change Code.wp Try.prog _ _ _ (w5.alloc (.cells (pe best).toArray 33))
      generalize w5.alloc (.cells (pe best).toArray 33) = w6 at *
      generalize w5.heap.size = p7 at *
      have HX5 : Aside0 (w6.rangeAt p5 0 (pe best) ∧ w6.rangeAt p7 0 (pe best)) := ⟨HS.out.2⟩
      have HB6 := Aside0.mk HS.out.1
      have c0 := HX5.out.1 0 _ rfl
      have c1 := HX5.out.1 1 _ rfl
      have c2 := HX5.out.1 2 _ rfl
      have c3 := HX5.out.1 3 _ rfl
      have c4 := HX5.out.1 4 _ rfl
      have c5 := HX5.out.1 5 _ rfl
      have c6 := HX5.out.1 6 _ rfl
      have c7 := HX5.out.1 7 _ rfl
      have d0 := HX5.out.2 0 _ rfl
      have d1 := HX5.out.2 1 _ rfl
      have d2 := HX5.out.2 2 _ rfl
      have d3 := HX5.out.2 3 _ rfl
      have d4 := HX5.out.2 4 _ rfl
      have d5 := HX5.out.2 5 _ rfl
      have d6 := HX5.out.2 6 _ rfl
      have d7 := HX5.out.2 7 _ rfl
      simp only [Nat.zero_add] at c0 c1 c2 c3 c4 c5 c6 c7 d0 d1 d2 d3 d4 d5 d6 d7
      have hq := eql33_self best
      clear HS
      go_wp2_with fail
      refine (HC21.out _ HB6.out).mono ?_
      rintro e u1 ⟨A1, k1, rfl, hC1, hb⟩
      have HC1 := Aside0.mk hC1
      have HB7 := Aside0.mk (below_step HB6.out hb)
      clear hC1 hb HB6 HX5 c0 c1 c2 c3 c4 c5 c6 c7 d0 d1 d2 d3 d4 d5 d6 d7 hq HC21
      go_wp2_with fail
      refine (plain_r (c := k1) HC1.out HWL.out).mono ?_
      rintro e u2 ⟨A2, k2, rfl, hc2, hC2, hb⟩
      have HB8 := Aside0.mk (below_step HB7.out hb)
      have HC2 := Aside0.mk (And.intro hc2 hC2)
      clear hb HB7 hC2 hc2 HC1
      go_wp2_with fail
      refine (plain_r (c := c) (Kd.C_below H.out HB8.out) HN.out).mono ?_
      rintro e u3 ⟨A3, k3, rfl, hc3, hC3, hb⟩
      have HB9 := Aside0.mk (below_step HB8.out hb)
      have HC3 := Aside0.mk (And.intro hc3 hC3)
      have HD2 := Aside0.mk (And.intro HC2.out.1 (Kd.C_below HC2.out.2 hb))
      clear hb HB8 hC3 hc3 HC2
      go_wp2_with fail
      refine (HC22.out _ A3 k3 HC3.out.2 HC3.out.1).mono ?_
      rintro e u4 ⟨A4, k4, rfl, hc4, hC4, hb⟩
      have HB10 := Aside0.mk (below_step HB9.out hb)
      have HC4 := Aside0.mk (And.intro hc4 hC4)
      have HE2 := Aside0.mk (And.intro HD2.out.1 (Kd.C_below HD2.out.2 hb))
      clear hb HB9 hC4 hc4 HC3 HD2 HC22
      go_wp2_with fail
      refine (same_c HE2.out.2 HE2.out.1 HC4.out.2 HC4.out.1 HWL.out).mono ?_
      rintro e u5 ⟨rfl, hb⟩
      have HB11 := Aside0.mk (below_step HB10.out hb)
      clear hb HB10 HE2 HC4 HWL
      go_wp2_with fail
      refine (HC19.out _ HB11.out).mono ?_
      rintro e u6 ⟨A6, k6, rfl, hC6, hb⟩
      have HB12 := Aside0.mk (below_step HB11.out hb)
      have HC6 := Aside0.mk hC6
      clear hb HB11 hC6 HC19
      go_wp2_with fail
      refine (plain_r (c := k6) HC6.out HCL.out).mono ?_
      rintro e u7 ⟨A7, k7, rfl, hc7, hC7, hb⟩
      have HB13 := Aside0.mk (below_step HB12.out hb)
      have HC7 := Aside0.mk (And.intro hc7 hC7)
      clear hb HB12 hC7 hc7 HC6
      go_wp2_with fail
      refine (plain_r (c := c) (Kd.C_below H.out HB13.out) HN.out).mono ?_
      rintro e u8 ⟨A8, k8, rfl, hc8, hC8, hb⟩
      have HB14 := Aside0.mk (below_step HB13.out hb)
      have HC8 := Aside0.mk (And.intro hc8 hC8)
      have HD7 := Aside0.mk (And.intro HC7.out.1 (Kd.C_below HC7.out.2 hb))
      clear hb HB13 hC8 hc8 HC7
      go_wp2_with fail
      refine (HC23.out _ A8 k8 HC8.out.2 HC8.out.1).mono ?_
      rintro e u9 ⟨A9, k9, rfl, hc9, hC9, hb⟩
      have HB15 := Aside0.mk (below_step HB14.out hb)
      have HC9 := Aside0.mk (And.intro hc9 hC9)
      have HE7 := Aside0.mk (And.intro HD7.out.1 (Kd.C_below HD7.out.2 hb))
      clear hb HB14 hC9 hc9 HC8 HD7 HC23
      go_wp2_with fail
      refine (same_c HE7.out.2 HE7.out.1 HC9.out.2 HC9.out.1 HCL.out).mono ?_
      rintro e u10 ⟨rfl, hb⟩
      have HB16 := Aside0.mk (below_step HB15.out hb)
      clear hb HB15 HE7 HC9 HCL
      go_wp2_with fail
      refine (lives_c _).mono ?_
      rintro e u11 ⟨rfl, hb⟩
      have HB17 := Aside0.mk (below_step HB16.out hb)
      clear hb HB16 
      go_wp2_with fail
      go_ret
      exact ⟨rfl, HB17.out⟩
end Go.Proofs.Ytahihhklijcghaa
