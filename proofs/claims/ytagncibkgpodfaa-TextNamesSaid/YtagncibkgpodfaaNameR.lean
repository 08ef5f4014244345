/-
  A name: the reference's walk over bytes says what the plain law says of characters.
-/
import Derived.Test.YtagncibkgpodfaaNamed
import Derived.Test.YtagncibkgpodfaaStr
import Derived.Test.YtagncibkgpodfaaPTextNamesx
namespace Go.Proofs.Ytagncibkgpodfaa
open Go.RowKit Go.Proofs.YtagncibkgpodfaaW.PrintWords Go.Proofs.YtagncibkgpodfaaW.PrintLast Go.Proofs.YtagncibkgpodfaaW.PrintMore
open Go.Lib (decodeN)
set_option linter.unusedVariables false

def nameB : Bool → List Int → Bool
  | _, [] => true
  | first, x :: l => nameOk first x && nameB false l
theorem dec_small {x : Int} {l : List Int} (h0 : 0 ≤ x) (h1 : x < 128) : T.dec (x :: l) = (x, 1) := by
  have e : decodeN (x :: l).length ((x :: l).getD 0 0).toNat ((x :: l).getD 1 0).toNat ((x :: l).getD 2 0).toNat ((x :: l).getD 3 0).toNat = (x.toNat, 1) := by
    unfold decodeN
    have : ((x :: l).getD 0 0).toNat < 128 := by simp; omega
    rw [if_pos this]
    simp
  unfold T.dec
  rw [e]
  ext
  · simp; omega
  · rfl
theorem decodeN_big {n b0 b1 b2 b3 : Nat} (h : 128 ≤ b0) : 128 ≤ (decodeN n b0 b1 b2 b3).1 := by
  unfold decodeN
  rw [if_neg (by omega)]
  split
  · split <;> simp <;> omega
  · split
    · split <;> simp <;> omega
    · split
      · split <;> simp <;> omega
      · simp
theorem dec_big {x : Int} {l : List Int} (h1 : 128 ≤ x) : 128 ≤ (T.dec (x :: l)).1 := by
  unfold T.dec
  have := decodeN_big (n := (x :: l).length) (b0 := ((x :: l).getD 0 0).toNat) (b1 := ((x :: l).getD 1 0).toNat) (b2 := ((x :: l).getD 2 0).toNat) (b3 := ((x :: l).getD 3 0).toNat) (by simp; omega)
  show (128 : Int) ≤ ((decodeN _ _ _ _ _).1 : Nat)
  omega
theorem nameOk_big {first : Bool} {c : Int} (h : 128 ≤ c) : nameOk first c = false := by
  have e1 : inB 97 122 c = false := by unfold inB; simp; omega
  have e2 : inB 48 57 c = false := by unfold inB; simp; omega
  have e3 : (c == 45) = false := by simp; omega
  have e4 : (c == 95) = false := by simp; omega
  unfold nameOk
  rw [e1, e2, e3, e4]
  cases first <;> rfl
theorem nameGo_nameB : ∀ (l : List Int) (first : Bool), T.Byt l → nameGo first (T.chars l) = nameB first l
  | [], _, _ => rfl
  | x :: l, first, h => by
    have hx := h x (by simp)
    have hl : T.Byt l := fun y hy => h y (by simp [hy])
    rw [T.chars_cons h (by simp)]
    by_cases hs : x < 128
    · rw [dec_small hx.1 hs]
      show (nameOk first x && nameGo false (T.chars l)) = (nameOk first x && nameB false l)
      rw [nameGo_nameB l false hl]
    · have hb := dec_big (l := l) (show 128 ≤ x by omega)
      show (nameOk first (T.dec (x :: l)).1 && _) = (nameOk first x && nameB false l)
      rw [nameOk_big hb, nameOk_big (show 128 ≤ x by omega)]
      rfl

theorem bt_nums {l : List Int} (h : T.Byt l) (i : Nat) : bt (strOfNums l) (i : Int) = l.getD i 0 := by
  rw [← rd_bytesOf, bytesOf_str h]
  rfl
theorem l0_nums {l : List Int} (hl : T.Byt l) (hn : l.length ≤ 1000000) : ∀ (k pos : Nat), pos ≤ l.length → l.length - pos < k →
    PTextNames.gouacheref01_Name.l0 k (strOfNums l) (pos : Int) = some (nameB (decide (pos = 0)) (l.drop pos) && (!l.isEmpty && decide (l.length ≤ 64)))
  | 0, _, _, h => by omega
  | k + 1, pos, hp, hk => by
    unfold PTextNames.gouacheref01_Name.l0
    rw [strOfNums_size]
    by_cases hlt : pos < l.length
    · rw [if_pos (by omega), if_pos (by omega), bt_nums hl, List.drop_eq_getElem_cons hlt, List.getD_eq_getElem?_getD, List.getElem?_eq_getElem hlt, Option.getD_some]
      have ih := l0_nums hl hn k (pos + 1) (by omega) (by omega)
      rw [show decide (pos + 1 = 0) = false by simp] at ih
      have hw : wrap64 ((pos : Int) + 1) = ((pos + 1 : Nat) : Int) := by
        rw [Go.IntWalk.wrap64_in] <;> omega
      rw [hw, ih]
      generalize l[pos] = x
      show _ = some ((nameOk (decide (pos = 0)) x && nameB false (l.drop (pos + 1))) && _)
      generalize nameB false (l.drop (pos + 1)) = N
      generalize (!l.isEmpty && decide (l.length ≤ 64)) = E
      have hz : ((pos : Int) = 0) ↔ (pos = 0) := by omega
      have key : nameOk (decide (pos = 0)) x = decide ((97 ≤ x ∧ x ≤ 122) ∨ (pos ≠ 0 ∧ (x = 45 ∨ x = 95 ∨ (48 ≤ x ∧ x ≤ 57)))) := by
        unfold nameOk inB
        rw [Bool.eq_iff_iff]
        simp
        omega
      rw [key]
      by_cases c : (97 ≤ x ∧ x ≤ 122) ∨ (pos ≠ 0 ∧ (x = 45 ∨ x = 95 ∨ (48 ≤ x ∧ x ≤ 57)))
      · rw [decide_eq_true c, Bool.true_and]
        repeat' split
        all_goals first | rfl | (exfalso; omega)
      · rw [decide_eq_false c, Bool.false_and, Bool.false_and]
        repeat' split
        all_goals first | rfl | (exfalso; omega)
    · have e : pos = l.length := by omega
      rw [if_neg (by omega), e, List.drop_length]
      show _ = some (true && _)
      rw [Bool.true_and]
      cases l with
      | nil => rfl
      | cons y l => rw [if_pos (by simp; omega)]; simp; omega
theorem name_f {l : List Int} (hl : T.Byt l) (hn : l.length ≤ 1000000) : PTextNames.gouacheref01_Name.f (l.length + 1) (strOfNums l) = some (nameV l) := by
  have h := l0_nums hl hn (l.length + 1) 0 (Nat.zero_le _) (by omega)
  rw [List.drop_zero] at h
  unfold nameV
  rw [nameGo_nameB l true hl]
  exact h
theorem rname_c (l : List Int) (w : World) (hl : T.Byt l) (hn : l.length ≤ 1000000) :
    Calls Try.prog 27 #[.string (strOfNums l)] w fun e w' => e = .returned (.bool (nameV l)) ∧ Below w.heap.size w w' :=
  (PTextNames.gouacheref01_Name.calls _ _ _ w (name_f hl hn)).mono fun e w' ⟨he, m, hm⟩ => ⟨he, by subst hm; exact pw_below_drewN (Below.refl _ _) m⟩

end Go.Proofs.Ytagncibkgpodfaa
