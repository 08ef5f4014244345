/-
  Small letters: text.Fold and the reference's Fold, for whatever text.
-/
import Derived.Test.YtagncibkgpodfaaStr
namespace Go.Proofs.Ytagncibkgpodfaa
open Go.RowKit Go.Proofs.YtagncibkgpodfaaW.PrintWords Go.Proofs.YtagncibkgpodfaaW.PrintLast Go.Proofs.YtagncibkgpodfaaW.PrintMore
set_option linter.unusedVariables false
set_option linter.unusedSimpArgs false

def fold1 (x : Int) : Int := if 65 ≤ x ∧ x ≤ 90 then x + 32 else x
def foldV (l : List Int) : List Int := l.map fold1
theorem foldV_length (l : List Int) : (foldV l).length = l.length := List.length_map _
theorem fold1_fold1 (x : Int) : fold1 (fold1 x) = fold1 x := by
  unfold fold1
  by_cases h : 65 ≤ x ∧ x ≤ 90
  · rw [if_pos h, if_neg (by omega)]
  · rw [if_neg h, if_neg h]
theorem foldV_foldV (l : List Int) : foldV (foldV l) = foldV l := by
  unfold foldV
  rw [List.map_map]
  exact List.map_congr_left fun x _ => fold1_fold1 x
theorem foldV_byt {l : List Int} (h : T.Byt l) : T.Byt (foldV l) := by
  intro y hy
  obtain ⟨x, hx, rfl⟩ := List.mem_map.1 hy
  have := h x hx
  unfold fold1
  split <;> omega

/-- A row of bytes that lies in a block and may be written. -/
def RowB (W : World) (B : Nat) (L : List Int) : Prop :=
  ∀ j x, L[j]? = some x → W.cell? ⟨B, j, none⟩ = some (.int .u8 x) ∧ W.frozen? ⟨B, j, none⟩ = false
theorem RowB.set {W : World} {B : Nat} {L : List Int} (h : RowB W B L) (i : Nat) (v : Int) : RowB (W.setCell ⟨B, i, none⟩ (.int .u8 v)) B (L.set i v) := by
  intro j x hj
  rw [World.frozen?_setCell]
  by_cases e : i = j
  · subst e
    have hlt : i < L.length := by
      rcases Nat.lt_or_ge i L.length with g | g
      · exact g
      · rw [List.getElem?_eq_none (by simpa using g)] at hj
        cases hj
    obtain ⟨h1, h2⟩ := h i L[i] (List.getElem?_eq_getElem hlt)
    rw [List.getElem?_set_self hlt] at hj
    cases hj
    exact ⟨World.cell?_setCell_same _ _ _ h1, h2⟩
  · rw [List.getElem?_set_ne e] at hj
    obtain ⟨h1, h2⟩ := h j x hj
    refine ⟨?_, h2⟩
    rw [World.cell?_setCell_other]
    · exact h1
    · intro he
      exact e (by injection he)
theorem RowB.reads {W : World} {B : Nat} {L : List Int} (h : RowB W B L) (hn : L.length ≤ 100000000) : Kd.C (Kd.int .u8) W (some ⟨B, 0, none⟩) L.length L := by
  refine Kd.C_of_reads (enc := Value.int .u8) (d := (0 : Int)) (h1 := fun _ => rfl) ⟨rfl, by omega, fun _ => ⟨_, rfl, fun j hj => ?_⟩⟩
  rw [add_plain]
  have := (h j L[j] (List.getElem?_eq_getElem hj)).1
  rw [this, List.getD_eq_getElem?_getD, List.getElem?_eq_getElem hj]
  rfl
theorem bytes_row {l : List Int} (h : T.Byt l) (hn : l.length ≤ 100000000) (W : World) :
    ∃ (cap : Nat) (W' : World), (convert 9 22 (.string (strOfNums l))).run Try.prog W = .ok (.slice (some ⟨W.heap.size, 0, none⟩) l.length cap) W' ∧ Below W.heap.size W W' ∧
      RowB W' W.heap.size l ∧ l.length ≤ cap ∧ W'.heap.size = W.heap.size + 1 := by
  have hs := strOfNums_size l
  refine ⟨grownCap W (strOfNums l).size 0 5, Lib.bytesWorld W 5 (strOfNums l), ?_, bytes_below (Below.refl _ _) (Nat.le_refl _) 5 _, ?_, ?_, Lib.bytesWorld_size _ _ _⟩
  · rw [← hs]
    exact print_bytes 9 22 5 Try.underlying9 Try.underlying22 Try.underlying5 (strOfNums l) W
  · intro j x hj
    have hlt : j < l.length := by
      rcases Nat.lt_or_ge j l.length with g | g
      · exact g
      · rw [List.getElem?_eq_none g] at hj
        cases hj
    refine ⟨?_, ?_⟩
    · have h1 := Lib.bytesWorld_cell W 5 (strOfNums l) j (by omega)
      have h2 : (bytesOf (strOfNums l))[j]? = some x := by rw [bytesOf_str h]; exact hj
      rw [h1]
      unfold bytesOf at h2
      rw [List.getElem?_map] at h2
      rw [List.getD_eq_getElem?_getD]
      cases hd : (strOfNums l).data.toList[j]? with
      | none => rw [hd] at h2; cases h2
      | some b =>
        rw [hd] at h2
        simp at h2
        rw [Option.getD_some, h2]
    · have hb : ∀ n : Nat, (Lib.bytesCells W 5 (strOfNums l)).size = n → j < n → (Lib.bytesWorld W 5 (strOfNums l)).frozen? ⟨W.heap.size, j, none⟩ = false := by
        intro n hn1 hj1
        unfold World.frozen?
        rw [Lib.bytesWorld_at_new, hn1]
        simp
        omega
      refine hb _ rfl ?_
      simp [Lib.bytesCells]
      have hd : (strOfNums l).data.size = (strOfNums l).size := rfl
      omega
  · have := grownCap_ge W (strOfNums l).size 0 5
    omega

def mid (l : List Int) (k : Nat) : List Int := foldV (l.take k) ++ l.drop k
theorem mid_length {l : List Int} {k : Nat} (hk : k ≤ l.length) : (mid l k).length = l.length := by
  unfold mid
  rw [List.length_append, foldV_length, List.length_take, List.length_drop]
  omega
theorem mid_zero (l : List Int) : mid l 0 = l := rfl
theorem mid_full (l : List Int) : mid l l.length = foldV l := by
  unfold mid
  rw [List.take_length, List.drop_length, List.append_nil]
theorem mid_at {l : List Int} {k : Nat} (hk : k < l.length) : (mid l k)[k]? = some l[k] := by
  unfold mid
  rw [List.getElem?_append_right (by rw [foldV_length, List.length_take]; omega), foldV_length, List.length_take, List.getElem?_drop, Nat.min_eq_left (Nat.le_of_lt hk), Nat.sub_self, Nat.add_zero, List.getElem?_eq_getElem hk]
theorem mid_next {l : List Int} {k : Nat} (hk : k < l.length) : mid l (k + 1) = (mid l k).set k (fold1 l[k]) := by
  unfold mid
  have e1 : (foldV (l.take k)).length = k := by rw [foldV_length, List.length_take]; omega
  rw [List.set_append, if_neg (by omega), e1, Nat.sub_self, List.drop_eq_getElem_cons hk, List.set_cons_zero, List.take_succ_eq_append_getElem hk]
  unfold foldV
  rw [List.map_append, List.append_assoc]
  rfl
theorem mid_same {l : List Int} {k : Nat} (hk : k < l.length) (h : ¬ (65 ≤ l[k] ∧ l[k] ≤ 90)) : mid l (k + 1) = mid l k := by
  rw [mid_next hk]
  have e : fold1 l[k] = l[k] := if_neg h
  rw [e]
  have hm := mid_at hk
  apply List.ext_getElem?
  intro j
  by_cases hj : k = j
  · subst hj
    rw [List.getElem?_set_self (by rw [mid_length (Nat.le_of_lt hk)]; exact hk), hm]
  · rw [List.getElem?_set_ne hj]
theorem mid_set {l : List Int} {k : Nat} (hk : k < l.length) (h : 65 ≤ l[k] ∧ l[k] ≤ 90) : mid l (k + 1) = (mid l k).set k (l[k] + 32) := by
  rw [mid_next hk]
  have e : fold1 l[k] = l[k] + 32 := if_pos h
  rw [e]
theorem or32 {x : Int} (h0 : 65 ≤ x) (h1 : x ≤ 90) : bits .or .u8 x 32 = x + 32 := by
  have h : ∀ n : Fin 26, bits .or .u8 (65 + (n.val : Int)) 32 = 65 + (n.val : Int) + 32 := by decide +kernel
  have := h ⟨(x - 65).toNat, by omega⟩
  have e : (65 : Int) + ((x - 65).toNat : Int) = x := by omega
  simp only [e] at this
  exact this

set_option maxHeartbeats 1000000 in
set_option maxRecDepth 100000 in
/-- gouacheref01.Fold -/
theorem rfold_c (l : List Int) (w : World) (hl : T.Byt l) (hn : l.length ≤ 1000000) :
    Calls Try.prog 25 #[.string (strOfNums l)] w fun e w' => e = .returned (.string (strOfNums (foldV l))) ∧ Below w.heap.size w w' := by
  obtain ⟨cap, w1, HCV, hB, hR, hcap, hsz⟩ := bytes_row hl (by omega) w
  have HL := Aside0.mk hl
  have HB1 := Aside0.mk hB
  have HR1 := Aside0.mk (show RowB w1 w.heap.size (mid l 0) from hR)
  have HC := Aside0.mk hcap
  clear hl hB hR hcap hsz
  go_enter Try.func25, Try.ntmps25
  go_wp2_with fail
  clear HCV
  go_loopw [10] (fun i wr => ∃ k : Nat, i = .int .i64 k ∧ k ≤ l.length ∧ Aside0 (RowB wr w.heap.size (mid l k)) ∧ Aside0 (Below w.heap.size w wr)) (fun i _ => l.length - (intOf i).toNat)
  case atStart => exact ⟨0, rfl, Nat.zero_le _, HR1, HB1⟩
  case round =>
    obtain ⟨k, rfl, hk, HR, HB⟩ := hrel
    clear HR1 HB1
    by_cases hlt : k < l.length
    · obtain ⟨hx, hf⟩ := HR.out k _ (mid_at hlt)
      have hb := HL.out l[k] (List.getElem_mem hlt)
      have HS := Aside0.mk (mid_same hlt)
      have HW := Aside0.mk (mid_set hlt)
      generalize l[k] = x at hx hb HS HW
      obtain ⟨hb1, hb2⟩ := hb
      have g1 : (k : Int) < (l.length : Int) := by omega
      by_cases h1 : 65 ≤ x
      · by_cases h2 : x ≤ 90
        · have HM := Aside0.mk (HW.out ⟨h1, h2⟩)
          have HR2 := Aside0.mk (HR.out.set k (x + 32))
          have HB2 := Aside0.mk (Below.setCell HB.out (p := ⟨w.heap.size, k, none⟩) (Nat.le_refl _) (.int .u8 (x + 32)))
          rw [← HM.out] at HR2
          clear HS HW HM HR HB
          go_wp2_with fail
          go_roundw
          case rel => exact ⟨k + 1, by go_num, hlt, HR2, HB2⟩
          case measure => simp [intOf]; omega
        · have HM := Aside0.mk (HS.out (by omega))
          rw [← HM.out] at HR
          clear HS HW HM
          go_wp2_with fail
          go_roundw
          case rel => exact ⟨k + 1, by go_num, hlt, HR, HB⟩
          case measure => simp [intOf]; omega
      · have HM := Aside0.mk (HS.out (by omega))
        rw [← HM.out] at HR
        clear HS HW HM
        go_wp2_with fail
        go_roundw
        case rel => exact ⟨k + 1, by go_num, hlt, HR, HB⟩
        case measure => simp [intOf]; omega
    · have hkl : k = l.length := by omega
      subst hkl
      rw [mid_full] at HR
      have hCV := conv_of_C cap (HR.out.reads (by rw [foldV_length]; omega))
      rw [foldV_length] at hCV
      clear hlt
      go_wp2_with fail
      go_ret
      exact ⟨rfl, HB.out⟩

set_option maxHeartbeats 1000000 in
set_option maxRecDepth 100000 in
/-- text.Fold -/
theorem fold_c (l : List Int) (w : World) (hl : T.Byt l) (hn : l.length ≤ 1000000) :
    Calls Try.prog 24 #[.string (strOfNums l)] w fun e w' => e = .returned (.string (strOfNums (foldV l))) ∧ Below w.heap.size w w' := by
  obtain ⟨cap, w1, HCV, hB, hR, hcap, hsz⟩ := bytes_row hl (by omega) w
  have HL := Aside0.mk hl
  have HB1 := Aside0.mk hB
  have HR1 := Aside0.mk (show RowB w1 w.heap.size (mid l 0) from hR)
  have HC := Aside0.mk hcap
  clear hl hB hR hcap hsz
  go_enter Try.func24, Try.ntmps24
  go_wp2_with fail
  clear HCV
  go_loopw [9] (fun i wr => ∃ k : Nat, i = .int .i64 k ∧ k ≤ l.length ∧ Aside0 (RowB wr w.heap.size (mid l k)) ∧ Aside0 (Below w.heap.size w wr)) (fun i _ => l.length - (intOf i).toNat)
  case atStart => exact ⟨0, rfl, Nat.zero_le _, HR1, HB1⟩
  case round =>
    obtain ⟨k, rfl, hk, HR, HB⟩ := hrel
    clear HR1 HB1
    by_cases hlt : k < l.length
    · obtain ⟨hx, hf⟩ := HR.out k _ (mid_at hlt)
      have hb := HL.out l[k] (List.getElem_mem hlt)
      have HS := Aside0.mk (mid_same hlt)
      have HW := Aside0.mk (mid_set hlt)
      generalize l[k] = x at hx hb HS HW
      obtain ⟨hb1, hb2⟩ := hb
      have g1 : (k : Int) < (l.length : Int) := by omega
      by_cases h1 : 65 ≤ x ∧ x ≤ 90
      · have HM := Aside0.mk (HW.out h1)
        have hor := or32 h1.1 h1.2
        have hd : decide ((x - 65) % 256 < 26) = true := decide_eq_true (by omega)
        have hd2 : (x - 65) % 256 < 26 := by omega
        have HR2 := Aside0.mk (HR.out.set k (x + 32))
        have HB2 := Aside0.mk (Below.setCell HB.out (p := ⟨w.heap.size, k, none⟩) (Nat.le_refl _) (.int .u8 (x + 32)))
        rw [← HM.out] at HR2
        clear HS HW HM HR HB h1
        go_wp2_with fail
        go_roundw
        case rel => exact ⟨k + 1, by go_num, hlt, HR2, HB2⟩
        case measure => simp [intOf]; omega
      · have HM := Aside0.mk (HS.out h1)
        have hd : decide ((x - 65) % 256 < 26) = false := decide_eq_false (by omega)
        have hd2 : ¬ ((x - 65) % 256 < 26) := by omega
        rw [← HM.out] at HR
        clear HS HW HM h1
        go_wp2_with fail
        go_roundw
        case rel => exact ⟨k + 1, by go_num, hlt, HR, HB⟩
        case measure => simp [intOf]; omega
    · have hkl : k = l.length := by omega
      subst hkl
      rw [mid_full] at HR
      have hCV := conv_of_C cap (HR.out.reads (by rw [foldV_length]; omega))
      rw [foldV_length] at hCV
      clear hlt
      go_wp2_with fail
      go_ret
      exact ⟨rfl, HB.out⟩

end Go.Proofs.Ytagncibkgpodfaa
