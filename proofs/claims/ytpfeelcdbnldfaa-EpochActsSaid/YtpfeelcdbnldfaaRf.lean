/-
  The document's epochs in memory: what its functions that only read tell.
-/
import Derived.Test.YtpfeelcdbnldfaaMins
import Derived.Test.YtpfeelcdbnldfaaWApart
namespace Go.Proofs.Ytpfeelcdbnldfaa
open Go.RowKit Go.Proofs.YtpfeelcdbnldfaaW Go.Proofs.YtpfeelcdbnldfaaW.PrintWords
set_option linter.unusedVariables false
set_option linter.unusedSimpArgs false
abbrev kS : Kd Int := Kd.int .i64
abbrev kI : Kd (Int × Int) := Kd.pair (Kd.int .i64) (Kd.int .i64)
/-- The document's epochs lie at r, in blocks of K alone. -/
def Rf (w : World) (K : Nat → Prop) (r : Nat) (now : Int) (S : List Int) (L : List It) : Prop :=
  K r ∧ ∃ vs vL, w.heap[r]? = some (.cells #[.int .i64 now, vs, vL] 61 (0, 0)) ∧ kS.R 3 w 0 K vs S ∧ kI.R 64 w 0 K vL L
section
variable {w w' : World} {K : Nat → Prop} {r : Nat} {now : Int} {S : List Int} {L : List It}
theorem Rf.step (h : Rf w K r now S L) (hm : ∀ k, K k → k < w.heap.size → w'.heap[k]? = w.heap[k]?) : Rf w' K r now S L := by
  obtain ⟨h0, vs, vL, h1, h2, h3⟩ := h
  exact ⟨h0, vs, vL, (hm r h0 (blk_lt h1)).trans h1, Kd.R_step h2 hm, Kd.R_step h3 hm⟩
theorem Rf.mono {K' : Nat → Prop} (h : Rf w K r now S L) (hk : ∀ k, K k → K' k) : Rf w K' r now S L := by
  obtain ⟨h0, vs, vL, h1, h2, h3⟩ := h
  exact ⟨hk r h0, vs, vL, h1, Kd.R_mono h2 hk, Kd.R_mono h3 hk⟩
theorem Rf.below (h : Rf w K r now S L) (hb : Below w.heap.size w w') : Rf w' K r now S L := h.step (fun k _ hk => hb.block k hk)
theorem Rf.lt (h : Rf w K r now S L) : r < w.heap.size := by
  obtain ⟨h0, vs, vL, h1, _⟩ := h
  exact blk_lt h1
/-- What is read of them. -/
theorem Rf.read (h : Rf w K r now S L) : w.cell? ⟨r, 0, none⟩ = some (.int .i64 now) ∧ (∃ A c, w.cell? ⟨r, 1, none⟩ = some (.slice A S.length c) ∧ S.length ≤ c ∧ kS.C w A S.length S) ∧ ∃ B d, w.cell? ⟨r, 2, none⟩ = some (.slice B L.length d) ∧ L.length ≤ d ∧ kI.C w B L.length L := by
  obtain ⟨h0, vs, vL, h1, h2, h3⟩ := h
  obtain ⟨A, c, rfl, hc, hC⟩ := Kd.R_reads h2
  obtain ⟨B, d, rfl, hd, hD⟩ := Kd.R_reads h3
  exact ⟨(blk_cell h1 0).trans rfl, ⟨A, c, (blk_cell h1 1).trans rfl, hc, hC⟩, ⟨B, d, (blk_cell h1 2).trans rfl, hd, hD⟩⟩
theorem slot_at {A : Option Addr} {n : Nat} (h : kS.C w A n S) {i : Nat} (hi : i < n) (hl : i < S.length) : ∃ ad, A = some ad ∧ w.cell? (ad.add i) = some (.int .i64 (S.getD i 0)) := by
  obtain ⟨ad, e, hc⟩ := Kd.at_int h (i : Int) (by omega) (by omega)
  rw [Int.toNat_natCast] at hc
  refine ⟨ad, e, ?_⟩
  rw [hc]
  simp [rd, List.getD_eq_getElem?_getD]
end
/-! ### the plain least -/
def lm (a : Int × Bool) : Int := if a.2 then a.1 else 0
theorem lm_nonneg (S : List Int) (n k : Nat) : 0 ≤ lm (leastV S n k) := by
  have := leastV_spec S n k
  unfold lm
  split
  · rename_i h
    have := (this.is h).2
    omega
  · exact Int.le_refl _
theorem lm_zero {S : List Int} {n k : Nat} : lm (leastV S n k) = 0 ↔ (leastV S n k).2 = false := by
  have := leastV_spec S n k
  unfold lm
  cases h : (leastV S n k).2 with
  | false => simp
  | true =>
    have := (this.is h).2
    simp
    omega
theorem lm_next (S : List Int) (n k : Nat) : lm (leastV S n (k + 1)) = if 0 < pinnedV S n k ∧ (lm (leastV S n k) = 0 ∨ pinnedV S n k < lm (leastV S n k)) then pinnedV S n k else lm (leastV S n k) := by
  have he : leastV S n (k + 1) = if 0 < pinnedV S n k ∧ ((leastV S n k).2 = false ∨ pinnedV S n k < (leastV S n k).1) then (pinnedV S n k, true) else leastV S n k := rfl
  rw [he]
  have hz := lm_zero (S := S) (n := n) (k := k)
  by_cases h : 0 < pinnedV S n k ∧ ((leastV S n k).2 = false ∨ pinnedV S n k < (leastV S n k).1)
  · rw [if_pos h]
    have h2 : 0 < pinnedV S n k ∧ (lm (leastV S n k) = 0 ∨ pinnedV S n k < lm (leastV S n k)) := by
      refine ⟨h.1, ?_⟩
      cases hb : (leastV S n k).2 with
      | false => exact .inl (hz.2 hb)
      | true =>
        right
        unfold lm
        rw [hb]
        exact h.2.resolve_left (by simp [hb])
    rw [if_pos h2]
    rfl
  · rw [if_neg h]
    have h2 : ¬ (0 < pinnedV S n k ∧ (lm (leastV S n k) = 0 ∨ pinnedV S n k < lm (leastV S n k))) := by
      rintro ⟨h0, h1⟩
      refine h ⟨h0, ?_⟩
      cases hb : (leastV S n k).2 with
      | false => exact .inl rfl
      | true =>
        right
        rcases h1 with h1 | h1
        · have := hz.1 h1
          rw [hb] at this
          cases this
        · unfold lm at h1
          rw [hb] at h1
          exact h1
    rw [if_neg h2]
theorem least_stop (S : List Int) (n : Nat) : ∀ (d : Nat), leastV S n (n + d) = leastV S n n
  | 0 => rfl
  | d + 1 => by
    have he : leastV S n (n + d + 1) = if 0 < pinnedV S n ((n + d : Nat) : Int) ∧ ((leastV S n (n + d)).2 = false ∨ pinnedV S n ((n + d : Nat) : Int) < (leastV S n (n + d)).1) then (pinnedV S n ((n + d : Nat) : Int), true) else leastV S n (n + d) := rfl
    have hp : pinnedV S n ((n + d : Nat) : Int) = 0 := pinnedV_out (by omega)
    rw [← Nat.add_assoc, he, hp, if_neg (fun h => absurd h.1 (Int.lt_irrefl 0)), least_stop S n d]
theorem least8 {S : List Int} {n : Nat} (h : n ≤ 8) : leastV S n 8 = leastV S n n := by
  have := least_stop S n (8 - n)
  rwa [show n + (8 - n) = 8 by omega] at this
theorem minV_lm {S : List Int} {n : Nat} (h : n ≤ 8) (now : Int) : minV S n now = if lm (leastV S n n) = 0 then now else lm (leastV S n n) := by
  unfold minV
  rw [least8 h]
  have hz := lm_zero (S := S) (n := n) (k := n)
  cases hb : (leastV S n n).2 with
  | false => rw [if_pos (hz.2 hb)]; rfl
  | true =>
    have hlm : lm (leastV S n n) ≠ 0 := fun e => by have := hz.1 e; rw [hb] at this; cases this
    rw [if_neg hlm]
    unfold lm
    rw [hb]
    rfl
theorem pinned_getD {S : List Int} {n i : Nat} (h : i < n) : pinnedV S n (i : Int) = S.getD i 0 := pinnedV_at h
section
variable {w : World} {K : Nat → Prop} {r : Nat} {now : Int} {S : List Int} {L : List It}
set_option maxHeartbeats 1000000 in
theorem pinned_r (h : Rf w K r now S L) (hl : S.length ≤ 8) (s : Int) : Calls Try.prog 27 #[.pointer (some ⟨r, 0, none⟩), .int .i64 s] w fun e w' => e = .returned (.int .i64 (pinnedV S S.length s)) ∧ w' = w := by
  obtain ⟨_, ⟨A, c, c1, hc, hC⟩, _⟩ := h.read
  have gl : (S.length : Int) ≤ 8 := by omega
  by_cases h0 : s < 0
  · have hv : pinnedV S S.length s = 0 := by unfold pinnedV; rw [if_neg (by omega)]
    rw [hv]
    clear hv h hC hc
    go_enter Try.func27, Try.ntmps27
    go_wp2_with fail
    go_ret
    exact ⟨rfl, rfl⟩
  · by_cases h1 : (S.length : Int) ≤ s
    · have hv : pinnedV S S.length s = 0 := by unfold pinnedV; rw [if_neg (by omega)]
      rw [hv]
      clear hv h hC hc
      go_enter Try.func27, Try.ntmps27
      go_wp2_with fail
      go_ret
      exact ⟨rfl, rfl⟩
    · obtain ⟨i, rfl⟩ : ∃ i : Nat, s = i := ⟨s.toNat, by omega⟩
      have hi : i < S.length := by omega
      have hv : pinnedV S S.length (i : Int) = S.getD i 0 := pinned_getD hi
      rw [hv]
      obtain ⟨ad, rfl, c2⟩ := slot_at hC hi hi
      generalize S.getD i 0 = x at c2 ⊢
      have g1 : (i : Int) < (S.length : Int) := by omega
      clear hv h hC hc h0 h1 hi
      go_enter Try.func27, Try.ntmps27
      go_wp2_with fail
      go_ret
      exact ⟨rfl, rfl⟩
set_option maxHeartbeats 1000000 in
theorem min_r (h : Rf w K r now S L) (hl : S.length ≤ 8) : Calls Try.prog 26 #[.pointer (some ⟨r, 0, none⟩)] w fun e w' => e = .returned (.int .i64 (minV S S.length now)) ∧ w' = w := by
  obtain ⟨c0, ⟨A, c, c1, hc, hC⟩, _⟩ := h.read
  have gl : (S.length : Int) ≤ 8 := by omega
  have HM := Aside0.mk (minV_lm (S := S) hl now)
  have HC := Aside0.mk hC
  clear h hC hc hl
  go_enter Try.func26, Try.ntmps26
  go_wp2_with fail
  go_loop [3, 11] (fun m i => ∃ k : Nat, i = .int .i64 k ∧ m = .int .i64 (lm (leastV S S.length k)) ∧ k ≤ S.length) (fun _ i => S.length - (intOf i).toNat)
  case atStart => exact ⟨0, rfl, rfl, Nat.zero_le _⟩
  case round =>
    obtain ⟨k, rfl, rfl, hk⟩ := hrel
    have hn := lm_nonneg S S.length k
    by_cases hlt : k < S.length
    · have g1 : (k : Int) < (S.length : Int) := by omega
      obtain ⟨ad, rfl, c2⟩ := slot_at HC.out hlt hlt
      have hnx := lm_next S S.length k
      rw [pinned_getD hlt] at hnx
      have HNX := Aside0.mk hnx
      have HLT := Aside0.mk hlt
      clear hnx hk hlt
      generalize S.getD k 0 = x at c2 HNX
      generalize lm (leastV S S.length k) = q at hn HNX ⊢
      by_cases hx : 0 < x
      · by_cases hq : q = 0
        · subst hq
          have HR : Aside0 (lm (leastV S S.length (k + 1)) = x) := ⟨by rw [HNX.out, if_pos ⟨hx, .inl rfl⟩]⟩
          go_wp2_with fail
          go_round
          case rel => exact ⟨k + 1, by go_num, by rw [HR.out], HLT.out⟩
          case measure => have := HLT.out; simp [intOf]; omega
        · have hqb : (q == 0) = false := beq_eq_false_iff_ne.2 hq
          by_cases hxq : x < q
          · have HR : Aside0 (lm (leastV S S.length (k + 1)) = x) := ⟨by rw [HNX.out, if_pos ⟨hx, .inr hxq⟩]⟩
            clear hq
            go_wp2_with fail
            go_round
            case rel => exact ⟨k + 1, by go_num, by rw [HR.out], HLT.out⟩
            case measure => have := HLT.out; simp [intOf]; omega
          · have HR : Aside0 (lm (leastV S S.length (k + 1)) = q) := ⟨by rw [HNX.out, if_neg (fun h => by rcases h.2 with h | h; exact hq h; exact hxq h)]⟩
            clear hq
            go_wp2_with fail
            go_round
            case rel => exact ⟨k + 1, by go_num, by rw [HR.out], HLT.out⟩
            case measure => have := HLT.out; simp [intOf]; omega
      · have HR : Aside0 (lm (leastV S S.length (k + 1)) = q) := ⟨by rw [HNX.out, if_neg (fun h => hx h.1)]⟩
        go_wp2_with fail
        go_round
        case rel => exact ⟨k + 1, by go_num, by rw [HR.out], HLT.out⟩
        case measure => have := HLT.out; simp [intOf]; omega
    · have hkl : k = S.length := by omega
      subst hkl
      generalize lm (leastV S S.length S.length) = q at hn HM ⊢
      by_cases hq : q = 0
      · subst hq
        go_wp2_with fail
        go_ret
        exact ⟨by rw [HM.out]; first | (rw [if_pos rfl]; rfl) | (rw [if_pos trivial]; rfl), rfl⟩
      · have hqb : (q == 0) = false := beq_eq_false_iff_ne.2 hq
        have HQ := Aside0.mk hq
        clear hq
        go_wp2_with fail
        go_ret
        exact ⟨by rw [HM.out, if_neg HQ.out]; rfl, rfl⟩
set_option maxHeartbeats 1000000 in
theorem held_r (h : Rf w K r now S L) (hl : S.length ≤ 8) : Calls Try.prog 40 #[.pointer (some ⟨r, 0, none⟩)] w fun e w' => e = .returned (.bool (leastV S S.length 8).2) ∧ w' = w := by
  obtain ⟨c0, ⟨A, c, c1, hc, hC⟩, _⟩ := h.read
  have gl : (S.length : Int) ≤ 8 := by omega
  have HS := Aside0.mk (leastV_spec S S.length 8)
  have HL := Aside0.mk hl
  have HC := Aside0.mk hC
  clear h hC hc hl
  go_enter Try.func40, Try.ntmps40
  go_wp2_with fail
  go_loop [10] (fun i => ∃ k : Nat, i = .int .i64 k ∧ k ≤ S.length ∧ Aside0 (∀ j, j < k → S.getD j 0 ≤ 0)) (fun i => S.length - (intOf i).toNat)
  case atStart => exact ⟨0, rfl, Nat.zero_le _, ⟨fun j hj => absurd hj (Nat.not_lt_zero _)⟩⟩
  case round =>
    obtain ⟨k, rfl, hk, HJ⟩ := hrel
    by_cases hlt : k < S.length
    · have g1 : (k : Int) < (S.length : Int) := by omega
      obtain ⟨ad, rfl, c2⟩ := slot_at HC.out hlt hlt
      have HLT := Aside0.mk hlt
      have HT : Aside0 (0 < S.getD k 0 → (leastV S S.length 8).2 = true) := ⟨fun hx => by
        cases hb : (leastV S S.length 8).2 with
        | true => rfl
        | false =>
          have := HS.out.no hb k (by have := HL.out; omega)
          rw [pinned_getD hlt] at this
          omega⟩
      have HN : Aside0 (¬ 0 < S.getD k 0 → ∀ j, j < k + 1 → S.getD j 0 ≤ 0) := ⟨fun hx j hj => by
        rcases Nat.lt_succ_iff_lt_or_eq.1 hj with h | h
        · exact HJ.out j h
        · subst h
          omega⟩
      clear hk hlt
      generalize S.getD k 0 = x at c2 HT HN
      by_cases hx : 0 < x
      · have HT2 := Aside0.mk (HT.out hx)
        go_wp2_with fail
        go_ret
        exact ⟨by rw [HT2.out]; rfl, rfl⟩
      · have HN2 := Aside0.mk (HN.out hx)
        go_wp2_with fail
        go_round
        case rel => exact ⟨k + 1, by go_num, HLT.out, HN2⟩
        case measure => have := HLT.out; simp [intOf]; omega
    · have hkl : k = S.length := by omega
      subst hkl
      have hb : (leastV S S.length 8).2 = false := by
        cases hb : (leastV S S.length 8).2 with
        | false => rfl
        | true =>
          obtain ⟨⟨s, hs, hp⟩, h0⟩ := HS.out.is hb
          by_cases hsl : s < S.length
          · rw [pinned_getD hsl] at hp
            have := HJ.out s hsl
            omega
          · rw [pinnedV_out hsl] at hp
            omega
      have HB := Aside0.mk hb
      clear hb
      go_wp2_with fail
      go_ret
      exact ⟨by rw [HB.out]; rfl, rfl⟩
end
end Go.Proofs.Ytpfeelcdbnldfaa
