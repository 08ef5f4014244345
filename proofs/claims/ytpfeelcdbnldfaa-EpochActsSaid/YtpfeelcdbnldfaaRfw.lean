/-
  The document's epochs in memory: New, Publish, Pin, Unpin.
-/
import Derived.Test.YtpfeelcdbnldfaaRf
namespace Go.Proofs.Ytpfeelcdbnldfaa
open Go.RowKit Go.Proofs.YtpfeelcdbnldfaaW Go.Proofs.YtpfeelcdbnldfaaW.PrintWords
set_option linter.unusedVariables false
set_option linter.unusedSimpArgs false
/-- The document's epochs, and that only their block and what is new was written. -/
def RX (w : World) (K : Nat → Prop) (r : Nat) (now : Int) (S : List Int) (L : List It) (w' : World) : Prop :=
  Rf w' (fun k => K k ∨ (w.heap.size ≤ k ∧ k < w'.heap.size)) r now S L ∧ Fr (fun k => k = r) w w'
section
variable {w w' : World} {K : Nat → Prop} {r : Nat} {now : Int} {S : List Int} {L : List It}
theorem RX.refl (h : Rf w K r now S L) : RX w K r now S L w := ⟨h.mono (fun _ hk => .inl hk), Fr.refl _ _⟩
theorem Rf.set_now (h : Rf w K r now S L) (x : Int) : Rf (w.setCell ⟨r, 0, none⟩ (.int .i64 x)) K r x S L := by
  obtain ⟨h0, vs, vL, h1, h2, h3⟩ := h
  exact ⟨h0, vs, vL, blk_set h1 0 (.int .i64 x), Kd.R_set h2 h1 (by simp [Kd.int, Kd.scalar]) 0 _, Kd.R_set h3 h1 (by simp [Kd.pair, Kd.int, Kd.scalar]) 0 _⟩
theorem Rf.set_slots (h : Rf w K r now S L) {v : Value} {S' : List Int} (hR : kS.R 3 w 0 K v S') : Rf (w.setCell ⟨r, 1, none⟩ v) K r now S' L := by
  obtain ⟨h0, vs, vL, h1, h2, h3⟩ := h
  exact ⟨h0, v, vL, blk_set h1 1 v, Kd.R_set hR h1 (by simp [Kd.int, Kd.scalar]) 1 _, Kd.R_set h3 h1 (by simp [Kd.pair, Kd.int, Kd.scalar]) 1 _⟩
theorem Rf.set_list (h : Rf w K r now S L) {v : Value} {L' : List It} (hR : kI.R 64 w 0 K v L') : Rf (w.setCell ⟨r, 2, none⟩ v) K r now S L' := by
  obtain ⟨h0, vs, vL, h1, h2, h3⟩ := h
  exact ⟨h0, vs, v, blk_set h1 2 v, Kd.R_set h2 h1 (by simp [Kd.int, Kd.scalar]) 2 _, Kd.R_set hR h1 (by simp [Kd.pair, Kd.int, Kd.scalar]) 2 _⟩
theorem Rf.frozen (h : Rf w K r now S L) (i : Nat) : w.frozen? ⟨r, i, none⟩ = false := by
  obtain ⟨h0, vs, vL, h1, _⟩ := h
  exact blk_frozen h1 i
theorem fr_set (w : World) (r i : Nat) (u : Value) : Fr (fun k => k = r) w (w.setCell ⟨r, i, none⟩ u) := (Fr.refl (fun k => k = r) w).setCell (p := ⟨r, i, none⟩) (Or.inl rfl) u
/-- Behind calls that made memory: the slots are another row. -/
theorem RX.slots (h : Rf w K r now S L) {v : Value} {S' : List Int} {w1 : World} (hb : Below w.heap.size w w1) (hR : kS.R 3 w1 w.heap.size (fun k => w.heap.size ≤ k) v S') : RX w K r now S' L (w1.setCell ⟨r, 1, none⟩ v) := by
  have h1 := (h.below hb).mono (K' := fun k => K k ∨ (w.heap.size ≤ k ∧ k < w1.heap.size)) (fun _ hk => .inl hk)
  have h2 : kS.R 3 w1 0 (fun k => K k ∨ (w.heap.size ≤ k ∧ k < w1.heap.size)) v S' := Kd.R_lower (Kd.R_mono (Kd.R_bound hR) (fun k hk => .inr ⟨hk.1, hk.2.2.1⟩)) (Nat.zero_le _)
  refine ⟨?_, (Fr.of_below hb _).trans (fr_set w1 r 1 v) (fun i hi => .inl hi)⟩
  have := h1.set_slots h2
  simpa [World.setCell] using this
theorem RX.list (h : Rf w K r now S L) {v : Value} {L' : List It} {w1 : World} (hb : Below w.heap.size w w1) (hR : kI.R 64 w1 w.heap.size (fun k => w.heap.size ≤ k) v L') : RX w K r now S L' (w1.setCell ⟨r, 2, none⟩ v) := by
  have h1 := (h.below hb).mono (K' := fun k => K k ∨ (w.heap.size ≤ k ∧ k < w1.heap.size)) (fun _ hk => .inl hk)
  have h2 : kI.R 64 w1 0 (fun k => K k ∨ (w.heap.size ≤ k ∧ k < w1.heap.size)) v L' := Kd.R_lower (Kd.R_mono (Kd.R_bound hR) (fun k hk => .inr ⟨hk.1, hk.2.2.1⟩)) (Nat.zero_le _)
  refine ⟨?_, (Fr.of_below hb _).trans (fr_set w1 r 2 v) (fun i hi => .inl hi)⟩
  have := h1.set_list h2
  simpa [World.setCell] using this
theorem publish_r (h : Rf w K r now S L) (h0 : 0 ≤ now) (h1 : now ≤ 1000000) : Calls Try.prog 20 #[.pointer (some ⟨r, 0, none⟩)] w fun e w' => e = .returned (.int .i64 (now + 1)) ∧ RX w K r (now + 1) S L w' := by
  have c0 := h.read.1
  have f0 := h.frozen 0
  have H := Aside0.mk h
  have HX : Aside0 (RX w K r (now + 1) S L (w.setCell ⟨r, 0, none⟩ (.int .i64 (now + 1)))) := ⟨by simpa using (h.set_now (now + 1)).mono (fun _ hk => .inl hk), fr_set w r 0 _⟩
  clear h
  go_enter Try.func20, Try.ntmps20
  go_wp2_with fail
  go_ret
  exact ⟨rfl, HX.out⟩
theorem r_some {w : World} {base : Nat} {ok : Nat → Prop} {v : Value} {xs : List Int} (h : kS.R 3 w base ok v xs) (h0 : 0 < xs.length) : ∃ g c, v = .slice (some ⟨g, 0, none⟩) xs.length c := by
  rcases (Kd.own_of_R h).2 with ⟨_, e⟩ | ⟨g, c, cur, rfl, _⟩
  · omega
  · exact ⟨g, c, rfl⟩
set_option maxHeartbeats 1000000 in
theorem slots_r (h : Rf w K r now S L) (hl : S.length ≤ 8) (i : Nat) (hi : i < S.length) (x : Int) : Calls Try.prog 39 #[.pointer (some ⟨r, 0, none⟩), .int .i64 i, .int .i64 x] w fun e w' => ∃ v, e = .returned v ∧ kS.R 3 w' w.heap.size (fun k => w.heap.size ≤ k) v (S.set i x) ∧ Below w.heap.size w w' := by
  obtain ⟨_, ⟨A, c, c1, hc, hC⟩, _⟩ := h.read
  have H := Aside0.mk hC
  have HL := Aside0.mk hl
  have HI := Aside0.mk hi
  have gi : (i : Int) < (S.length : Int) := by omega
  have gl : (S.length : Int) ≤ 8 := by omega
  have hc1 : (w.alloc (.cells #[] 3)).cell? ⟨r, 1, none⟩ = some (.slice A S.length c) := pw_cell_below ((Below.refl _ _).alloc (Nat.le_refl _) _) c1
  clear h hC hc hi hl c1
  go_enter Try.func39, Try.ntmps39
  go_wp2_with (at_builtin; refine Kd.R_append_row (Value.int .i64) (0 : Int) (h1 := fun _ => rfl) (w0 := w) w.heap.size rfl (.tmp 8) (.tmp 12) 27 3 (.int .i64 0) 8 rfl Try.underlying27 info3 rfl (by decide) (.slice (some ⟨w.heap.size, 0, none⟩) 0 0) [] S A S.length c (fun k => w.heap.size ≤ k) rfl rfl ?a0 ?a1 (Kd.C_below H.out ?a2) ?a3 ?a4 ?a5 ?_; (case a0 => intro k hk; simp at hk; omega); (case a1 => exact ⟨fun k hk => by simp [Value.ownBlock] at hk; omega, [], World.ownsRow_made w #[] 0 (Nat.le_refl _) (by decide) rfl, Reps.none _ _⟩); (case a2 => exact (Below.refl _ _).alloc (Nat.le_refl _) _); (case a3 => exact (Below.refl _ _).alloc (Nat.le_refl _) _); (case a4 => simp); (case a5 => have := HL.out; simp; omega); intro v1 w1 hr hb hg hat; obtain ⟨g, c2, rfl⟩ := r_some hr (by have := HI.out; simp; omega); have HR := Aside0.mk hr; have HB := Aside0.mk hb; have HG := Aside0.mk (Kd.R_base hr g rfl); have hcf := Kd.R_celln (0 : Int) hr (i : Int) (by omega) (by have := HI.out; simp; omega); simp only [Int.toNat_natCast] at hcf; obtain ⟨hcell, hfro⟩ := hcf; clear hr hb hg hat)
  go_ret
  refine ⟨_, rfl, ?_, HB.out.setCell (p := ⟨g, i, none⟩) HG.out _⟩
  have := Kd.R_putn HR.out (i : Int) x
  simp at this
  exact this
/-- What Pin leaves. -/
def PinR (w : World) (K : Nat → Prop) (r : Nat) (now : Int) (S : List Int) (L : List It) (e : Ending) (w' : World) : Prop :=
  (∃ i : Nat, i < S.length ∧ S.getD i 0 = 0 ∧ (∀ j, j < i → S.getD j 0 ≠ 0) ∧ e = .returned (.tuple #[.int .i64 i, .int .i64 0]) ∧ RX w K r now (S.set i now) L w') ∨ ((∀ j, j < S.length → S.getD j 0 ≠ 0) ∧ e = .returned (.tuple #[.int .i64 0, .int .i64 6]) ∧ w' = w)
set_option maxHeartbeats 1000000 in
theorem pin_r (h : Rf w K r now S L) (hl : S.length ≤ 8) : Calls Try.prog 21 #[.pointer (some ⟨r, 0, none⟩)] w (PinR w K r now S L) := by
  obtain ⟨c0, ⟨A, c, c1, hc, hC⟩, _⟩ := h.read
  have H := Aside0.mk h
  have HC := Aside0.mk hC
  have HL := Aside0.mk hl
  have gl : (S.length : Int) ≤ 8 := by omega
  have hlt0 := h.lt
  clear h hC hc hl
  go_enter Try.func21, Try.ntmps21
  go_wp2_with fail
  go_loop [11] (fun i => ∃ k : Nat, i = .int .i64 k ∧ k ≤ S.length ∧ Aside0 (∀ j, j < k → S.getD j 0 ≠ 0)) (fun i => S.length - (intOf i).toNat)
  case atStart => exact ⟨0, rfl, Nat.zero_le _, ⟨fun j hj => absurd hj (Nat.not_lt_zero _)⟩⟩
  case round =>
    obtain ⟨k, rfl, hk, HJ⟩ := hrel
    by_cases hlt : k < S.length
    · have g1 : (k : Int) < (S.length : Int) := by omega
      obtain ⟨ad, rfl, c2⟩ := slot_at HC.out hlt hlt
      have HLT := Aside0.mk hlt
      obtain ⟨x, hx⟩ : ∃ x, S.getD k 0 = x := ⟨_, rfl⟩
      rw [hx] at c2
      have HX := Aside0.mk hx
      clear hk hlt hx
      by_cases hz : x = 0
      · subst hz
        go_wp2_with fail
        refine (slots_r H.out HL.out k HLT.out now).mono ?_
        rintro e w2 ⟨v, rfl, hR, hb⟩
        have HRX := Aside0.mk (RX.slots H.out hb hR)
        have hf := (H.out.below hb).frozen 1
        have hcc := pw_cell_below hb c1
        obtain ⟨g, c3, rfl⟩ := r_some hR (by have := HLT.out; simp; omega)
        rw [List.length_set] at HRX
        clear hR hb
        go_wp2_with fail
        go_ret2
        exact .inl ⟨k, HLT.out, HX.out, HJ.out, rfl, HRX.out⟩
      · have hzb : (x == 0) = false := beq_eq_false_iff_ne.2 hz
        have HN : Aside0 (∀ j, j < k + 1 → S.getD j 0 ≠ 0) := ⟨fun j hj => by
          rcases Nat.lt_succ_iff_lt_or_eq.1 hj with h | h
          · exact HJ.out j h
          · subst h
            rw [HX.out]
            exact hz⟩
        clear hz
        go_wp2_with fail
        go_round
        case rel => exact ⟨k + 1, by go_num, HLT.out, HN⟩
        case measure => have := HLT.out; simp [intOf]; omega
    · have hkl : k = S.length := by omega
      subst hkl
      go_wp2_with fail
      go_ret2
      exact .inr ⟨HJ.out, rfl, rfl⟩
/-- What Unpin leaves. -/
def UnpR (w : World) (K : Nat → Prop) (r : Nat) (now : Int) (S : List Int) (L : List It) (s : Int) (e : Ending) (w' : World) : Prop :=
  (pinnedV S S.length s = 0 ∧ e = .returned (.int .i64 3) ∧ w' = w) ∨ (pinnedV S S.length s ≠ 0 ∧ e = .returned (.int .i64 0) ∧ RX w K r now (S.set s.toNat 0) L w')
theorem unpin_r (h : Rf w K r now S L) (hl : S.length ≤ 8) (s : Int) : Calls Try.prog 22 #[.pointer (some ⟨r, 0, none⟩), .int .i64 s] w (UnpR w K r now S L s) := by
  obtain ⟨c0, ⟨A, c, c1, hc, hC⟩, _⟩ := h.read
  have H := Aside0.mk h
  have HL := Aside0.mk hl
  have HP := Aside0.mk (pinned_r h hl s)
  have hlt0 := h.lt
  obtain ⟨x, hx⟩ : ∃ x, pinnedV S S.length s = x := ⟨_, rfl⟩
  have HX := Aside0.mk hx
  rw [hx] at HP
  clear h hC hc hl hx
  by_cases hz : x = 0
  · subst hz
    go_enter Try.func22, Try.ntmps22
    go_wp2_with fail
    refine HP.out.mono ?_
    rintro e w1 ⟨rfl, rfl⟩
    go_wp2_with fail
    go_ret
    exact .inl ⟨HX.out, rfl, rfl⟩
  · have hzb : (x == 0) = false := beq_eq_false_iff_ne.2 hz
    obtain ⟨i, rfl⟩ : ∃ i : Nat, s = i := ⟨s.toNat, by
      by_cases h0 : 0 ≤ s
      · omega
      · have := HX.out
        unfold pinnedV at this
        rw [if_neg (fun h => h0 h.1)] at this
        exact absurd this.symm hz⟩
    have HI : Aside0 (i < S.length) := ⟨by
      by_cases hi : i < S.length
      · exact hi
      · have := HX.out
        rw [pinnedV_out hi] at this
        exact absurd this.symm hz⟩
    have HZ := Aside0.mk hz
    clear hz
    go_enter Try.func22, Try.ntmps22
    go_wp2_with fail
    refine HP.out.mono ?_
    rintro e w1 ⟨rfl, rfl⟩
    go_wp2_with fail
    refine (slots_r H.out HL.out i HI.out 0).mono ?_
    rintro e w2 ⟨v, rfl, hR, hb⟩
    have HRX := Aside0.mk (RX.slots H.out hb hR)
    have hf := (H.out.below hb).frozen 1
    have hcc := pw_cell_below hb c1
    obtain ⟨g, c3, rfl⟩ := r_some hR (by have := HI.out; simp; omega)
    rw [List.length_set] at HRX
    clear hR hb
    go_wp2_with fail
    go_ret
    exact .inr ⟨by rw [HX.out]; exact HZ.out, rfl, by rw [Int.toNat_natCast]; exact HRX.out⟩
/-- What New leaves. -/
theorem new_r (n : Nat) (h0 : 1 ≤ n) (h8 : n ≤ 8) : Calls Try.prog 19 #[.int .i64 n] w fun e w' => e = .returned (.pointer (some ⟨w.heap.size + 1, 0, none⟩)) ∧ Rf w' (fun k => w.heap.size ≤ k ∧ k < w'.heap.size) (w.heap.size + 1) 1 (List.replicate n 0) [] ∧ Below w.heap.size w w' := by
  have hmk : ∀ W : World, (Instr.makeSlice 27 (.int .i64 (n : Int)) (.int .i64 (n : Int))).run Try.prog W = .ok (.slice (some ⟨W.heap.size, 0, none⟩) n n) (W.alloc (.cells (madeCells #[.int .i64 0] n) 3)) := by
    have := print_make_of (P := Try.prog) 27 3 (.int .i64 0) 8 Try.underlying27 info3 rfl (by decide) n (by omega)
    simpa using this
  have g0 : (1 : Int) ≤ (n : Int) := by omega
  have g8 : (n : Int) ≤ 8 := by omega
  have HN8 := Aside0.mk h8
  clear h0 h8
  go_enter Try.func19, Try.ntmps19
  go_wp2_with fail
  go_ret
  have hb : Below w.heap.size w ((w.alloc (.cells (madeCells #[.int .i64 0] n) 3)).alloc (.cells #[.int .i64 1, .slice (some ⟨w.heap.size, 0, none⟩) n n, .slice none 0 0] 61)) := ((Below.refl _ _).alloc (Nat.le_refl _) _).alloc (by simp) _
  refine ⟨rfl, ⟨⟨by omega, by simp⟩, .slice (some ⟨w.heap.size, 0, none⟩) n n, .slice none 0 0, heap_alloc2_new w _ _, ?_, Kd.R_nil _ _ _ _ _⟩, hb⟩
  have ho := own_made_of (enc := Value.int .i64) (d := (0 : Int)) w 0 3 n (Nat.zero_le _) (by have := HN8.out; omega)
  have hR : kS.R 3 (w.alloc (.cells (madeCells #[.int .i64 0] n) 3)) 0 (fun k => w.heap.size ≤ k ∧ k < w.heap.size + 2) (.slice (some ⟨w.heap.size, 0, none⟩) n n) (List.replicate n 0) := Kd.R_of_own (by simpa using ho) (fun k hk => by simp [Value.ownBlock] at hk; omega)
  simpa using Kd.R_below hR ((Below.refl _ _).alloc (Nat.le_refl _) _)
theorem new_r_out (x : Int) (h : ¬ (1 ≤ x ∧ x ≤ 8)) : Calls Try.prog 19 #[.int .i64 x] w fun e w' => e = .returned (.pointer none) ∧ w' = w := by
  by_cases h0 : x < 1
  · clear h
    go_enter Try.func19, Try.ntmps19
    go_wp2_with fail
    go_ret
    exact ⟨rfl, rfl⟩
  · have h8 : 8 < x := by omega
    clear h
    go_enter Try.func19, Try.ntmps19
    go_wp2_with fail
    go_ret
    exact ⟨rfl, rfl⟩
end
end Go.Proofs.Ytpfeelcdbnldfaa
