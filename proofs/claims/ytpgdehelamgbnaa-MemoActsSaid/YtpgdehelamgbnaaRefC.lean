/-
  The document's New, Load, Cas, Clear, Home and Used.
-/
import Derived.Test.YtpgdehelamgbnaaRefM
namespace Go.Proofs.Ytpgdehelamgbnaa
open Go.RowKit Go.Proofs.YtpgdehelamgbnaaW Go.Proofs.YtpgdehelamgbnaaW.PrintWords PMemoActs
set_option linter.unusedVariables false
set_option linter.unusedSimpArgs false
set_option maxHeartbeats 1000000 in
theorem rnew_out {W : World} (n : Int) (h : n < 0 ∨ 65536 < n) : Calls Try.prog 18 #[.int .i64 n] W fun e w' => e = .returned (.pointer none) ∧ W = w' := by
  rcases Int.lt_or_le n 0 with hn | hn
  · clear h
    go_enter Try.func18, Try.ntmps18
    go_wp2_with fail
    go_ret
    exact ⟨rfl, rfl⟩
  · have h2 : 65536 < n := by omega
    clear h
    go_enter Try.func18, Try.ntmps18
    go_wp2_with fail
    go_ret
    exact ⟨rfl, rfl⟩
theorem run_make54 (w : World) (n : Nat) (hn : n ≤ 65536) : (Instr.makeSlice 54 (.int .i64 (n : Int)) (.int .i64 (n : Int))).run Try.prog w = .ok (.slice (some ⟨w.heap.size, 0, none⟩) n n) (w.alloc (.cells (f4 (List.replicate n none)).toArray 79)) := by
  obtain ⟨i0, hi0, hz⟩ := Option.map_eq_some_iff.1 info79
  simp only [Prod.mk.injEq] at hz
  obtain ⟨hz0, hz1, hz2⟩ := hz
  have := run_make (P := Try.prog) w 54 79 i0 (.agg #[.bool false, .int .i64 0, .int .i64 0, .slice none 0 0]) Try.underlying54 hi0 hz0 .i64 .i64 (n : Int) (n : Int) (by omega) (by omega) (by rw [hz2]; omega) (by omega)
  rw [hz1] at this
  simp only [Int.toNat_natCast, Value.cells] at this
  rw [made4] at this
  exact this
theorem own_made4 (w : World) (n : Nat) (hn : n ≤ 65536) : (w.alloc (.cells (f4 (List.replicate n none)).toArray 79)).ownsRow 0 79 4 (.slice (some ⟨w.heap.size, 0, none⟩) n n) n (f4 (List.replicate n none)) := by
  have h := World.ownsRow_lit (base := 0) (e := 79) (size := 4) w (f4 (List.replicate n none)).toArray n (Nat.zero_le _) (by simp only [maxLen]; omega) (by simp [f4_length])
  simpa using h
set_option maxHeartbeats 1000000 in
theorem rnew_c {W : World} (n : Nat) (h : n ≤ 65536) : Calls Try.prog 18 #[.int .i64 (n : Int)] W fun e w' => ∃ p, e = .returned (.pointer (some ⟨p, 0, none⟩)) ∧ Rm w' (fun k => W.heap.size ≤ k) p (List.replicate n none) ∧ Below W.heap.size W w' := by
  have hn : (n : Int) ≤ 65536 := by omega
  have HN := Aside0.mk h
  have hmk := fun w => run_make54 w n h
  clear h
  go_enter Try.func18, Try.ntmps18
  go_wp2_with fail
  go_ret
  have ho := own_made4 W n HN.out
  have hb := (Below.refl W.heap.size W).alloc (Nat.le_refl _) (.cells (f4 (List.replicate n none)).toArray 79)
  have hb2 := hb.alloc (by simp) (.cells #[.slice (some ⟨W.heap.size, 0, none⟩) n n] 56)
  refine ⟨W.heap.size + 1, by simp, ?_, hb2⟩
  have : Rt ((W.alloc (.cells (f4 (List.replicate n none)).toArray 79)).alloc (.cells #[.slice (some ⟨W.heap.size, 0, none⟩) n n] 56)) (fun k => W.heap.size ≤ k) (W.heap.size + 1) W.heap.size n (List.replicate n none) := by
    refine ⟨by simpa using HN.out, by simp, Nat.le_refl _, ?_, ?_, fun e he => ?_⟩
    · have := heap_alloc_new (W.alloc (.cells (f4 (List.replicate n none)).toArray 79)) (.cells #[.slice (some ⟨W.heap.size, 0, none⟩) n n] 56)
      rw [World.size_alloc] at this
      simpa using this
    · have := ho.alloc (.cells #[.slice (some ⟨W.heap.size, 0, none⟩) n n] 56)
      simpa using this
    · have := List.eq_of_mem_replicate he
      cases this
  have h2 := Rm.of this
  have e : absR (List.replicate n none) = List.replicate n none := by simp [absR]
  rw [e] at h2
  exact h2
section
variable {W : World} {F : Nat → Prop} {p : Nat} {T : List (Option S31)}
set_option maxHeartbeats 1000000 in
theorem Rm.home_c (h : Rm W F p T) (ep nd : Int) : Calls Try.prog 28 #[.pointer (some ⟨p, 0, none⟩), .int .i64 ep, .int .i64 nd] W fun e w' => e = .returned (.int .i64 (homeN T.length ep nd : Int)) ∧ W = w' := by
  rw [← (homeN_spec T.length ep nd h.len).1]
  obtain ⟨A, c, hc, _⟩ := h.cell
  have hl : (T.length : Int) ≤ 65536 := by have := h.len; omega
  clear h
  unfold homeI
  by_cases hz : T.length = 0
  · have hd : ((T.length : Int) == 0) = true := by simpa using hz
    rw [if_pos hz]
    rw [hz] at hc
    clear hz hd hl
    go_enter Try.func28, Try.ntmps28
    go_wp2_with fail
    go_ret
    exact ⟨rfl, rfl⟩
  · have hd : ((T.length : Int) == 0) = false := by simpa using hz
    have hz2 : ¬ T = [] := fun e => hz (by rw [e]; rfl)
    rw [if_neg hz]
    clear hz
    go_enter Try.func28, Try.ntmps28
    go_wp2_with fail
    go_ret
    exact ⟨rfl, rfl⟩
set_option maxHeartbeats 1000000 in
theorem Rm.clear_c (h : Rm W F p T) : Calls Try.prog 25 #[.pointer (some ⟨p, 0, none⟩)] W fun e w' => e = .returned (.tuple #[]) ∧ Rm w' (fun k => F k ∨ W.heap.size ≤ k) p (List.replicate T.length none) ∧ Fr F W w' := by
  obtain ⟨g, cap, X, rfl, hR⟩ := h
  rw [absR_length]
  have HR := Aside0.mk hR
  have hmk := fun w => run_make54 w X.length hR.1
  have hl : (X.length : Int) ≤ 65536 := by have := hR.1; omega
  have hp := hR.2.2.2.1
  have c0 : W.cell? ⟨p, 0, none⟩ = some (.slice (some ⟨g, 0, none⟩) X.length cap) := (blk_cell hp 0).trans rfl
  have hba := (Below.refl W.heap.size W).alloc (Nat.le_refl _) (.cells (f4 (List.replicate X.length none)).toArray 79)
  have c1 := pw_cell_below hba c0
  have hp1 := (hba.block p (blk_lt hp)).trans hp
  have f1 := blk_frozen hp1 0
  have HP := Aside0.mk hp1
  have HB := Aside0.mk hba
  clear hR hp hba hp1
  go_enter Try.func25, Try.ntmps25
  go_wp2_with fail
  refine bodyPost_end (results_none rfl _ _ _) rfl ?_
  refine ⟨rfl, ?_, (Fr.of_below HB.out F).setCell (p := ⟨p, 0, none⟩) (Or.inl HR.out.2.1.1) _⟩
  have ho := own_made4 W X.length HR.out.1
  have : Rt ((W.alloc (.cells (f4 (List.replicate X.length none)).toArray 79)).setCell ⟨p, 0, none⟩ (.slice (some ⟨W.heap.size, 0, none⟩) X.length X.length)) (fun k => F k ∨ W.heap.size ≤ k) p W.heap.size X.length (List.replicate X.length none) := by
    refine ⟨by simpa using HR.out.1, Or.inl HR.out.2.1.1, Or.inr (Nat.le_refl _), ?_, ?_, fun e he => ?_⟩
    · have := blk_set HP.out 0 (.slice (some ⟨W.heap.size, 0, none⟩) X.length X.length)
      simpa using this
    · have := own_setCell ho (p := ⟨p, 0, none⟩) (own_ne ho HP.out (by decide)) (.slice (some ⟨W.heap.size, 0, none⟩) X.length X.length)
      simpa using this
    · have := List.eq_of_mem_replicate he
      cases this
  have h2 := Rm.of this
  have e : absR (List.replicate X.length none) = List.replicate X.length none := by simp [absR]
  rw [e] at h2
  exact h2
/-- What the document's Load tells: an entry's style is its own. -/
def RLoad (W : World) (u : Option S31) (e : Ending) (w' : World) : Prop := Below W.heap.size W w' ∧
  match u with
  | none => e = .returned (.tuple #[.agg #[.int .i64 0, .int .i64 0, .slice none 0 0], .bool false])
  | some y => ∃ A c, e = .returned (.tuple #[.agg #[.int .i64 y.f0, .int .i64 y.f1, .slice A y.f2.length c], .bool true]) ∧ w'.ownsRow 0 9 1 (.slice A y.f2.length c) y.f2.length (strs y.f2)
set_option maxHeartbeats 1000000 in
theorem Rm.load_c (h : Rm W F p T) (i : Int) : Calls Try.prog 22 #[.pointer (some ⟨p, 0, none⟩), .int .i64 i] W (RLoad W (lookT T i)) := by
  obtain ⟨g, cap, X, rfl, hR⟩ := h
  have hba := (Below.refl W.heap.size W).alloc (Nat.le_refl _) (.cells #[.int .i64 0, .int .i64 0, .slice none 0 0] 48)
  have hg := heap_alloc_new W (.cells #[.int .i64 0, .int .i64 0, .slice none 0 0] 48)
  have hR1 : Rt (W.alloc (.cells #[.int .i64 0, .int .i64 0, .slice none 0 0] 48)) (fun k => F k ∧ k < W.heap.size) p g cap X := hR.step (fun k hk hl => hba.block k hl) (fun _ h => h)
  have hl : (X.length : Int) ≤ 65536 := by have := hR.1; omega
  have hcap := own_le hR1.2.2.2.2.1
  have hp := hR1.2.2.2.1
  have c0 : (W.alloc (.cells #[.int .i64 0, .int .i64 0, .slice none 0 0] 48)).cell? ⟨p, 0, none⟩ = some (.slice (some ⟨g, 0, none⟩) X.length cap) := (blk_cell hp 0).trans rfl
  have HR1 := Aside0.mk hR1
  have HB := Aside0.mk hba
  have HG := Aside0.mk hg
  have HX : Aside0 ((absR X).length = X.length) := ⟨absR_length X⟩
  have HR0 := Aside0.mk hR
  clear hR hba hg hR1 hp hcap
  by_cases hin : 0 ≤ i ∧ i < (X.length : Int)
  · obtain ⟨h0, h1⟩ := hin
    obtain ⟨k, rfl⟩ := Int.eq_ofNat_of_zero_le h0
    have hk : k < X.length := by omega
    have HL := Aside0.mk (lookR k hk)
    obtain ⟨e0, e1, e2, e3⟩ := HR1.out.cells k hk
    have HE : Aside0 (∀ e, X[k] = some e → Sty (W.alloc (.cells #[.int .i64 0, .int .i64 0, .slice none 0 0] 48)) (fun k => F k ∧ k < W.heap.size) e) := ⟨fun e he => HR1.out.2.2.2.2.2 e (by rw [← he]; exact List.getElem_mem hk)⟩
    have HE0 : Aside0 (∀ e, X[k] = some e → Sty W (fun k => F k ∧ k < W.heap.size) e) := ⟨fun e he => HR0.out.2.2.2.2.2 e (by rw [← he]; exact List.getElem_mem hk)⟩
    rw [HL.out]
    generalize X[k] = u at *
    clear h0 hk
    cases u with
    | none =>
      replace e0 : (W.alloc (.cells #[.int .i64 0, .int .i64 0, .slice none 0 0] 48)).cell? ⟨g, k * 4, none⟩ = some (.bool false) := e0
      clear e1 e2 e3
      go_enter Try.func22, Try.ntmps22
      go_wp2_with fail
      have q0 := (blk_cell HG.out 0).trans rfl
      have q1 := (blk_cell HG.out 1).trans rfl
      have q2 := (blk_cell HG.out 2).trans rfl
      refine bodyPost_ret (v := .tuple #[.agg #[.int .i64 0, .int .i64 0, .slice none 0 0], .bool false]) ?_ rfl ⟨HB.out, rfl⟩
      simp [results, Try.f22, go_sem, q0, q1, q2]
    | some e =>
      obtain ⟨y, A, c⟩ := e
      replace e0 : (W.alloc (.cells #[.int .i64 0, .int .i64 0, .slice none 0 0] 48)).cell? ⟨g, k * 4, none⟩ = some (.bool true) := e0
      replace e1 : (W.alloc (.cells #[.int .i64 0, .int .i64 0, .slice none 0 0] 48)).cell? ⟨g, k * 4 + 1, none⟩ = some (.int .i64 y.f0) := e1
      replace e2 : (W.alloc (.cells #[.int .i64 0, .int .i64 0, .slice none 0 0] 48)).cell? ⟨g, k * 4 + 2, none⟩ = some (.int .i64 y.f1) := e2
      replace e3 : (W.alloc (.cells #[.int .i64 0, .int .i64 0, .slice none 0 0] 48)).cell? ⟨g, k * 4 + 3, none⟩ = some (.slice A y.f2.length c) := e3
      have hs := (HE.out _ rfl).1
      have HS := Aside0.mk hs
      have c9 : (W.alloc (.cells #[.int .i64 0, .int .i64 0, .slice none 0 0] 48)).cell? ⟨W.heap.size, 0, none⟩ = some (.int .i64 0) := (blk_cell HG.out 0).trans rfl
      clear hs
      go_enter Try.func22, Try.ntmps22
      go_wp2_with fail
      have hg := heap_alloc_new W (.cells #[.int .i64 y.f0, .int .i64 y.f1, .slice A y.f2.length c] 48)
      have q0 := (blk_cell hg 0).trans rfl
      have q1 := (blk_cell hg 1).trans rfl
      have q2 := (blk_cell hg 2).trans rfl
      have ho := (HE0.out _ rfl).1.alloc (.cells #[.int .i64 y.f0, .int .i64 y.f1, .slice A y.f2.length c] 48)
      refine bodyPost_ret (v := .tuple #[.agg #[.int .i64 y.f0, .int .i64 y.f1, .slice A y.f2.length c], .bool true]) ?_ rfl ⟨(Below.refl W.heap.size W).alloc (Nat.le_refl _) _, A, c, rfl, ho⟩
      simp [results, Try.f22, go_sem, q0, q1, q2]
  · have HL := Aside0.mk (lookT_out (absR X) i (by rw [HX.out]; omega))
    rw [HL.out]
    rcases Int.lt_or_le i 0 with hn | hn
    · clear hin
      go_enter Try.func22, Try.ntmps22
      go_wp2_with fail
      have q0 := (blk_cell HG.out 0).trans rfl
      have q1 := (blk_cell HG.out 1).trans rfl
      have q2 := (blk_cell HG.out 2).trans rfl
      refine bodyPost_ret (v := .tuple #[.agg #[.int .i64 0, .int .i64 0, .slice none 0 0], .bool false]) ?_ rfl ⟨HB.out, rfl⟩
      simp [results, Try.f22, go_sem, q0, q1, q2]
    · have hge : (X.length : Int) ≤ i := by omega
      clear hin
      go_enter Try.func22, Try.ntmps22
      go_wp2_with fail
      have q0 := (blk_cell HG.out 0).trans rfl
      have q1 := (blk_cell HG.out 1).trans rfl
      have q2 := (blk_cell HG.out 2).trans rfl
      refine bodyPost_ret (v := .tuple #[.agg #[.int .i64 0, .int .i64 0, .slice none 0 0], .bool false]) ?_ rfl ⟨HB.out, rfl⟩
      simp [results, Try.f22, go_sem, q0, q1, q2]
/-! ### Used -/
theorem used_snoc (T : List (Option S31)) (u : Option S31) : used (T ++ [u]) = used T + if u.isSome = true then 1 else 0 := by
  unfold used
  rw [List.filter_append, List.length_append]
  cases u <;> simp
set_option maxHeartbeats 1000000 in
theorem Rm.used_c (h : Rm W F p T) : Calls Try.prog 26 #[.pointer (some ⟨p, 0, none⟩)] W fun e w' => e = .returned (.int .i64 (used T : Int)) ∧ Below W.heap.size W w' := by
  obtain ⟨g, cap, X, rfl, hR⟩ := h
  have hl : (X.length : Int) ≤ 65536 := by have := hR.1; omega
  have c0 : W.cell? ⟨p, 0, none⟩ = some (.slice (some ⟨g, 0, none⟩) X.length cap) := (blk_cell hR.2.2.2.1 0).trans rfl
  have HR := Aside0.mk hR
  clear hR
  go_enter Try.func26, Try.ntmps26
  go_wp2_with fail
  go_loopw [3, 11] (fun v3 v wr => ∃ k n : Nat, v = .int .i64 k ∧ v3 = .int .i64 n ∧ k ≤ X.length ∧ n ≤ k ∧ Aside0 (n = used ((absR X).take k)) ∧ Aside0 (Below W.heap.size W wr)) (fun _ v _ => X.length - (intOf v).toNat)
  case atStart => exact ⟨0, 0, rfl, rfl, Nat.zero_le _, Nat.le_refl _, ⟨rfl⟩, ⟨Below.refl _ _⟩⟩
  case round =>
    obtain ⟨k, n, rfl, rfl, hk, hnk, HN, HB⟩ := hrel
    by_cases hlt : k < X.length
    · have g1 : (k : Int) < (X.length : Int) := by omega
      have g2 : (n : Int) ≤ 65536 := by omega
      obtain ⟨e0, e1, e2, e3⟩ := HR.out.cells k hlt
      have e0 := pw_cell_below HB.out e0
      have e1 := pw_cell_below HB.out e1
      have e2 := pw_cell_below HB.out e2
      have e3 := pw_cell_below HB.out e3
      have HLT := Aside0.mk hlt
      have HNK := Aside0.mk hnk
      have HT : Aside0 (used ((absR X).take (k + 1)) = used ((absR X).take k) + if (X[k]).isSome = true then 1 else 0) := ⟨by
        rw [List.take_succ_eq_append_getElem (by rw [absR_length]; exact hlt), used_snoc]
        congr 1
        simp [absR]⟩
      generalize X[k] = u at *
      clear hlt hk hnk
      obtain ⟨vE, hE⟩ : ∃ z : Int, cE u = .int .i64 z := ⟨_, rfl⟩
      obtain ⟨vN, hN⟩ : ∃ z : Int, cN u = .int .i64 z := ⟨_, rfl⟩
      obtain ⟨A2, n2, c2, hS⟩ : ∃ A n c, cS u = .slice A n c := by cases u <;> exact ⟨_, _, _, rfl⟩
      rw [hE] at e1
      rw [hN] at e2
      rw [hS] at e3
      clear hE hN hS
      cases u with
      | none =>
        have q0 : wr.cell? ⟨g, k * 4, none⟩ = some (.bool false) := e0
        have HBN : Aside0 (Below W.heap.size W (wr.alloc (.cells #[.bool false, .int .i64 vE, .int .i64 vN, .slice A2 n2 c2] 79))) := ⟨HB.out.alloc HB.out.size _⟩
        clear e0
        go_wp2_with fail
        exact ⟨⟨k + 1, n, by go_num, rfl, HLT.out, by have := HNK.out; omega, ⟨by rw [HT.out, ← HN.out]; rfl⟩, HBN⟩, by have := HLT.out; simp [intOf]; omega⟩
      | some e =>
        have q0 : wr.cell? ⟨g, k * 4, none⟩ = some (.bool true) := e0
        have HBN : Aside0 (Below W.heap.size W (wr.alloc (.cells #[.bool true, .int .i64 vE, .int .i64 vN, .slice A2 n2 c2] 79))) := ⟨HB.out.alloc HB.out.size _⟩
        clear e0
        go_wp2_with fail
        exact ⟨⟨k + 1, n + 1, by go_num, by go_num, HLT.out, by have := HNK.out; omega, ⟨by rw [HT.out, ← HN.out]; rfl⟩, HBN⟩, by have := HLT.out; simp [intOf]; omega⟩
    · have g1 : ¬ (k : Int) < (X.length : Int) := by omega
      have HKL : Aside0 (X.length ≤ k) := ⟨by omega⟩
      clear hlt hk hnk
      go_wp2_with fail
      go_ret
      have := HN.out
      rw [List.take_of_length_le (by rw [absR_length]; exact HKL.out)] at this
      subst this
      exact ⟨rfl, HB.out⟩
end
end Go.Proofs.Ytpgdehelamgbnaa
