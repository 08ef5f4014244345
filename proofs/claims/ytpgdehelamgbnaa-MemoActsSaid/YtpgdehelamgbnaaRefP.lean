/-
  The document's Put.
-/
import Derived.Test.YtpgdehelamgbnaaRefG
namespace Go.Proofs.Ytpgdehelamgbnaa
open Go.RowKit Go.Proofs.YtpgdehelamgbnaaW Go.Proofs.YtpgdehelamgbnaaW.PrintWords PMemoActs
set_option linter.unusedVariables false
set_option linter.unusedSimpArgs false
/-- What the document's Put leaves. -/
def RPut (W : World) (F : Nat → Prop) (p : Nat) (T : List (Option S31)) (y : S31) (e : Ending) (w' : World) : Prop :=
  e = .returned (.bool (putB T y)) ∧ Rm w' (fun k => F k ∨ W.heap.size ≤ k) p (putT T y) ∧ Fr F W w'
/-- What the rounds of Put read. -/
def PtS (w : World) (F : Nat → Prop) (p b : Nat) (T : List (Option S31)) (y : S31) (A : Option Addr) (c : Nat) (cs : Array Value) : Prop :=
  Rm w F p T ∧ w.heap[p]? = some (.cells cs 56 (0, 0)) ∧ w.heap[b]? = some (.cells #[.int .i64 y.f0, .int .i64 y.f1, .slice A y.f2.length c] 48 (0, 0)) ∧ Kd.C Kd.string w A y.f2.length y.f2
theorem PtS.below {w w' : World} {F : Nat → Prop} {p b : Nat} {T : List (Option S31)} {y : S31} {A : Option Addr} {c : Nat} {cs : Array Value} (h : PtS w F p b T y A c cs) (hb : Below w.heap.size w w') : PtS w' F p b T y A c cs :=
  ⟨h.1.below hb, (hb.block p (blk_lt h.2.1)).trans h.2.1, (hb.block b (blk_lt h.2.2.1)).trans h.2.2.1, Kd.C_below h.2.2.2 hb⟩
section
variable {W : World} {F : Nat → Prop} {p : Nat} {T : List (Option S31)} {y : S31} {A : Option Addr} {c : Nat}
theorem Rm.stays {w : World} (h : Rm W F p T) (hb : Below W.heap.size W w) : Rm w (fun k => F k ∨ W.heap.size ≤ k) p T ∧ Fr F W w := ⟨h.same hb, Fr.of_below hb _⟩
set_option maxHeartbeats 4000000 in
set_option maxRecDepth 100000 in
theorem Rm.put_c (h : Rm W F p T) (hs : Kd.C Kd.string W A y.f2.length y.f2) (hn : y.f2.length ≤ 8796093022200) :
    Calls Try.prog 19 #[.pointer (some ⟨p, 0, none⟩), .agg #[.int .i64 y.f0, .int .i64 y.f1, .slice A y.f2.length c]] W (RPut W F p T y) := by
  have hl : (T.length : Int) ≤ 65536 := by have := h.len; omega
  have HH : Aside0 (homeN T.length y.f0 y.f1 < T.length ∨ T.length = 0) := ⟨(homeN_spec T.length y.f0 y.f1 h.len).2⟩
  obtain ⟨A0, c0, hpb⟩ := h.blk
  have hba := (Below.refl W.heap.size W).alloc (Nat.le_refl _) (.cells #[.int .i64 y.f0, .int .i64 y.f1, .slice A y.f2.length c] 48)
  have hS : PtS (W.alloc (.cells #[.int .i64 y.f0, .int .i64 y.f1, .slice A y.f2.length c] 48)) F p W.heap.size T y A c #[.slice A0 T.length c0] :=
    ⟨h.below hba, (hba.block p (blk_lt hpb)).trans hpb, heap_alloc_new W _, Kd.C_below hs hba⟩
  have hc : (W.alloc (.cells #[.int .i64 y.f0, .int .i64 y.f1, .slice A y.f2.length c] 48)).cell? ⟨p, 0, none⟩ = some (.slice A0 T.length c0) := (blk_cell hS.2.1 0).trans rfl
  have HS0 := Aside0.mk hS
  have HB0 := Aside0.mk hba
  have HM := Aside0.mk h
  have HN := Aside0.mk hn
  have HPU : Aside0 (∀ r, scan y.f0 y.f1 (line T (homeN T.length y.f0 y.f1)) = r → (putB T y = match r with | .free _ => true | _ => false) ∧ putT T y = match r with | .free i => T.set i (some y) | _ => T) := ⟨fun r hr => by unfold putB putT; rw [hr]; cases r <;> exact ⟨rfl, rfl⟩⟩
  clear h hpb hba hS hs hn
  obtain ⟨hm, hmv⟩ : ∃ hm, homeN T.length y.f0 y.f1 = hm := ⟨_, rfl⟩
  rw [hmv] at HH HPU
  have HMV := Aside0.mk hmv
  clear hmv
  go_enter Try.func19, Try.ntmps19
  go_wp2_with fail
  clear hc
  go_loopw [14] (fun v wr => ∃ k : Nat, v = .int .i64 k ∧ k ≤ T.length ∧ Aside0 (PassK T hm y.f0 y.f1 k) ∧ Aside0 (PtS wr F p W.heap.size T y A c #[.slice A0 T.length c0]) ∧ Aside0 (Below W.heap.size W wr)) (fun v _ => T.length - (intOf v).toNat)
  case atStart => exact ⟨0, rfl, Nat.zero_le _, ⟨fun j hj => by omega⟩, HS0, HB0⟩
  case round =>
    obtain ⟨k, rfl, hk, HP, HS, HB⟩ := hrel
    by_cases hlt : k < T.length
    · have g1 : (k : Int) < (T.length : Int) := by omega
      have hhl : hm < T.length := by rcases HH.out with h1 | h1 <;> omega
      have g2 : (hm : Int) ≤ 65536 := by omega
      obtain ⟨j, hj⟩ : ∃ j : Nat, (hm + k) % T.length = j := ⟨_, rfl⟩
      have hji : ((hm : Int) + (k : Int)).tmod (T.length : Int) = (j : Int) := by rw [Int.tmod_eq_emod_of_nonneg (by omega), ← hj]; push_cast; rfl
      have hn0 : ¬ T = [] := by rintro rfl; simp at hlt
      have HJ := Aside0.mk hj
      have HJL : Aside0 (j < T.length) := ⟨by rw [← hj]; exact Nat.mod_lt _ (by omega)⟩
      have HLT := Aside0.mk hlt
      have hsum : IntKind.i64.wrap ((hm : Int) + (k : Int)) = (hm : Int) + (k : Int) := IntWalk.i64_in _ (by omega)
      have hn1 : ¬ (T.length : Int) = 0 := by omega
      clear hj hlt hk
      go_upto_region 4 with fail
      refine PrintLast.start_ (n := 15) (S := fun w' => PtS w' F p W.heap.size T y A c #[.slice A0 T.length c0]) (ds := []) #[false, false, false, false, false, false, false, false, false, false, false, false, false, false, false] (by kernel_rfl) rfl rfl (HS.out.below (below_drew (Below.refl _ _))) (fun hHeld => ?_)
      have HB4 := Aside0.mk (below_drew HB.out)
      clear HS HB
      generalize wr.drew = w4 at *
      refine PrintLast.pure_ (i := 0) (N := some 17) (v := ?_) (a' := ?_) #[true, false, false, false, false, false, false, false, false, false, false, false, false, false, false] rfl rfl (by kernel_rfl) (fun _ _ _ h => h) (Or.inl ⟨by rfl, ?_⟩) ?_ ?_
      rotate_left
      · intro w'
        go_simp
        with_reducible rfl
      rotate_left
      · simp only [Act.put, List.setIfInBounds_toArray, List.set_cons_zero, List.set_cons_succ]
        rfl
      refine PrintLast.pure_ (i := 1) (N := some 18) (v := ?_) (a' := ?_) #[true, true, false, false, false, false, false, false, false, false, false, false, false, false, false] rfl rfl (by kernel_rfl) (fun _ _ _ h => h) (Or.inl ⟨by rfl, ?_⟩) ?_ ?_
      rotate_left
      · intro w'
        go_simp
        with_reducible rfl
      rotate_left
      · simp only [Act.put, List.setIfInBounds_toArray, List.set_cons_zero, List.set_cons_succ]
        rfl
      refine PrintLast.take_ (i := 2) (N := some 19) (v := .int .i64 y.f0) (a' := ?_) #[true, true, true, false, false, false, false, false, false, false, false, false, false, false, false] rfl rfl (by kernel_rfl) (fun _ _ _ h => h) (Or.inl ⟨by rfl, ?_⟩) hHeld ?_ ?_
      · intro w' hS
        have hc2 := (blk_cell hS.2.2.1 0).trans rfl
        go_simp
      rotate_left
      · simp only [Act.put, List.setIfInBounds_toArray, List.set_cons_zero, List.set_cons_succ]
        rfl
      refine PrintLast.pure_ (i := 3) (N := some 20) (v := ?_) (a' := ?_) #[true, true, true, true, false, false, false, false, false, false, false, false, false, false, false] rfl rfl (by kernel_rfl) (fun _ _ _ h => h) (Or.inl ⟨by rfl, ?_⟩) ?_ ?_
      rotate_left
      · intro w'
        go_simp
        with_reducible rfl
      rotate_left
      · simp only [Act.put, List.setIfInBounds_toArray, List.set_cons_zero, List.set_cons_succ]
        rfl
      refine PrintLast.take_ (i := 4) (N := some 21) (v := .int .i64 y.f1) (a' := ?_) #[true, true, true, true, true, false, false, false, false, false, false, false, false, false, false] rfl rfl (by kernel_rfl) (fun _ _ _ h => h) (Or.inl ⟨by rfl, ?_⟩) hHeld ?_ ?_
      · intro w' hS
        have hc2 := (blk_cell hS.2.2.1 1).trans rfl
        go_simp
      rotate_left
      · simp only [Act.put, List.setIfInBounds_toArray, List.set_cons_zero, List.set_cons_succ]
        rfl
      refine PrintLast.pure_ (i := 6) (N := some 23) (v := ?_) (a' := ?_) #[true, true, true, true, true, false, true, false, false, false, false, false, false, false, false] rfl rfl (by kernel_rfl) (fun _ _ _ h => h) (Or.inl ⟨by rfl, ?_⟩) ?_ ?_
      rotate_left
      · intro w'
        go_simp
        with_reducible rfl
      rotate_left
      · simp only [Act.put, List.setIfInBounds_toArray, List.set_cons_zero, List.set_cons_succ]
        rfl
      refine PrintLast.pure_ (i := 8) (N := some 25) (v := ?_) (a' := ?_) #[true, true, true, true, true, false, true, false, true, false, false, false, false, false, false] rfl rfl (by kernel_rfl) (fun _ _ _ h => h) (Or.inl ⟨by rfl, ?_⟩) ?_ ?_
      rotate_left
      · intro w'
        go_simp
        with_reducible rfl
      rotate_left
      · simp only [Act.put, List.setIfInBounds_toArray, List.set_cons_zero, List.set_cons_succ]
        rfl
      refine PrintLast.pure_ (i := 9) (N := some 26) (v := ?_) (a' := ?_) #[true, true, true, true, true, false, true, false, true, true, false, false, false, false, false] rfl rfl (by kernel_rfl) (fun _ _ _ h => h) (Or.inl ⟨by rfl, ?_⟩) ?_ ?_
      rotate_left
      · intro w'
        go_simp
        with_reducible rfl
      rotate_left
      · simp only [Act.put, List.setIfInBounds_toArray, List.set_cons_zero, List.set_cons_succ]
        rfl
      refine PrintLast.pure_ (i := 10) (N := some 27) (v := ?_) (a' := ?_) #[true, true, true, true, true, false, true, false, true, true, true, false, false, false, false] rfl rfl (by kernel_rfl) (fun _ _ _ h => h) (Or.inl ⟨by rfl, ?_⟩) ?_ ?_
      rotate_left
      · intro w'
        go_simp
        with_reducible rfl
      rotate_left
      · simp only [Act.put, List.setIfInBounds_toArray, List.set_cons_zero, List.set_cons_succ]
        rfl
      refine PrintLast.take_ (i := 11) (N := some 28) (v := .slice A0 T.length c0) (a' := ?_) #[true, true, true, true, true, false, true, false, true, true, true, true, false, false, false] rfl rfl (by kernel_rfl) (fun _ _ _ h => h) (Or.inl ⟨by rfl, ?_⟩) hHeld ?_ ?_
      · intro w' hS
        have hc2 := (blk_cell hS.2.1 0).trans rfl
        go_simp
      rotate_left
      · simp only [Act.put, List.setIfInBounds_toArray, List.set_cons_zero, List.set_cons_succ]
        rfl
      refine PrintLast.pure_ (i := 12) (N := some 29) (v := ?_) (a' := ?_) #[true, true, true, true, true, false, true, false, true, true, true, true, true, false, false] rfl rfl (by kernel_rfl) (fun _ _ _ h => h) (Or.inl ⟨by rfl, ?_⟩) ?_ ?_
      rotate_left
      · intro w'
        go_simp
        with_reducible rfl
      rotate_left
      · simp only [Act.put, List.setIfInBounds_toArray, List.set_cons_zero, List.set_cons_succ]
        rfl
      refine PrintLast.one_ (i := 5) (N := some 22) #[true, true, true, true, true, true, true, false, true, true, true, true, true, false, false] rfl rfl (by kernel_rfl) (by decide) (fun K hK => ?_)
      refine PrintLast.goes_ Try.func28 (by kernel_rfl) rfl #[.pointer (some ⟨p, 0, none⟩), .int .i64 y.f0, .int .i64 y.f1] (by rfl) rfl rfl (by first | rfl | (simp only [List.map_toArray, List.map_cons, List.map_nil]; rfl)) ?_
      refine (hHeld.1.home_c y.f0 y.f1).mono ?_
      rintro e w5 ⟨rfl, rfl⟩
      refine ⟨_, rfl, ?_⟩
      rw [HMV.out]
      refine hK.out _ _ (hHeld) (fun hHeld => ?_)
      clear hK K
      refine PrintLast.norm_ (a' := ?_) ?_ ?_
      rotate_left
      · show Act.put _ (some 22) _ = _
        simp only [Act.put, List.setIfInBounds_toArray, List.set_cons_zero, List.set_cons_succ]
        rfl
      refine PrintLast.pure_ (i := 7) (N := some 24) (v := ?_) (a' := ?_) #[true, true, true, true, true, true, true, true, true, true, true, true, true, false, false] rfl rfl (by kernel_rfl) (fun _ _ _ h => h) (Or.inl ⟨by rfl, ?_⟩) ?_ ?_
      rotate_left
      · intro w'
        go_simp
        with_reducible rfl
      rotate_left
      · simp only [Act.put, List.setIfInBounds_toArray, List.set_cons_zero, List.set_cons_succ]
        rfl
      refine PrintLast.pure_ (i := 13) (N := some 30) (v := ?_) (a' := ?_) #[true, true, true, true, true, true, true, true, true, true, true, true, true, true, false] rfl rfl (by kernel_rfl) (fun _ _ _ h => h) (Or.inl ⟨by rfl, ?_⟩) ?_ ?_
      rotate_left
      · intro w'
        go_simp
        with_reducible rfl
      rotate_left
      · simp only [Act.put, List.setIfInBounds_toArray, List.set_cons_zero, List.set_cons_succ]
        rfl
      refine PrintLast.pure_ (i := 14) (N := some 6) (v := ?_) (a' := ?_) #[true, true, true, true, true, true, true, true, true, true, true, true, true, true, true] rfl rfl (by kernel_rfl) (fun _ _ _ h => h) (Or.inl ⟨by rfl, ?_⟩) ?_ ?_
      rotate_left
      · intro w'
        go_simp
        with_reducible rfl
      rotate_left
      · simp only [Act.put, List.setIfInBounds_toArray, List.set_cons_zero, List.set_cons_succ]
        rfl
      refine PrintLast.done_ (by kernel_rfl) ?_
      clear hji hsum hn1 hn0
      have HS4 := Aside0.mk hHeld
      clear hHeld
      obtain ⟨u, hu⟩ : ∃ u, T.getD j none = u := ⟨_, rfl⟩
      have HGet : Aside0 (T.getD ((hm + k) % T.length) none = u) := ⟨by rw [HJ.out]; exact hu⟩
      have HUU := Aside0.mk hu
      clear hu
      go_wp2_with fail
      refine (HS4.out.1.load_c (j : Int)).mono ?_
      rw [lookT_nat, HUU.out]
      rintro e w5 ⟨hb, hld⟩
      have HS5 := Aside0.mk (HS4.out.below hb)
      have HB5 := Aside0.mk (below_step HB4.out hb)
      clear hb HS4 HB4
      cases u with
      | none =>
        have hld : e = .returned (.tuple #[.agg #[.int .i64 0, .int .i64 0, .slice none 0 0], .bool false]) := hld
        subst hld
        obtain ⟨hpB, hpT⟩ := HPU.out _ (HP.out.free HLT.out HGet.out)
        have HPB := Aside0.mk (And.intro hpB hpT)
        have hba := (Below.refl w5.heap.size w5).alloc (Nat.le_refl _) (.cells #[.int .i64 0, .int .i64 0, .slice none 0 0] 48)
        have HS6 := Aside0.mk (HS5.out.below hba)
        have HB6 := Aside0.mk (below_step HB5.out hba)
        have b0 : (w5.alloc (.cells #[.int .i64 0, .int .i64 0, .slice none 0 0] 48)).cell? ⟨W.heap.size, 0, none⟩ = some (.int .i64 y.f0) := (blk_cell HS6.out.2.2.1 0).trans rfl
        have b1 : (w5.alloc (.cells #[.int .i64 0, .int .i64 0, .slice none 0 0] 48)).cell? ⟨W.heap.size, 1, none⟩ = some (.int .i64 y.f1) := (blk_cell HS6.out.2.2.1 1).trans rfl
        have b2 : (w5.alloc (.cells #[.int .i64 0, .int .i64 0, .slice none 0 0] 48)).cell? ⟨W.heap.size, 2, none⟩ = some (.slice A y.f2.length c) := (blk_cell HS6.out.2.2.1 2).trans rfl
        clear hpB hpT hba HS5 HB5
        go_wp2_with fail
        refine (HS6.out.1.cas_c (j : Int) HS6.out.2.2.2 HN.out).mono ?_
        rintro e w7 ⟨he, hr, hf⟩
        have hcb : casB T (j : Int) = true := by
          unfold casB
          rw [lookT_nat, HUU.out, decide_eq_true (show (0 : Int) ≤ (j : Int) by omega), decide_eq_true (show (j : Int) < (T.length : Int) by have := HJL.out; omega)]
          rfl
        rw [hcb] at he
        subst he
        have HE : Aside0 (RPut W F p T y (.returned (.bool true)) w7) := ⟨by
          refine ⟨by rw [HPB.out.1], ?_, (Fr.of_below HB6.out F).trans hf (fun i hi => Or.inl hi)⟩
          rw [HPB.out.2]
          unfold casT at hr
          rw [hcb, if_pos rfl, Int.toNat_natCast, ← HJ.out] at hr
          exact hr.mono (fun k hk _ => hk.imp id (fun h => Nat.le_trans HB6.out.size h))⟩
        clear hr hf hcb b0 b1 b2
        go_wp2_with fail
        go_ret
        exact HE.out
      | some z =>
        obtain ⟨A1, c1, he, hr1⟩ : ∃ A c, e = .returned (.tuple #[.agg #[.int .i64 z.f0, .int .i64 z.f1, .slice A z.f2.length c], .bool true]) ∧ w5.ownsRow 0 9 1 (.slice A z.f2.length c) z.f2.length (strs z.f2) := hld
        subst he
        have hba := (Below.refl w5.heap.size w5).alloc (Nat.le_refl _) (.cells #[.int .i64 z.f0, .int .i64 z.f1, .slice A1 z.f2.length c1] 48)
        have HS6 := Aside0.mk (HS5.out.below hba)
        have HB6 := Aside0.mk (below_step HB5.out hba)
        have b0 : (w5.alloc (.cells #[.int .i64 z.f0, .int .i64 z.f1, .slice A1 z.f2.length c1] 48)).cell? ⟨W.heap.size, 0, none⟩ = some (.int .i64 y.f0) := (blk_cell HS6.out.2.2.1 0).trans rfl
        have b1 : (w5.alloc (.cells #[.int .i64 z.f0, .int .i64 z.f1, .slice A1 z.f2.length c1] 48)).cell? ⟨W.heap.size, 1, none⟩ = some (.int .i64 y.f1) := (blk_cell HS6.out.2.2.1 1).trans rfl
        clear hba hr1 HS5 HB5
        cases hk : keyed y.f0 y.f1 z with
        | true =>
          obtain ⟨hpB, hpT⟩ := HPU.out _ (HP.out.hit HLT.out HGet.out hk)
          have HE : Aside0 (RPut W F p T y (.returned (.bool false)) (w5.alloc (.cells #[.int .i64 z.f0, .int .i64 z.f1, .slice A1 z.f2.length c1] 48))) := ⟨⟨by rw [hpB], by rw [hpT]; exact (HM.out.stays HB6.out).1, (HM.out.stays HB6.out).2⟩⟩
          obtain ⟨d0, d1⟩ := keyed_true.1 hk
          replace d0 : (z.f0 == y.f0) = true := by simpa using d0
          replace d1 : (z.f1 == y.f1) = true := by simpa using d1
          clear hk hpB hpT
          go_wp2_with fail
          go_ret
          exact HE.out
        | false =>
          have HPN := Aside0.mk (HP.out.step HGet.out hk)
          have hk2 := keyed_false.1 hk
          cases d0 : (z.f0 == y.f0) with
          | false =>
            clear hk hk2
            go_wp2_with fail
            exact ⟨⟨k + 1, by go_num, HLT.out, HPN, HS6, HB6⟩, by have := HLT.out; simp [intOf]; omega⟩
          | true =>
            have d1 : (z.f1 == y.f1) = false := by
              have e0 : z.f0 = y.f0 := by simpa using d0
              simp only [beq_eq_false_iff_ne]
              exact fun e1 => hk2 ⟨e0, e1⟩
            clear hk hk2
            go_wp2_with fail
            exact ⟨⟨k + 1, by go_num, HLT.out, HPN, HS6, HB6⟩, by have := HLT.out; simp [intOf]; omega⟩
    · have g1 : ¬ (k : Int) < (T.length : Int) := by omega
      obtain ⟨hpB, hpT⟩ := HPU.out _ (HP.out.full (by omega))
      have HE : Aside0 (RPut W F p T y (.returned (.bool false)) wr) := ⟨⟨by rw [hpB], by rw [hpT]; exact (HM.out.stays HB.out).1, (HM.out.stays HB.out).2⟩⟩
      clear hlt hk hpB hpT
      go_wp2_with fail
      go_ret
      exact HE.out
end
end Go.Proofs.Ytpgdehelamgbnaa
