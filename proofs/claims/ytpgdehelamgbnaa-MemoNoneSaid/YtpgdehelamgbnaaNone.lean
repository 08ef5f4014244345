/-
  MemoNone: the law's walk.
-/
import Derived.Test.YtpgdehelamgbnaaLives
namespace Go.Proofs.Ytpgdehelamgbnaa
open Go.RowKit Go.Proofs.YtpgdehelamgbnaaW Go.Proofs.YtpgdehelamgbnaaW.PrintWords PMemoActs
set_option linter.unusedVariables false
set_option linter.unusedSimpArgs false
/-- A table that no call made. -/
def Em (w : World) (x : Option Addr) : Prop := Tb w (fun _ => True) x 0 []
section
variable {W w' : World} {x : Option Addr}
theorem Em.below (h : Em W x) (hb : Below W.heap.size W w') : Em w' x := Tb.below h hb
theorem Em.clear_c (h : Em W x) : Calls Try.prog 24 #[.pointer x] W fun e w' => e = .returned (.tuple #[]) ∧ Below W.heap.size W w' :=
  (Ytpgdehelamgbnaa.clear_c (Tb.q_any (q' := W.heap.size) h)).mono fun e w' ⟨he, _, hf⟩ => ⟨he, hf.to_below (Nat.le_refl _) (fun i hi => by rw [hi]; exact Nat.le_refl _)⟩
theorem Em.get_c (h : Em W x) (ep nd : Int) : Calls Try.prog 12 #[.pointer x, .int .i64 ep, .int .i64 nd] W fun e w' => e = .returned (.tuple #[.slice none 0 0, .bool false]) ∧ Below W.heap.size W w' :=
  (Ytpgdehelamgbnaa.get_c h (fun b y hy => by cases hy) ep nd).mono fun e w' ⟨hb, he⟩ => ⟨he, hb⟩
theorem Em.load_c (h : Em W x) (i : Int) : Calls Try.prog 15 #[.pointer x, .int .i64 i] W fun e w' => e = .returned (.tuple #[.agg #[.int .i64 0, .int .i64 0, .slice none 0 0], .bool false]) ∧ Below W.heap.size W w' := by
  have hl : look ([] : List (Option (Nat × S31))) i = none := by
    unfold look
    split <;> rfl
  refine (Ytpgdehelamgbnaa.load_c h (fun b y hy => by cases hy) i).mono fun e w' ⟨hb, he⟩ => ?_
  rw [hl] at he
  exact ⟨he, hb⟩
theorem Em.put_c (h : Em W x) {y : S31} {A : Option Addr} {c : Nat} (hs : Kd.C Kd.string W A y.f2.length y.f2) (hn : y.f2.length ≤ 8796093022200) :
    Calls Try.prog 11 #[.pointer x, .agg #[.int .i64 y.f0, .int .i64 y.f1, .slice A y.f2.length c]] W fun e w' => e = .returned (.bool false) ∧ Below W.heap.size W w' :=
  (Ytpgdehelamgbnaa.put_c h hs hn).mono fun e w' hp => hp
theorem Em.cas_c (h : Em W x) (i : Int) {y : S31} {A : Option Addr} {c : Nat} :
    Calls Try.prog 17 #[.pointer x, .int .i64 i, .agg #[.int .i64 y.f0, .int .i64 y.f1, .slice A y.f2.length c]] W fun e w' => e = .returned (.bool false) ∧ Below W.heap.size W w' :=
  Ytpgdehelamgbnaa.cas_out h i (by rcases Int.lt_or_le i 0 with h | h; exact Or.inl h; exact Or.inr h)
theorem Em.used_c (h : Em W x) : Calls Try.prog 14 #[.pointer x] W fun e w' => e = .returned (.int .i64 0) ∧ Below W.heap.size W w' := Ytpgdehelamgbnaa.used_c h
theorem Em.size_c (h : Em W x) : Calls Try.prog 27 #[.pointer x] W fun e w' => e = .returned (.int .i64 0) ∧ W = w' := Ytpgdehelamgbnaa.size_c h
theorem Em.home_c (h : Em W x) (ep nd : Int) : Calls Try.prog 16 #[.pointer x, .int .i64 ep, .int .i64 nd] W fun e w' => e = .returned (.int .i64 0) ∧ W = w' := Ytpgdehelamgbnaa.home_c h ep nd
theorem Em.nil (w : World) : Em w none := ⟨by simp, (fun b y hy => by cases hy), .inl ⟨rfl, rfl⟩⟩
end
/-- What the law's rounds read: the act's box, and the two tables that no call made. -/
def NoS (W : World) (w : World) (k i : Int) (y : S31) (A : Option Addr) (c : Nat) : Prop :=
  w.heap[W.heap.size]? = some (.cells #[.int .i64 k, .int .i64 i, .int .i64 y.f0, .int .i64 y.f1, .slice A y.f2.length c] 33 (0, 0)) ∧ Em w (some ⟨W.heap.size + 1, 0, none⟩) ∧ Kd.C Kd.string w A y.f2.length y.f2 ∧ Below W.heap.size W w
theorem NoS.below {W w w' : World} {k i : Int} {y : S31} {A : Option Addr} {c : Nat} (h : NoS W w k i y A c) (hb : Below w.heap.size w w') : NoS W w' k i y A c :=
  ⟨(hb.block _ (blk_lt h.1)).trans h.1, h.2.1.below hb, Kd.C_below h.2.2.1 hb, below_step h.2.2.2 hb⟩
theorem NoS.range {W w : World} {k i : Int} {y : S31} {A : Option Addr} {c : Nat} (h : NoS W w k i y A c) : w.rangeAt W.heap.size 2 [.int .i64 y.f0, .int .i64 y.f1, .slice A y.f2.length c] := fun j v hj => by
  rw [blk_cell h.1]
  match j, hj with
  | 0, hj => exact hj
  | 1, hj => exact hj
  | 2, hj => exact hj
  | j + 3, hj => simp at hj
theorem NoS.em {W w : World} {k i : Int} {y : S31} {A : Option Addr} {c : Nat} (h : NoS W w k i y A c) {x : Option Addr} (hx : x = none ∨ x = some ⟨W.heap.size + 1, 0, none⟩) : Em w x := by
  rcases hx with rfl | rfl
  · exact Em.nil w
  · exact h.2.1
set_option maxHeartbeats 2000000 in
set_option maxRecDepth 100000 in
theorem none_w {W : World} (k i : Int) (y : S31) {A : Option Addr} {c : Nat} (hs : Kd.C Kd.string W A y.f2.length y.f2) (hn : y.f2.length ≤ 8796093022200) :
    Calls Try.prog 7 #[.agg #[.int .i64 k, .int .i64 i, .int .i64 y.f0, .int .i64 y.f1, .slice A y.f2.length c]] W fun e w' => e = .returned (.bool true) ∧ Below W.heap.size W w' := by
  have HN := Aside0.mk hn
  have hg := allocs_get [.cells #[.int .i64 k, .int .i64 i, .int .i64 y.f0, .int .i64 y.f1, .slice A y.f2.length c] 33, .cells #[.slice none 0 0, .bool false] 60] W
  have hb := allocs_below [.cells #[.int .i64 k, .int .i64 i, .int .i64 y.f0, .int .i64 y.f1, .slice A y.f2.length c] 33, .cells #[.slice none 0 0, .bool false] 60] W
  have HS : Aside0 (NoS W (allocs W [.cells #[.int .i64 k, .int .i64 i, .int .i64 y.f0, .int .i64 y.f1, .slice A y.f2.length c] 33, .cells #[.slice none 0 0, .bool false] 60]) k i y A c) :=
    ⟨hg 0 (by simp), ⟨by simp, (fun b y hy => by cases hy), .inr ⟨W.heap.size + 1, none, 0, false, rfl, trivial, hg 1 (by simp), fun hn => absurd rfl hn⟩⟩, Kd.C_below hs hb, hb⟩
  change Aside0 (NoS W ((W.alloc (.cells #[.int .i64 k, .int .i64 i, .int .i64 y.f0, .int .i64 y.f1, .slice A y.f2.length c] 33)).alloc (.cells #[.slice none 0 0, .bool false] 60)) k i y A c) at HS
  have hi0 : ∀ w : World, (Instr.index 61 (.agg #[.pointer none, .pointer (some ⟨W.heap.size + 1, 0, none⟩)]) (.int .i64 0)).run Try.prog w = .ok (.pointer none) w := fun _ => by kernel_rfl
  have hi1 : ∀ w : World, (Instr.index 61 (.agg #[.pointer none, .pointer (some ⟨W.heap.size + 1, 0, none⟩)]) (.int .i64 1)).run Try.prog w = .ok (.pointer (some ⟨W.heap.size + 1, 0, none⟩)) w := fun _ => by kernel_rfl
  have HI := Aside0.mk (And.intro hi0 hi1)
  clear hs hn hg hb hi0 hi1
  go_enter Try.func7, Try.ntmps7
  go_wp2_with fail
  go_loopw [11] (fun v wr => ∃ n : Nat, v = .int .i64 n ∧ n ≤ 2 ∧ Aside0 (NoS W wr k i y A c)) (fun v _ => 2 - (intOf v).toNat)
  case atStart => exact ⟨0, rfl, Nat.zero_le _, HS⟩
  case round =>
    obtain ⟨n, rfl, hn, HR⟩ := hrel
    by_cases hlt : n < 2
    · obtain ⟨x, hx, hrun⟩ : ∃ x : Option Addr, (x = none ∨ x = some ⟨W.heap.size + 1, 0, none⟩) ∧ ∀ w : World, (Instr.index 61 (.agg #[.pointer none, .pointer (some ⟨W.heap.size + 1, 0, none⟩)]) (.int .i64 (n : Int))).run Try.prog w = .ok (.pointer x) w := by
        match n, hlt with
        | 0, _ => exact ⟨none, Or.inl rfl, HI.out.1⟩
        | 1, _ => exact ⟨_, Or.inr rfl, HI.out.2⟩
      have HX := Aside0.mk hx
      have HLT := Aside0.mk hlt
      have g1 : (n : Int) < 2 := by omega
      clear hx hlt HS
      go_wp2_with fail
      refine ((HR.out.em HX.out).clear_c).mono ?_
      rintro e w1 ⟨rfl, hb⟩
      have HR1 := Aside0.mk (HR.out.below hb)
      have c2 : w1.cell? ⟨W.heap.size, 2, none⟩ = some (.int .i64 y.f0) := (blk_cell HR1.out.1 2).trans rfl
      have c3 : w1.cell? ⟨W.heap.size, 3, none⟩ = some (.int .i64 y.f1) := (blk_cell HR1.out.1 3).trans rfl
      clear hb HR
      go_wp2_with fail
      refine ((HR1.out.em HX.out).get_c y.f0 y.f1).mono ?_
      rintro e w2 ⟨rfl, hb⟩
      have HR2 := Aside0.mk (HR1.out.below hb)
      have c1 : w2.cell? ⟨W.heap.size, 1, none⟩ = some (.int .i64 i) := (blk_cell HR2.out.1 1).trans rfl
      clear hb HR1 c2 c3
      go_wp2_with fail
      refine ((HR2.out.em HX.out).load_c i).mono ?_
      rintro e w3 ⟨rfl, hb⟩
      have hba := (Below.refl w3.heap.size w3).alloc (Nat.le_refl _) (.cells #[.int .i64 0, .int .i64 0, .slice none 0 0] 31)
      have HR3 := Aside0.mk ((HR2.out.below hb).below hba)
      clear hb hba HR2 c1
      go_upto_region 8 with fail
      change Code.wp Try.prog _ _ _ (w3.alloc (.cells #[.int .i64 0, .int .i64 0, .slice none 0 0] 31))
      generalize w3.alloc (.cells #[.int .i64 0, .int .i64 0, .slice none 0 0] 31) = w4 at *
      refine PrintLast.start_ (n := 35) (S := fun w' => NoS W w' k i y A c) (ds := []) #[false, false, false, false, false, false, false, false, false, false, false, false, false, false, false, false, false, false, false, false, false, false, false, false, false, false, false, false, false, false, false, false, false, false, false] (by kernel_rfl) rfl rfl (HR3.out.below (below_drew (Below.refl _ _))) (fun hHeld => ?_)
      clear HR3
      generalize w4.drew = w5 at *
      refine PrintLast.pure_ (i := 0) (N := some 34) (v := ?_) (a' := ?_) #[true, false, false, false, false, false, false, false, false, false, false, false, false, false, false, false, false, false, false, false, false, false, false, false, false, false, false, false, false, false, false, false, false, false, false] rfl rfl (by kernel_rfl) (fun _ _ _ h => h) (Or.inl ⟨by rfl, ?_⟩) ?_ ?_
      rotate_left
      · intro w'
        go_simp
        with_reducible rfl
      rotate_left
      · simp only [Act.put, List.setIfInBounds_toArray, List.set_cons_zero, List.set_cons_succ]
        rfl
      refine PrintLast.pure_ (i := 1) (N := some 35) (v := ?_) (a' := ?_) #[true, true, false, false, false, false, false, false, false, false, false, false, false, false, false, false, false, false, false, false, false, false, false, false, false, false, false, false, false, false, false, false, false, false, false] rfl rfl (by kernel_rfl) (fun _ _ _ h => h) (Or.inl ⟨by rfl, ?_⟩) ?_ ?_
      rotate_left
      · intro w'
        go_simp
        with_reducible rfl
      rotate_left
      · simp only [Act.put, List.setIfInBounds_toArray, List.set_cons_zero, List.set_cons_succ]
        rfl
      refine PrintLast.pure_ (i := 2) (N := some 36) (v := ?_) (a' := ?_) #[true, true, true, false, false, false, false, false, false, false, false, false, false, false, false, false, false, false, false, false, false, false, false, false, false, false, false, false, false, false, false, false, false, false, false] rfl rfl (by kernel_rfl) (fun _ _ _ h => h) (Or.inl ⟨by rfl, ?_⟩) ?_ ?_
      rotate_left
      · intro w'
        go_simp
        with_reducible rfl
      rotate_left
      · simp only [Act.put, List.setIfInBounds_toArray, List.set_cons_zero, List.set_cons_succ]
        rfl
      refine PrintLast.pure_ (i := 3) (N := some 37) (v := ?_) (a' := ?_) #[true, true, true, true, false, false, false, false, false, false, false, false, false, false, false, false, false, false, false, false, false, false, false, false, false, false, false, false, false, false, false, false, false, false, false] rfl rfl (by kernel_rfl) (fun _ _ _ h => h) (Or.inl ⟨by rfl, ?_⟩) ?_ ?_
      rotate_left
      · intro w'
        go_simp
        with_reducible rfl
      rotate_left
      · simp only [Act.put, List.setIfInBounds_toArray, List.set_cons_zero, List.set_cons_succ]
        rfl
      refine PrintLast.pure_ (i := 4) (N := some 38) (v := ?_) (a' := ?_) #[true, true, true, true, true, false, false, false, false, false, false, false, false, false, false, false, false, false, false, false, false, false, false, false, false, false, false, false, false, false, false, false, false, false, false] rfl rfl (by kernel_rfl) (fun _ _ _ h => h) (Or.inl ⟨by rfl, ?_⟩) ?_ ?_
      rotate_left
      · intro w'
        go_simp
        with_reducible rfl
      rotate_left
      · simp only [Act.put, List.setIfInBounds_toArray, List.set_cons_zero, List.set_cons_succ]
        rfl
      refine PrintLast.pure_ (i := 5) (N := some 39) (v := ?_) (a' := ?_) #[true, true, true, true, true, true, false, false, false, false, false, false, false, false, false, false, false, false, false, false, false, false, false, false, false, false, false, false, false, false, false, false, false, false, false] rfl rfl (by kernel_rfl) (fun _ _ _ h => h) (Or.inl ⟨by rfl, ?_⟩) ?_ ?_
      rotate_left
      · intro w'
        go_simp
        with_reducible rfl
      rotate_left
      · simp only [Act.put, List.setIfInBounds_toArray, List.set_cons_zero, List.set_cons_succ]
        rfl
      refine PrintLast.pure_ (i := 6) (N := some 40) (v := ?_) (a' := ?_) #[true, true, true, true, true, true, true, false, false, false, false, false, false, false, false, false, false, false, false, false, false, false, false, false, false, false, false, false, false, false, false, false, false, false, false] rfl rfl (by kernel_rfl) (fun _ _ _ h => h) (Or.inl ⟨by rfl, ?_⟩) ?_ ?_
      rotate_left
      · intro w'
        go_simp
        with_reducible rfl
      rotate_left
      · simp only [Act.put, List.setIfInBounds_toArray, List.set_cons_zero, List.set_cons_succ]
        rfl
      refine PrintLast.take_ (i := 7) (N := some 41) (v := .agg #[.int .i64 y.f0, .int .i64 y.f1, .slice A y.f2.length c]) (a' := ?_) #[true, true, true, true, true, true, true, true, false, false, false, false, false, false, false, false, false, false, false, false, false, false, false, false, false, false, false, false, false, false, false, false, false, false, false] rfl rfl (by kernel_rfl) (fun _ _ _ h => h) (yieldsIf_load_mid (by rfl) 31 (.tmp 40) rfl W.heap.size 2 rfl [.int .i64 y.f0, .int .i64 y.f1, .slice A y.f2.length c] _ (fun w hS => hS.range) Try.underlying31 rfl size31) hHeld ?_ ?_
      rotate_left
      · simp only [Act.put, List.setIfInBounds_toArray, List.set_cons_zero, List.set_cons_succ]
        rfl
      refine PrintLast.one_ (i := 8) (N := some 42) #[true, true, true, true, true, true, true, true, true, false, false, false, false, false, false, false, false, false, false, false, false, false, false, false, false, false, false, false, false, false, false, false, false, false, false] rfl rfl (by kernel_rfl) (by decide) (fun K hK => ?_)
      refine PrintLast.goes_ Try.func11 (by kernel_rfl) rfl #[.pointer x, .agg #[.int .i64 y.f0, .int .i64 y.f1, .slice A y.f2.length c]] (by rfl) rfl rfl (by first | rfl | (simp only [List.map_toArray, List.map_cons, List.map_nil]; rfl)) ?_
      refine ((hHeld.em HX.out).put_c hHeld.2.2.1 HN.out).mono ?_
      rintro e w5 ⟨rfl, hb⟩
      refine ⟨_, rfl, ?_⟩
      skip
      refine hK.out _ _ (hHeld.below hb) (fun hHeld => ?_)
      clear hK K
      refine PrintLast.norm_ (a' := ?_) ?_ ?_
      rotate_left
      · show Act.put _ (some 42) _ = _
        simp only [Act.put, List.setIfInBounds_toArray, List.set_cons_zero, List.set_cons_succ]
        rfl
      refine PrintLast.pure_ (i := 9) (N := some 43) (v := ?_) (a' := ?_) #[true, true, true, true, true, true, true, true, true, true, false, false, false, false, false, false, false, false, false, false, false, false, false, false, false, false, false, false, false, false, false, false, false, false, false] rfl rfl (by kernel_rfl) (fun _ _ _ h => h) (Or.inl ⟨by rfl, ?_⟩) ?_ ?_
      rotate_left
      · intro w'
        go_simp
        with_reducible rfl
      rotate_left
      · simp only [Act.put, List.setIfInBounds_toArray, List.set_cons_zero, List.set_cons_succ]
        rfl
      refine PrintLast.pure_ (i := 10) (N := some 44) (v := ?_) (a' := ?_) #[true, true, true, true, true, true, true, true, true, true, true, false, false, false, false, false, false, false, false, false, false, false, false, false, false, false, false, false, false, false, false, false, false, false, false] rfl rfl (by kernel_rfl) (fun _ _ _ h => h) (Or.inl ⟨by rfl, ?_⟩) ?_ ?_
      rotate_left
      · intro w'
        go_simp
        with_reducible rfl
      rotate_left
      · simp only [Act.put, List.setIfInBounds_toArray, List.set_cons_zero, List.set_cons_succ]
        rfl
      refine PrintLast.pure_ (i := 11) (N := some 45) (v := ?_) (a' := ?_) #[true, true, true, true, true, true, true, true, true, true, true, true, false, false, false, false, false, false, false, false, false, false, false, false, false, false, false, false, false, false, false, false, false, false, false] rfl rfl (by kernel_rfl) (fun _ _ _ h => h) (Or.inl ⟨by rfl, ?_⟩) ?_ ?_
      rotate_left
      · intro w'
        go_simp
        with_reducible rfl
      rotate_left
      · simp only [Act.put, List.setIfInBounds_toArray, List.set_cons_zero, List.set_cons_succ]
        rfl
      refine PrintLast.pure_ (i := 12) (N := some 46) (v := ?_) (a' := ?_) #[true, true, true, true, true, true, true, true, true, true, true, true, true, false, false, false, false, false, false, false, false, false, false, false, false, false, false, false, false, false, false, false, false, false, false] rfl rfl (by kernel_rfl) (fun _ _ _ h => h) (Or.inl ⟨by rfl, ?_⟩) ?_ ?_
      rotate_left
      · intro w'
        go_simp
        with_reducible rfl
      rotate_left
      · simp only [Act.put, List.setIfInBounds_toArray, List.set_cons_zero, List.set_cons_succ]
        rfl
      refine PrintLast.take_ (i := 13) (N := some 47) (v := .int .i64 i) (a' := ?_) #[true, true, true, true, true, true, true, true, true, true, true, true, true, true, false, false, false, false, false, false, false, false, false, false, false, false, false, false, false, false, false, false, false, false, false] rfl rfl (by kernel_rfl) (fun _ _ _ h => h) (Or.inl ⟨by rfl, ?_⟩) hHeld ?_ ?_
      · intro w' hS
        have hc2 := (blk_cell hS.1 1).trans rfl
        go_simp
      rotate_left
      · simp only [Act.put, List.setIfInBounds_toArray, List.set_cons_zero, List.set_cons_succ]
        rfl
      refine PrintLast.pure_ (i := 14) (N := some 48) (v := ?_) (a' := ?_) #[true, true, true, true, true, true, true, true, true, true, true, true, true, true, true, false, false, false, false, false, false, false, false, false, false, false, false, false, false, false, false, false, false, false, false] rfl rfl (by kernel_rfl) (fun _ _ _ h => h) (Or.inl ⟨by rfl, ?_⟩) ?_ ?_
      rotate_left
      · intro w'
        go_simp
        with_reducible rfl
      rotate_left
      · simp only [Act.put, List.setIfInBounds_toArray, List.set_cons_zero, List.set_cons_succ]
        rfl
      refine PrintLast.take_ (i := 15) (N := some 49) (v := .agg #[.int .i64 y.f0, .int .i64 y.f1, .slice A y.f2.length c]) (a' := ?_) #[true, true, true, true, true, true, true, true, true, true, true, true, true, true, true, true, false, false, false, false, false, false, false, false, false, false, false, false, false, false, false, false, false, false, false] rfl rfl (by kernel_rfl) (fun _ _ _ h => h) (yieldsIf_load_mid (by rfl) 31 (.tmp 48) rfl W.heap.size 2 rfl [.int .i64 y.f0, .int .i64 y.f1, .slice A y.f2.length c] _ (fun w hS => hS.range) Try.underlying31 rfl size31) hHeld ?_ ?_
      rotate_left
      · simp only [Act.put, List.setIfInBounds_toArray, List.set_cons_zero, List.set_cons_succ]
        rfl
      refine PrintLast.one_ (i := 16) (N := some 50) #[true, true, true, true, true, true, true, true, true, true, true, true, true, true, true, true, true, false, false, false, false, false, false, false, false, false, false, false, false, false, false, false, false, false, false] rfl rfl (by kernel_rfl) (by decide) (fun K hK => ?_)
      refine PrintLast.goes_ Try.func17 (by kernel_rfl) rfl #[.pointer x, .int .i64 i, .agg #[.int .i64 y.f0, .int .i64 y.f1, .slice A y.f2.length c]] (by rfl) rfl rfl (by first | rfl | (simp only [List.map_toArray, List.map_cons, List.map_nil]; rfl)) ?_
      refine ((hHeld.em HX.out).cas_c i).mono ?_
      rintro e w5 ⟨rfl, hb⟩
      refine ⟨_, rfl, ?_⟩
      skip
      refine hK.out _ _ (hHeld.below hb) (fun hHeld => ?_)
      clear hK K
      refine PrintLast.norm_ (a' := ?_) ?_ ?_
      rotate_left
      · show Act.put _ (some 50) _ = _
        simp only [Act.put, List.setIfInBounds_toArray, List.set_cons_zero, List.set_cons_succ]
        rfl
      refine PrintLast.pure_ (i := 17) (N := some 51) (v := ?_) (a' := ?_) #[true, true, true, true, true, true, true, true, true, true, true, true, true, true, true, true, true, true, false, false, false, false, false, false, false, false, false, false, false, false, false, false, false, false, false] rfl rfl (by kernel_rfl) (fun _ _ _ h => h) (Or.inl ⟨by rfl, ?_⟩) ?_ ?_
      rotate_left
      · intro w'
        go_simp
        with_reducible rfl
      rotate_left
      · simp only [Act.put, List.setIfInBounds_toArray, List.set_cons_zero, List.set_cons_succ]
        rfl
      refine PrintLast.pure_ (i := 18) (N := some 52) (v := ?_) (a' := ?_) #[true, true, true, true, true, true, true, true, true, true, true, true, true, true, true, true, true, true, true, false, false, false, false, false, false, false, false, false, false, false, false, false, false, false, false] rfl rfl (by kernel_rfl) (fun _ _ _ h => h) (Or.inl ⟨by rfl, ?_⟩) ?_ ?_
      rotate_left
      · intro w'
        go_simp
        with_reducible rfl
      rotate_left
      · simp only [Act.put, List.setIfInBounds_toArray, List.set_cons_zero, List.set_cons_succ]
        rfl
      refine PrintLast.pure_ (i := 19) (N := some 53) (v := ?_) (a' := ?_) #[true, true, true, true, true, true, true, true, true, true, true, true, true, true, true, true, true, true, true, true, false, false, false, false, false, false, false, false, false, false, false, false, false, false, false] rfl rfl (by kernel_rfl) (fun _ _ _ h => h) (Or.inl ⟨by rfl, ?_⟩) ?_ ?_
      rotate_left
      · intro w'
        go_simp
        with_reducible rfl
      rotate_left
      · simp only [Act.put, List.setIfInBounds_toArray, List.set_cons_zero, List.set_cons_succ]
        rfl
      refine PrintLast.pure_ (i := 21) (N := some 55) (v := ?_) (a' := ?_) #[true, true, true, true, true, true, true, true, true, true, true, true, true, true, true, true, true, true, true, true, false, true, false, false, false, false, false, false, false, false, false, false, false, false, false] rfl rfl (by kernel_rfl) (fun _ _ _ h => h) (Or.inl ⟨by rfl, ?_⟩) ?_ ?_
      rotate_left
      · intro w'
        go_simp
        with_reducible rfl
      rotate_left
      · simp only [Act.put, List.setIfInBounds_toArray, List.set_cons_zero, List.set_cons_succ]
        rfl
      refine PrintLast.pure_ (i := 24) (N := some 58) (v := ?_) (a' := ?_) #[true, true, true, true, true, true, true, true, true, true, true, true, true, true, true, true, true, true, true, true, false, true, false, false, true, false, false, false, false, false, false, false, false, false, false] rfl rfl (by kernel_rfl) (fun _ _ _ h => h) (Or.inl ⟨by rfl, ?_⟩) ?_ ?_
      rotate_left
      · intro w'
        go_simp
        with_reducible rfl
      rotate_left
      · simp only [Act.put, List.setIfInBounds_toArray, List.set_cons_zero, List.set_cons_succ]
        rfl
      refine PrintLast.pure_ (i := 25) (N := some 59) (v := ?_) (a' := ?_) #[true, true, true, true, true, true, true, true, true, true, true, true, true, true, true, true, true, true, true, true, false, true, false, false, true, true, false, false, false, false, false, false, false, false, false] rfl rfl (by kernel_rfl) (fun _ _ _ h => h) (Or.inl ⟨by rfl, ?_⟩) ?_ ?_
      rotate_left
      · intro w'
        go_simp
        with_reducible rfl
      rotate_left
      · simp only [Act.put, List.setIfInBounds_toArray, List.set_cons_zero, List.set_cons_succ]
        rfl
      refine PrintLast.pure_ (i := 26) (N := some 60) (v := ?_) (a' := ?_) #[true, true, true, true, true, true, true, true, true, true, true, true, true, true, true, true, true, true, true, true, false, true, false, false, true, true, true, false, false, false, false, false, false, false, false] rfl rfl (by kernel_rfl) (fun _ _ _ h => h) (Or.inl ⟨by rfl, ?_⟩) ?_ ?_
      rotate_left
      · intro w'
        go_simp
        with_reducible rfl
      rotate_left
      · simp only [Act.put, List.setIfInBounds_toArray, List.set_cons_zero, List.set_cons_succ]
        rfl
      refine PrintLast.take_ (i := 27) (N := some 61) (v := .int .i64 y.f0) (a' := ?_) #[true, true, true, true, true, true, true, true, true, true, true, true, true, true, true, true, true, true, true, true, false, true, false, false, true, true, true, true, false, false, false, false, false, false, false] rfl rfl (by kernel_rfl) (fun _ _ _ h => h) (Or.inl ⟨by rfl, ?_⟩) hHeld ?_ ?_
      · intro w' hS
        have hc2 := (blk_cell hS.1 2).trans rfl
        go_simp
      rotate_left
      · simp only [Act.put, List.setIfInBounds_toArray, List.set_cons_zero, List.set_cons_succ]
        rfl
      refine PrintLast.pure_ (i := 28) (N := some 62) (v := ?_) (a' := ?_) #[true, true, true, true, true, true, true, true, true, true, true, true, true, true, true, true, true, true, true, true, false, true, false, false, true, true, true, true, true, false, false, false, false, false, false] rfl rfl (by kernel_rfl) (fun _ _ _ h => h) (Or.inl ⟨by rfl, ?_⟩) ?_ ?_
      rotate_left
      · intro w'
        go_simp
        with_reducible rfl
      rotate_left
      · simp only [Act.put, List.setIfInBounds_toArray, List.set_cons_zero, List.set_cons_succ]
        rfl
      refine PrintLast.pure_ (i := 29) (N := some 63) (v := ?_) (a' := ?_) #[true, true, true, true, true, true, true, true, true, true, true, true, true, true, true, true, true, true, true, true, false, true, false, false, true, true, true, true, true, true, false, false, false, false, false] rfl rfl (by kernel_rfl) (fun _ _ _ h => h) (Or.inl ⟨by rfl, ?_⟩) ?_ ?_
      rotate_left
      · intro w'
        go_simp
        with_reducible rfl
      rotate_left
      · simp only [Act.put, List.setIfInBounds_toArray, List.set_cons_zero, List.set_cons_succ]
        rfl
      refine PrintLast.take_ (i := 30) (N := some 64) (v := .int .i64 y.f1) (a' := ?_) #[true, true, true, true, true, true, true, true, true, true, true, true, true, true, true, true, true, true, true, true, false, true, false, false, true, true, true, true, true, true, true, false, false, false, false] rfl rfl (by kernel_rfl) (fun _ _ _ h => h) (Or.inl ⟨by rfl, ?_⟩) hHeld ?_ ?_
      · intro w' hS
        have hc2 := (blk_cell hS.1 3).trans rfl
        go_simp
      rotate_left
      · simp only [Act.put, List.setIfInBounds_toArray, List.set_cons_zero, List.set_cons_succ]
        rfl
      refine PrintLast.one_ (i := 20) (N := some 54) #[true, true, true, true, true, true, true, true, true, true, true, true, true, true, true, true, true, true, true, true, true, true, false, false, true, true, true, true, true, true, true, false, false, false, false] rfl rfl (by kernel_rfl) (by decide) (fun K hK => ?_)
      refine PrintLast.goes_ Try.func14 (by kernel_rfl) rfl #[.pointer x] (by rfl) rfl rfl (by first | rfl | (simp only [List.map_toArray, List.map_cons, List.map_nil]; rfl)) ?_
      refine ((hHeld.em HX.out).used_c).mono ?_
      rintro e w5 ⟨rfl, hb⟩
      refine ⟨_, rfl, ?_⟩
      skip
      refine hK.out _ _ (hHeld.below hb) (fun hHeld => ?_)
      clear hK K
      refine PrintLast.norm_ (a' := ?_) ?_ ?_
      rotate_left
      · show Act.put _ (some 54) _ = _
        simp only [Act.put, List.setIfInBounds_toArray, List.set_cons_zero, List.set_cons_succ]
        rfl
      refine PrintLast.one_ (i := 22) (N := some 56) #[true, true, true, true, true, true, true, true, true, true, true, true, true, true, true, true, true, true, true, true, true, true, true, false, true, true, true, true, true, true, true, false, false, false, false] rfl rfl (by kernel_rfl) (by decide) (fun K hK => ?_)
      refine PrintLast.goes_ Try.func27 (by kernel_rfl) rfl #[.pointer x] (by rfl) rfl rfl (by first | rfl | (simp only [List.map_toArray, List.map_cons, List.map_nil]; rfl)) ?_
      refine ((hHeld.em HX.out).size_c).mono ?_
      rintro e w5 ⟨rfl, rfl⟩
      refine ⟨_, rfl, ?_⟩
      skip
      refine hK.out _ _ (hHeld) (fun hHeld => ?_)
      clear hK K
      refine PrintLast.norm_ (a' := ?_) ?_ ?_
      rotate_left
      · show Act.put _ (some 56) _ = _
        simp only [Act.put, List.setIfInBounds_toArray, List.set_cons_zero, List.set_cons_succ]
        rfl
      refine PrintLast.pure_ (i := 23) (N := some 57) (v := ?_) (a' := ?_) #[true, true, true, true, true, true, true, true, true, true, true, true, true, true, true, true, true, true, true, true, true, true, true, true, true, true, true, true, true, true, true, false, false, false, false] rfl rfl (by kernel_rfl) (fun _ _ _ h => h) (Or.inl ⟨by rfl, ?_⟩) ?_ ?_
      rotate_left
      · intro w'
        go_simp
        with_reducible rfl
      rotate_left
      · simp only [Act.put, List.setIfInBounds_toArray, List.set_cons_zero, List.set_cons_succ]
        rfl
      refine PrintLast.one_ (i := 31) (N := some 65) #[true, true, true, true, true, true, true, true, true, true, true, true, true, true, true, true, true, true, true, true, true, true, true, true, true, true, true, true, true, true, true, true, false, false, false] rfl rfl (by kernel_rfl) (by decide) (fun K hK => ?_)
      refine PrintLast.goes_ Try.func16 (by kernel_rfl) rfl #[.pointer x, .int .i64 y.f0, .int .i64 y.f1] (by rfl) rfl rfl (by first | rfl | (simp only [List.map_toArray, List.map_cons, List.map_nil]; rfl)) ?_
      refine ((hHeld.em HX.out).home_c y.f0 y.f1).mono ?_
      rintro e w5 ⟨rfl, rfl⟩
      refine ⟨_, rfl, ?_⟩
      skip
      refine hK.out _ _ (hHeld) (fun hHeld => ?_)
      clear hK K
      refine PrintLast.norm_ (a' := ?_) ?_ ?_
      rotate_left
      · show Act.put _ (some 65) _ = _
        simp only [Act.put, List.setIfInBounds_toArray, List.set_cons_zero, List.set_cons_succ]
        rfl
      refine PrintLast.pure_ (i := 32) (N := some 66) (v := ?_) (a' := ?_) #[true, true, true, true, true, true, true, true, true, true, true, true, true, true, true, true, true, true, true, true, true, true, true, true, true, true, true, true, true, true, true, true, true, false, false] rfl rfl (by kernel_rfl) (fun _ _ _ h => h) (Or.inl ⟨by rfl, ?_⟩) ?_ ?_
      rotate_left
      · intro w'
        go_simp
        with_reducible rfl
      rotate_left
      · simp only [Act.put, List.setIfInBounds_toArray, List.set_cons_zero, List.set_cons_succ]
        rfl
      refine PrintLast.pure_ (i := 33) (N := some 67) (v := ?_) (a' := ?_) #[true, true, true, true, true, true, true, true, true, true, true, true, true, true, true, true, true, true, true, true, true, true, true, true, true, true, true, true, true, true, true, true, true, true, false] rfl rfl (by kernel_rfl) (fun _ _ _ h => h) (Or.inl ⟨by rfl, ?_⟩) ?_ ?_
      rotate_left
      · intro w'
        go_simp
        with_reducible rfl
      rotate_left
      · simp only [Act.put, List.setIfInBounds_toArray, List.set_cons_zero, List.set_cons_succ]
        rfl
      refine PrintLast.pure_ (i := 34) (N := some 68) (v := ?_) (a' := ?_) #[true, true, true, true, true, true, true, true, true, true, true, true, true, true, true, true, true, true, true, true, true, true, true, true, true, true, true, true, true, true, true, true, true, true, true] rfl rfl (by kernel_rfl) (fun _ _ _ h => h) (Or.inl ⟨by rfl, ?_⟩) ?_ ?_
      rotate_left
      · intro w'
        go_simp
        with_reducible rfl
      rotate_left
      · simp only [Act.put, List.setIfInBounds_toArray, List.set_cons_zero, List.set_cons_succ]
        rfl
      refine PrintLast.done_ (by kernel_rfl) ?_
      have HR5 := Aside0.mk hHeld
      clear hHeld
      go_wp2_with fail
      exact ⟨⟨n + 1, by go_num, HLT.out, HR5⟩, by have := HLT.out; simp [intOf]; omega⟩
    · have g1 : ¬ (n : Int) < 2 := by omega
      clear hlt hn
      go_wp2_with fail
      refine (lives_c).mono ?_
      rintro e w6 ⟨rfl, hb⟩
      have HB6 := Aside0.mk (below_step HR.out.2.2.2 hb)
      clear hb
      go_wp2_with fail
      go_ret
      exact ⟨rfl, HB6.out⟩
end Go.Proofs.Ytpgdehelamgbnaa
