/-
  The document's Get.
-/
import Derived.Test.YtpgdehelamgbnaaRefD
namespace Go.Proofs.Ytpgdehelamgbnaa
open Go.RowKit Go.Proofs.YtpgdehelamgbnaaW Go.Proofs.YtpgdehelamgbnaaW.PrintWords PMemoActs
set_option linter.unusedVariables false
set_option linter.unusedSimpArgs false
/-- The first k cells from h on are others'. -/
def PassK (T : List (Option S31)) (h : Nat) (ep nd : Int) (k : Nat) : Prop := ∀ j, j < k → j < T.length → passes ep nd ((h + j) % T.length, T.getD ((h + j) % T.length) none)
theorem PassK.step {T : List (Option S31)} {h : Nat} {ep nd : Int} {k : Nat} (hp : PassK T h ep nd k) {y : S31} (hy : T.getD ((h + k) % T.length) none = some y) (hk : keyed ep nd y = false) : PassK T h ep nd (k + 1) := fun j hj hl => by
  rcases Nat.lt_or_ge j k with h1 | h1
  · exact hp j h1 hl
  · have : j = k := by omega
    subst this
    exact ⟨y, hy, hk⟩
theorem PassK.free {T : List (Option S31)} {h : Nat} {ep nd : Int} {k : Nat} (hp : PassK T h ep nd k) (hk : k < T.length) (hy : T.getD ((h + k) % T.length) none = none) : scan ep nd (line T h) = .free ((h + k) % T.length) := by
  have := scan_free_at (ep := ep) (nd := nd) k (line T h) (by rw [line_length]; exact hk) (fun j hj => by rw [line_at T h j (by omega)]; exact hp j hj (by omega)) (by rw [line_at T h k hk]; exact hy)
  rw [this, line_at T h k hk]
theorem PassK.hit {T : List (Option S31)} {h : Nat} {ep nd : Int} {k : Nat} (hp : PassK T h ep nd k) (hk : k < T.length) {y : S31} (hy : T.getD ((h + k) % T.length) none = some y) (hd : keyed ep nd y = true) : scan ep nd (line T h) = .hit ((h + k) % T.length) y := by
  have := scan_hit_at (ep := ep) (nd := nd) k (line T h) (by rw [line_length]; exact hk) y (fun j hj => by rw [line_at T h j (by omega)]; exact hp j hj (by omega)) (by rw [line_at T h k hk]; exact hy) hd
  rw [this, line_at T h k hk]
theorem PassK.full {T : List (Option S31)} {h : Nat} {ep nd : Int} {k : Nat} (hp : PassK T h ep nd k) (hk : T.length ≤ k) : scan ep nd (line T h) = .full := by
  refine scan_full_all _ (fun c hc => ?_)
  obtain ⟨j, hj, rfl⟩ := List.getElem_of_mem hc
  rw [line_length] at hj
  rw [line_at T h j hj]
  exact hp j (by omega) hj
theorem lookT_nat (T : List (Option S31)) (j : Nat) : lookT T (j : Int) = T.getD j none := by
  unfold lookT
  rw [if_neg (by omega), Int.toNat_natCast]
/-- What the document's Load has left in a box. -/
def GotR (W : World) (u : Option S31) (b : Nat) (w : World) : Prop := Below W.heap.size W w ∧
  match u with
  | none => w.heap[b]? = some (.cells #[.int .i64 0, .int .i64 0, .slice none 0 0] 48 (0, 0))
  | some y => ∃ A c, w.heap[b]? = some (.cells #[.int .i64 y.f0, .int .i64 y.f1, .slice A y.f2.length c] 48 (0, 0)) ∧ w.ownsRow 0 9 1 (.slice A y.f2.length c) y.f2.length (strs y.f2)
/-- What the document's Get tells. -/
def RGet (W : World) (u : Option S31) (e : Ending) (w' : World) : Prop := Below W.heap.size W w' ∧
  match u with
  | none => e = .returned (.tuple #[.slice none 0 0, .bool false])
  | some y => ∃ A c, e = .returned (.tuple #[.slice A y.f2.length c, .bool true]) ∧ y.f2.length ≤ c ∧ Kd.C Kd.string w' A y.f2.length y.f2
theorem set3z {w : World} {g : Nat} {x y z : Value} {t : TypeId} {cs : Array Value} (h : w.heap[g]? = some (.cells cs t (0, 0))) (hs : cs.size = 3) : (w.setCells g 0 [x, y, z]).heap[g]? = some (.cells #[x, y, z] t (0, 0)) := by
  have := blk_set (blk_set (blk_set h 0 x) 1 y) 2 z
  obtain ⟨l⟩ := cs
  match l, hs with
  | [a, b, c], _ => simpa [World.setCells] using this
theorem Rm.blk {W : World} {F : Nat → Prop} {p : Nat} {T : List (Option S31)} (h : Rm W F p T) : ∃ A c, W.heap[p]? = some (.cells #[.slice A T.length c] 56 (0, 0)) := by
  obtain ⟨g, cap, X, rfl, h⟩ := h
  rw [absR_length]
  exact ⟨_, _, h.2.2.2.1⟩
theorem rs_below {w w' : World} {F : Nat → Prop} {p : Nat} {T : List (Option S31)} {cs : Array Value} (h : Rm w F p T ∧ w.heap[p]? = some (.cells cs 56 (0, 0))) (hb : Below w.heap.size w w') : Rm w' F p T ∧ w'.heap[p]? = some (.cells cs 56 (0, 0)) := ⟨h.1.below hb, (hb.block p (blk_lt h.2)).trans h.2⟩
section
variable {W : World} {F : Nat → Prop} {p : Nat} {T : List (Option S31)}
set_option maxHeartbeats 4000000 in
set_option maxRecDepth 100000 in
theorem Rm.get_c (h : Rm W F p T) (ep nd : Int) : Calls Try.prog 20 #[.pointer (some ⟨p, 0, none⟩), .int .i64 ep, .int .i64 nd] W (RGet W (getT T ep nd)) := by
  have hl : (T.length : Int) ≤ 65536 := by have := h.len; omega
  have HH : Aside0 (homeN T.length ep nd < T.length ∨ T.length = 0) := ⟨(homeN_spec T.length ep nd h.len).2⟩
  obtain ⟨A0, c0, hpb⟩ := h.blk
  have hc : W.cell? ⟨p, 0, none⟩ = some (.slice A0 T.length c0) := (blk_cell hpb 0).trans rfl
  have HM : Aside0 (Rm W F p T ∧ W.heap[p]? = some (.cells #[.slice A0 T.length c0] 56 (0, 0))) := ⟨h, hpb⟩
  clear h hpb
  have HGT : Aside0 (∀ r, scan ep nd (line T (homeN T.length ep nd)) = r → getT T ep nd = match r with | .hit _ y => some y | _ => none) := ⟨fun r hr => by unfold getT; rw [hr]; cases r <;> rfl⟩
  generalize getT T ep nd = gt at *
  obtain ⟨hm, hmv⟩ : ∃ hm, homeN T.length ep nd = hm := ⟨_, rfl⟩
  rw [hmv] at HH HGT
  have HMV := Aside0.mk hmv
  clear hmv
  go_enter Try.func20, Try.ntmps20
  go_wp2_with fail
  clear hc
  go_loopw [16] (fun v wr => ∃ k : Nat, v = .int .i64 k ∧ k ≤ T.length ∧ Aside0 (PassK T hm ep nd k) ∧ Aside0 (Below W.heap.size W wr)) (fun v _ => T.length - (intOf v).toNat)
  case atStart => exact ⟨0, rfl, Nat.zero_le _, ⟨fun j hj => by omega⟩, ⟨Below.refl _ _⟩⟩
  case round =>
    obtain ⟨k, rfl, hk, HP, HB⟩ := hrel
    by_cases hlt : k < T.length
    · have g1 : (k : Int) < (T.length : Int) := by omega
      have hhl : hm < T.length := by rcases HH.out with h1 | h1 <;> omega
      have g2 : (hm : Int) ≤ 65536 := by omega
      obtain ⟨j, hj⟩ : ∃ j : Nat, (hm + k) % T.length = j := ⟨_, rfl⟩
      have hji : ((hm : Int) + (k : Int)).tmod (T.length : Int) = (j : Int) := by rw [Int.tmod_eq_emod_of_nonneg (by omega), ← hj]; push_cast; rfl
      have hn0 : ¬ T = [] := by rintro rfl; simp at hlt
      have HJ := Aside0.mk hj
      have HLT := Aside0.mk hlt
      have HMr := Aside0.mk (rs_below HM.out HB.out)
      have hsum : IntKind.i64.wrap ((hm : Int) + (k : Int)) = (hm : Int) + (k : Int) := IntWalk.i64_in _ (by omega)
      have hn1 : ¬ (T.length : Int) = 0 := by omega
      clear hj hlt hk
      go_upto_region 4 with fail
      obtain ⟨u, hu⟩ : ∃ u, T.getD j none = u := ⟨_, rfl⟩
      have HUU := Aside0.mk hu
      clear hu
      go_cut [9, 10] from 19 to 35 (fun v9 v10 wc => ∃ (b : Nat) (ok : Bool), v9 = .pointer (some ⟨b, 0, none⟩) ∧ v10 = .bool ok ∧ Aside0 (GotR W u b wc ∧ ok = u.isSome))
      case first =>
        refine PrintLast.start_ (n := 20) (S := fun w' => Rm w' F p T ∧ w'.heap[p]? = some (.cells #[.slice A0 T.length c0] 56 (0, 0))) (ds := [18]) #[false, false, false, false, false, false, false, false, false, false, false, false, false, false, false, false, false, false, false, false] (by kernel_rfl) rfl rfl (rs_below HMr.out (below_drew (Below.refl _ _))) (fun hHeld => ?_)
        have HB4 := Aside0.mk (below_drew HB.out)
        clear HMr HB
        generalize wr.drew = w4 at *
        refine PrintLast.pure_ (i := 0) (N := some 20) (v := ?_) (a' := ?_) #[true, false, false, false, false, false, false, false, false, false, false, false, false, false, false, false, false, false, false, false] rfl rfl (by kernel_rfl) (fun _ _ _ h => h) (Or.inl ⟨by rfl, ?_⟩) ?_ ?_
        rotate_left
        · intro w'
          go_simp
          with_reducible rfl
        rotate_left
        · simp only [Act.put, List.setIfInBounds_toArray, List.set_cons_zero, List.set_cons_succ]
          rfl
        refine PrintLast.pure_ (i := 1) (N := some 21) (v := ?_) (a' := ?_) #[true, true, false, false, false, false, false, false, false, false, false, false, false, false, false, false, false, false, false, false] rfl rfl (by kernel_rfl) (fun _ _ _ h => h) (Or.inl ⟨by rfl, ?_⟩) ?_ ?_
        rotate_left
        · intro w'
          go_simp
          with_reducible rfl
        rotate_left
        · simp only [Act.put, List.setIfInBounds_toArray, List.set_cons_zero, List.set_cons_succ]
          rfl
        refine PrintLast.pure_ (i := 2) (N := some 22) (v := ?_) (a' := ?_) #[true, true, true, false, false, false, false, false, false, false, false, false, false, false, false, false, false, false, false, false] rfl rfl (by kernel_rfl) (fun _ _ _ h => h) (Or.inl ⟨by rfl, ?_⟩) ?_ ?_
        rotate_left
        · intro w'
          go_simp
          with_reducible rfl
        rotate_left
        · simp only [Act.put, List.setIfInBounds_toArray, List.set_cons_zero, List.set_cons_succ]
          rfl
        refine PrintLast.pure_ (i := 3) (N := some 23) (v := ?_) (a' := ?_) #[true, true, true, true, false, false, false, false, false, false, false, false, false, false, false, false, false, false, false, false] rfl rfl (by kernel_rfl) (fun _ _ _ h => h) (Or.inl ⟨by rfl, ?_⟩) ?_ ?_
        rotate_left
        · intro w'
          go_simp
          with_reducible rfl
        rotate_left
        · simp only [Act.put, List.setIfInBounds_toArray, List.set_cons_zero, List.set_cons_succ]
          rfl
        refine PrintLast.pure_ (i := 5) (N := some 25) (v := ?_) (a' := ?_) #[true, true, true, true, false, true, false, false, false, false, false, false, false, false, false, false, false, false, false, false] rfl rfl (by kernel_rfl) (fun _ _ _ h => h) (Or.inl ⟨by rfl, ?_⟩) ?_ ?_
        rotate_left
        · intro w'
          go_simp
          with_reducible rfl
        rotate_left
        · simp only [Act.put, List.setIfInBounds_toArray, List.set_cons_zero, List.set_cons_succ]
          rfl
        refine PrintLast.pure_ (i := 7) (N := some 27) (v := ?_) (a' := ?_) #[true, true, true, true, false, true, false, true, false, false, false, false, false, false, false, false, false, false, false, false] rfl rfl (by kernel_rfl) (fun _ _ _ h => h) (Or.inl ⟨by rfl, ?_⟩) ?_ ?_
        rotate_left
        · intro w'
          go_simp
          with_reducible rfl
        rotate_left
        · simp only [Act.put, List.setIfInBounds_toArray, List.set_cons_zero, List.set_cons_succ]
          rfl
        refine PrintLast.pure_ (i := 8) (N := some 28) (v := ?_) (a' := ?_) #[true, true, true, true, false, true, false, true, true, false, false, false, false, false, false, false, false, false, false, false] rfl rfl (by kernel_rfl) (fun _ _ _ h => h) (Or.inl ⟨by rfl, ?_⟩) ?_ ?_
        rotate_left
        · intro w'
          go_simp
          with_reducible rfl
        rotate_left
        · simp only [Act.put, List.setIfInBounds_toArray, List.set_cons_zero, List.set_cons_succ]
          rfl
        refine PrintLast.pure_ (i := 9) (N := some 29) (v := ?_) (a' := ?_) #[true, true, true, true, false, true, false, true, true, true, false, false, false, false, false, false, false, false, false, false] rfl rfl (by kernel_rfl) (fun _ _ _ h => h) (Or.inl ⟨by rfl, ?_⟩) ?_ ?_
        rotate_left
        · intro w'
          go_simp
          with_reducible rfl
        rotate_left
        · simp only [Act.put, List.setIfInBounds_toArray, List.set_cons_zero, List.set_cons_succ]
          rfl
        refine PrintLast.take_ (i := 10) (N := some 30) (v := .slice A0 T.length c0) (a' := ?_) #[true, true, true, true, false, true, false, true, true, true, true, false, false, false, false, false, false, false, false, false] rfl rfl (by kernel_rfl) (fun _ _ _ h => h) (Or.inl ⟨by rfl, ?_⟩) hHeld ?_ ?_
        · intro w' hS
          have hc2 := (blk_cell hS.2 0).trans rfl
          go_simp
        rotate_left
        · simp only [Act.put, List.setIfInBounds_toArray, List.set_cons_zero, List.set_cons_succ]
          rfl
        refine PrintLast.pure_ (i := 11) (N := some 31) (v := ?_) (a' := ?_) #[true, true, true, true, false, true, false, true, true, true, true, true, false, false, false, false, false, false, false, false] rfl rfl (by kernel_rfl) (fun _ _ _ h => h) (Or.inl ⟨by rfl, ?_⟩) ?_ ?_
        rotate_left
        · intro w'
          go_simp
          with_reducible rfl
        rotate_left
        · simp only [Act.put, List.setIfInBounds_toArray, List.set_cons_zero, List.set_cons_succ]
          rfl
        refine PrintLast.two_ (i := 4) (j := 17) (Ni := some 24) (Nj := some 9) #[true, true, true, true, true, true, false, true, true, true, true, true, false, false, false, false, false, false, false, false] #[true, true, true, true, false, true, false, true, true, true, true, true, false, false, false, false, false, true, false, false] rfl rfl rfl rfl (by kernel_rfl) (by decide) (by decide) (fun K hK => ?_) (fun K hK => ?_)
        · refine PrintLast.goes_ Try.func28 (by kernel_rfl) rfl #[.pointer (some ⟨p, 0, none⟩), .int .i64 ep, .int .i64 nd] (by rfl) rfl rfl (by first | rfl | (simp only [List.map_toArray, List.map_cons, List.map_nil]; rfl)) ?_
          refine (hHeld.1.home_c ep nd).mono ?_
          rintro e w5 ⟨rfl, rfl⟩
          refine ⟨_, rfl, ?_⟩
          rw [HMV.out]
          refine hK.out _ _ hHeld (fun hHeld => ?_)
          clear hK K
          refine PrintLast.norm_ (a' := ?_) ?_ ?_
          rotate_left
          · show Act.put _ (some 24) _ = _
            simp only [Act.put, List.setIfInBounds_toArray, List.set_cons_zero, List.set_cons_succ]
            rfl
          refine PrintLast.pure_ (i := 6) (N := some 26) (v := ?_) (a' := ?_) #[true, true, true, true, true, true, true, true, true, true, true, true, false, false, false, false, false, false, false, false] rfl rfl (by kernel_rfl) (fun _ _ _ h => h) (Or.inl ⟨by rfl, ?_⟩) ?_ ?_
          rotate_left
          · intro w'
            go_simp
            with_reducible rfl
          rotate_left
          · simp only [Act.put, List.setIfInBounds_toArray, List.set_cons_zero, List.set_cons_succ]
            rfl
          refine PrintLast.pure_ (i := 12) (N := some 32) (v := ?_) (a' := ?_) #[true, true, true, true, true, true, true, true, true, true, true, true, true, false, false, false, false, false, false, false] rfl rfl (by kernel_rfl) (fun _ _ _ h => h) (Or.inl ⟨by rfl, ?_⟩) ?_ ?_
          rotate_left
          · intro w'
            go_simp
            with_reducible rfl
          rotate_left
          · simp only [Act.put, List.setIfInBounds_toArray, List.set_cons_zero, List.set_cons_succ]
            rfl
          refine PrintLast.two_ (i := 13) (j := 17) (Ni := some 33) (Nj := some 9) #[true, true, true, true, true, true, true, true, true, true, true, true, true, true, false, false, false, false, false, false] #[true, true, true, true, true, true, true, true, true, true, true, true, true, false, false, false, false, true, false, false] rfl rfl rfl rfl (by kernel_rfl) (by decide) (by decide) (fun K hK => ?_) (fun K hK => ?_)
          · refine PrintLast.goes_ Try.func22 (by kernel_rfl) rfl #[.pointer (some ⟨p, 0, none⟩), .int .i64 (j : Int)] (by rfl) rfl rfl (by first | rfl | (simp only [List.map_toArray, List.map_cons, List.map_nil]; rfl)) ?_
            refine (hHeld.1.load_c (j : Int)).mono ?_
            rw [lookT_nat, HUU.out]
            rintro e w5 ⟨hb, hld⟩
            cases u with
            | none =>
              have hld : e = .returned (.tuple #[.agg #[.int .i64 0, .int .i64 0, .slice none 0 0], .bool false]) := hld
              subst hld
              refine ⟨_, rfl, ?_⟩
              refine hK.out _ _ (rs_below hHeld hb) (fun hHeld => ?_)
              clear hK K
              refine PrintLast.norm_ (a' := ?_) ?_ ?_
              rotate_left
              · show Act.put _ (some 33) _ = _
                simp only [Act.put, List.setIfInBounds_toArray, List.set_cons_zero, List.set_cons_succ]
                rfl
              refine PrintLast.pure_ (i := 14) (N := some 19) (v := ?_) (a' := ?_) #[true, true, true, true, true, true, true, true, true, true, true, true, true, true, true, false, false, false, false, false] rfl rfl (by kernel_rfl) (fun _ _ _ h => h) (Or.inl ⟨by rfl, ?_⟩) ?_ ?_
              rotate_left
              · intro w'
                go_simp
                with_reducible rfl
              rotate_left
              · simp only [Act.put, List.setIfInBounds_toArray, List.set_cons_zero, List.set_cons_succ]
                rfl
              refine PrintLast.pure_ (i := 15) (N := some 34) (v := ?_) (a' := ?_) #[true, true, true, true, true, true, true, true, true, true, true, true, true, true, true, true, false, false, false, false] rfl rfl (by kernel_rfl) (fun _ _ _ h => h) (Or.inl ⟨by rfl, ?_⟩) ?_ ?_
              rotate_left
              · intro w'
                go_simp
                with_reducible rfl
              rotate_left
              · simp only [Act.put, List.setIfInBounds_toArray, List.set_cons_zero, List.set_cons_succ]
                rfl
              refine PrintLast.pure_ (i := 16) (N := some 35) (v := ?_) (a' := ?_) #[true, true, true, true, true, true, true, true, true, true, true, true, true, true, true, true, true, false, false, false] rfl rfl (by kernel_rfl) (fun _ _ _ h => h) (Or.inl ⟨by rfl, ?_⟩) ?_ ?_
              rotate_left
              · intro w'
                go_simp
                with_reducible rfl
              rotate_left
              · simp only [Act.put, List.setIfInBounds_toArray, List.set_cons_zero, List.set_cons_succ]
                rfl
              refine PrintLast.one_ (i := 17) (N := some 9) #[true, true, true, true, true, true, true, true, true, true, true, true, true, true, true, true, true, true, false, false] rfl rfl (by kernel_rfl) (by decide) (fun K hK => ?_)
              rw [if_pos (by rfl)]
              go_simp
              refine hK.out _ _ (rs_below hHeld ((Below.refl _ _).alloc (Nat.le_refl _) _)) (fun hHeld => ?_)
              clear hK K
              refine PrintLast.last_ (i := 18) (N := none) #[true, true, true, true, true, true, true, true, true, true, true, true, true, true, true, true, true, true, true, false] rfl rfl (by kernel_rfl) (by decide) (fun K hK => ?_)
              rw [if_pos (by rfl)]
              refine store_none 48 _ _ rfl rfl w5.heap.size 0 [.int .i64 0, .int .i64 0, .slice none 0 0] rfl rfl (there_of (heap_alloc_new w5 (.cells #[.int .i64 0, .int .i64 0, .slice none 0 0] 48)) rfl) size48 (by intro v hv; simp at hv; rcases hv with rfl | rfl | rfl <;> rfl) ?_
              refine hK.out _ _ ?_
              clear hK K
              refine PrintLast.pure_ (i := 19) (N := some 10) (v := ?_) (a' := ?_) #[true, true, true, true, true, true, true, true, true, true, true, true, true, true, true, true, true, true, true, true] rfl rfl (by kernel_rfl) (fun _ _ _ h => h) (Or.inl ⟨by rfl, ?_⟩) ?_ ?_
              rotate_left
              · intro w'
                go_simp
                with_reducible rfl
              rotate_left
              · simp only [Act.put, List.setIfInBounds_toArray, List.set_cons_zero, List.set_cons_succ]
                rfl
              refine PrintLast.done_ (by kernel_rfl) ?_
              go_wp2_with fail
              go_meet
              have hbl : Below W.heap.size W ((w5.alloc (.cells #[.int .i64 0, .int .i64 0, .slice none 0 0] 48)).setCells w5.heap.size 0 [.int .i64 0, .int .i64 0, .slice none 0 0]) := (setCells_fr (W0 := W) (S := fun _ => False) (g := w5.heap.size) (Or.inr (by have := HB4.out.size; have := hb.size; simp at *; omega)) _ 0 (Fr.of_below ((below_step HB4.out hb).alloc (below_step HB4.out hb).size _) _)).to_below (Nat.le_refl _) (fun _ hk => hk.elim)
              exact ⟨_, _, rfl, rfl, ⟨⟨⟨hbl, set3 (heap_alloc_new w5 (.cells #[.int .i64 0, .int .i64 0, .slice none 0 0] 48))⟩, rfl⟩⟩⟩
            | some y =>
              obtain ⟨A1, c1, he, hr1⟩ : ∃ A c, e = .returned (.tuple #[.agg #[.int .i64 y.f0, .int .i64 y.f1, .slice A y.f2.length c], .bool true]) ∧ w5.ownsRow 0 9 1 (.slice A y.f2.length c) y.f2.length (strs y.f2) := hld
              subst he
              refine ⟨_, rfl, ?_⟩
              refine hK.out _ _ (rs_below hHeld hb) (fun hHeld => ?_)
              clear hK K
              refine PrintLast.norm_ (a' := ?_) ?_ ?_
              rotate_left
              · show Act.put _ (some 33) _ = _
                simp only [Act.put, List.setIfInBounds_toArray, List.set_cons_zero, List.set_cons_succ]
                rfl
              refine PrintLast.pure_ (i := 14) (N := some 19) (v := ?_) (a' := ?_) #[true, true, true, true, true, true, true, true, true, true, true, true, true, true, true, false, false, false, false, false] rfl rfl (by kernel_rfl) (fun _ _ _ h => h) (Or.inl ⟨by rfl, ?_⟩) ?_ ?_
              rotate_left
              · intro w'
                go_simp
                with_reducible rfl
              rotate_left
              · simp only [Act.put, List.setIfInBounds_toArray, List.set_cons_zero, List.set_cons_succ]
                rfl
              refine PrintLast.pure_ (i := 15) (N := some 34) (v := ?_) (a' := ?_) #[true, true, true, true, true, true, true, true, true, true, true, true, true, true, true, true, false, false, false, false] rfl rfl (by kernel_rfl) (fun _ _ _ h => h) (Or.inl ⟨by rfl, ?_⟩) ?_ ?_
              rotate_left
              · intro w'
                go_simp
                with_reducible rfl
              rotate_left
              · simp only [Act.put, List.setIfInBounds_toArray, List.set_cons_zero, List.set_cons_succ]
                rfl
              refine PrintLast.pure_ (i := 16) (N := some 35) (v := ?_) (a' := ?_) #[true, true, true, true, true, true, true, true, true, true, true, true, true, true, true, true, true, false, false, false] rfl rfl (by kernel_rfl) (fun _ _ _ h => h) (Or.inl ⟨by rfl, ?_⟩) ?_ ?_
              rotate_left
              · intro w'
                go_simp
                with_reducible rfl
              rotate_left
              · simp only [Act.put, List.setIfInBounds_toArray, List.set_cons_zero, List.set_cons_succ]
                rfl
              refine PrintLast.one_ (i := 17) (N := some 9) #[true, true, true, true, true, true, true, true, true, true, true, true, true, true, true, true, true, true, false, false] rfl rfl (by kernel_rfl) (by decide) (fun K hK => ?_)
              rw [if_pos (by rfl)]
              go_simp
              refine hK.out _ _ (rs_below hHeld ((Below.refl _ _).alloc (Nat.le_refl _) _)) (fun hHeld => ?_)
              clear hK K
              refine PrintLast.last_ (i := 18) (N := none) #[true, true, true, true, true, true, true, true, true, true, true, true, true, true, true, true, true, true, true, false] rfl rfl (by kernel_rfl) (by decide) (fun K hK => ?_)
              rw [if_pos (by rfl)]
              refine store_none 48 _ _ rfl rfl w5.heap.size 0 [.int .i64 y.f0, .int .i64 y.f1, .slice A1 y.f2.length c1] rfl rfl (there_of (heap_alloc_new w5 (.cells #[.int .i64 0, .int .i64 0, .slice none 0 0] 48)) rfl) size48 (by intro v hv; simp at hv; rcases hv with rfl | rfl | rfl <;> rfl) ?_
              refine hK.out _ _ ?_
              clear hK K
              refine PrintLast.pure_ (i := 19) (N := some 10) (v := ?_) (a' := ?_) #[true, true, true, true, true, true, true, true, true, true, true, true, true, true, true, true, true, true, true, true] rfl rfl (by kernel_rfl) (fun _ _ _ h => h) (Or.inl ⟨by rfl, ?_⟩) ?_ ?_
              rotate_left
              · intro w'
                go_simp
                with_reducible rfl
              rotate_left
              · simp only [Act.put, List.setIfInBounds_toArray, List.set_cons_zero, List.set_cons_succ]
                rfl
              refine PrintLast.done_ (by kernel_rfl) ?_
              go_wp2_with fail
              go_meet
              have hbl : Below W.heap.size W ((w5.alloc (.cells #[.int .i64 0, .int .i64 0, .slice none 0 0] 48)).setCells w5.heap.size 0 [.int .i64 y.f0, .int .i64 y.f1, .slice A1 y.f2.length c1]) := (setCells_fr (W0 := W) (S := fun _ => False) (g := w5.heap.size) (Or.inr (by have := HB4.out.size; have := hb.size; simp at *; omega)) _ 0 (Fr.of_below ((below_step HB4.out hb).alloc (below_step HB4.out hb).size _) _)).to_below (Nat.le_refl _) (fun _ hk => hk.elim)
              exact ⟨_, _, rfl, rfl, ⟨⟨⟨hbl, A1, c1, set3 (heap_alloc_new w5 (.cells #[.int .i64 0, .int .i64 0, .slice none 0 0] 48)), own_setCells _ _ (hr1.alloc _) (own_ne (hr1.alloc _) (heap_alloc_new w5 (.cells #[.int .i64 0, .int .i64 0, .slice none 0 0] 48)) (by decide))⟩, rfl⟩⟩⟩
          · rw [if_pos (by rfl)]
            go_simp
            refine hK.out _ _ (rs_below hHeld ((Below.refl _ _).alloc (Nat.le_refl _) _)) (fun hHeld => ?_)
            clear hK K
            refine PrintLast.one_ (i := 13) (N := some 33) #[true, true, true, true, true, true, true, true, true, true, true, true, true, true, false, false, false, true, false, false] rfl rfl (by kernel_rfl) (by decide) (fun K hK => ?_)
            refine PrintLast.goes_ Try.func22 (by kernel_rfl) rfl #[.pointer (some ⟨p, 0, none⟩), .int .i64 (j : Int)] (by rfl) rfl rfl (by first | rfl | (simp only [List.map_toArray, List.map_cons, List.map_nil]; rfl)) ?_
            refine (hHeld.1.load_c (j : Int)).mono ?_
            rw [lookT_nat, HUU.out]
            rintro e w6 ⟨hb, hld⟩
            cases u with
            | none =>
              have hld : e = .returned (.tuple #[.agg #[.int .i64 0, .int .i64 0, .slice none 0 0], .bool false]) := hld
              subst hld
              refine ⟨_, rfl, ?_⟩
              refine hK.out _ _ (rs_below hHeld hb) (fun hHeld => ?_)
              clear hK K
              refine PrintLast.norm_ (a' := ?_) ?_ ?_
              rotate_left
              · show Act.put _ (some 33) _ = _
                simp only [Act.put, List.setIfInBounds_toArray, List.set_cons_zero, List.set_cons_succ]
                rfl
              refine PrintLast.pure_ (i := 14) (N := some 19) (v := ?_) (a' := ?_) #[true, true, true, true, true, true, true, true, true, true, true, true, true, true, true, false, false, true, false, false] rfl rfl (by kernel_rfl) (fun _ _ _ h => h) (Or.inl ⟨by rfl, ?_⟩) ?_ ?_
              rotate_left
              · intro w'
                go_simp
                with_reducible rfl
              rotate_left
              · simp only [Act.put, List.setIfInBounds_toArray, List.set_cons_zero, List.set_cons_succ]
                rfl
              refine PrintLast.pure_ (i := 15) (N := some 34) (v := ?_) (a' := ?_) #[true, true, true, true, true, true, true, true, true, true, true, true, true, true, true, true, false, true, false, false] rfl rfl (by kernel_rfl) (fun _ _ _ h => h) (Or.inl ⟨by rfl, ?_⟩) ?_ ?_
              rotate_left
              · intro w'
                go_simp
                with_reducible rfl
              rotate_left
              · simp only [Act.put, List.setIfInBounds_toArray, List.set_cons_zero, List.set_cons_succ]
                rfl
              refine PrintLast.pure_ (i := 16) (N := some 35) (v := ?_) (a' := ?_) #[true, true, true, true, true, true, true, true, true, true, true, true, true, true, true, true, true, true, false, false] rfl rfl (by kernel_rfl) (fun _ _ _ h => h) (Or.inl ⟨by rfl, ?_⟩) ?_ ?_
              rotate_left
              · intro w'
                go_simp
                with_reducible rfl
              rotate_left
              · simp only [Act.put, List.setIfInBounds_toArray, List.set_cons_zero, List.set_cons_succ]
                rfl
              refine PrintLast.last_ (i := 18) (N := none) #[true, true, true, true, true, true, true, true, true, true, true, true, true, true, true, true, true, true, true, false] rfl rfl (by kernel_rfl) (by decide) (fun K hK => ?_)
              rw [if_pos (by rfl)]
              refine store_none 48 _ _ rfl rfl w4.heap.size 0 [.int .i64 0, .int .i64 0, .slice none 0 0] rfl rfl (there_of ((hb.block w4.heap.size (by simp)).trans (heap_alloc_new w4 (.cells #[.int .i64 0, .int .i64 0, .slice none 0 0] 48))) rfl) size48 (by intro v hv; simp at hv; rcases hv with rfl | rfl | rfl <;> rfl) ?_
              refine hK.out _ _ ?_
              clear hK K
              refine PrintLast.pure_ (i := 19) (N := some 10) (v := ?_) (a' := ?_) #[true, true, true, true, true, true, true, true, true, true, true, true, true, true, true, true, true, true, true, true] rfl rfl (by kernel_rfl) (fun _ _ _ h => h) (Or.inl ⟨by rfl, ?_⟩) ?_ ?_
              rotate_left
              · intro w'
                go_simp
                with_reducible rfl
              rotate_left
              · simp only [Act.put, List.setIfInBounds_toArray, List.set_cons_zero, List.set_cons_succ]
                rfl
              refine PrintLast.done_ (by kernel_rfl) ?_
              go_wp2_with fail
              go_meet
              have hbl : Below W.heap.size W (w6.setCells w4.heap.size 0 [.int .i64 0, .int .i64 0, .slice none 0 0]) := (setCells_fr (W0 := W) (S := fun _ => False) (g := w4.heap.size) (Or.inr (by have := HB4.out.size; have := hb.size; simp at *; omega)) _ 0 (Fr.of_below (below_step (HB4.out.alloc HB4.out.size _) hb) _)).to_below (Nat.le_refl _) (fun _ hk => hk.elim)
              exact ⟨_, _, rfl, rfl, ⟨⟨⟨hbl, set3 ((hb.block w4.heap.size (by simp)).trans (heap_alloc_new w4 (.cells #[.int .i64 0, .int .i64 0, .slice none 0 0] 48)))⟩, rfl⟩⟩⟩
            | some y =>
              obtain ⟨A1, c1, he, hr1⟩ : ∃ A c, e = .returned (.tuple #[.agg #[.int .i64 y.f0, .int .i64 y.f1, .slice A y.f2.length c], .bool true]) ∧ w6.ownsRow 0 9 1 (.slice A y.f2.length c) y.f2.length (strs y.f2) := hld
              subst he
              refine ⟨_, rfl, ?_⟩
              refine hK.out _ _ (rs_below hHeld hb) (fun hHeld => ?_)
              clear hK K
              refine PrintLast.norm_ (a' := ?_) ?_ ?_
              rotate_left
              · show Act.put _ (some 33) _ = _
                simp only [Act.put, List.setIfInBounds_toArray, List.set_cons_zero, List.set_cons_succ]
                rfl
              refine PrintLast.pure_ (i := 14) (N := some 19) (v := ?_) (a' := ?_) #[true, true, true, true, true, true, true, true, true, true, true, true, true, true, true, false, false, true, false, false] rfl rfl (by kernel_rfl) (fun _ _ _ h => h) (Or.inl ⟨by rfl, ?_⟩) ?_ ?_
              rotate_left
              · intro w'
                go_simp
                with_reducible rfl
              rotate_left
              · simp only [Act.put, List.setIfInBounds_toArray, List.set_cons_zero, List.set_cons_succ]
                rfl
              refine PrintLast.pure_ (i := 15) (N := some 34) (v := ?_) (a' := ?_) #[true, true, true, true, true, true, true, true, true, true, true, true, true, true, true, true, false, true, false, false] rfl rfl (by kernel_rfl) (fun _ _ _ h => h) (Or.inl ⟨by rfl, ?_⟩) ?_ ?_
              rotate_left
              · intro w'
                go_simp
                with_reducible rfl
              rotate_left
              · simp only [Act.put, List.setIfInBounds_toArray, List.set_cons_zero, List.set_cons_succ]
                rfl
              refine PrintLast.pure_ (i := 16) (N := some 35) (v := ?_) (a' := ?_) #[true, true, true, true, true, true, true, true, true, true, true, true, true, true, true, true, true, true, false, false] rfl rfl (by kernel_rfl) (fun _ _ _ h => h) (Or.inl ⟨by rfl, ?_⟩) ?_ ?_
              rotate_left
              · intro w'
                go_simp
                with_reducible rfl
              rotate_left
              · simp only [Act.put, List.setIfInBounds_toArray, List.set_cons_zero, List.set_cons_succ]
                rfl
              refine PrintLast.last_ (i := 18) (N := none) #[true, true, true, true, true, true, true, true, true, true, true, true, true, true, true, true, true, true, true, false] rfl rfl (by kernel_rfl) (by decide) (fun K hK => ?_)
              rw [if_pos (by rfl)]
              refine store_none 48 _ _ rfl rfl w4.heap.size 0 [.int .i64 y.f0, .int .i64 y.f1, .slice A1 y.f2.length c1] rfl rfl (there_of ((hb.block w4.heap.size (by simp)).trans (heap_alloc_new w4 (.cells #[.int .i64 0, .int .i64 0, .slice none 0 0] 48))) rfl) size48 (by intro v hv; simp at hv; rcases hv with rfl | rfl | rfl <;> rfl) ?_
              refine hK.out _ _ ?_
              clear hK K
              refine PrintLast.pure_ (i := 19) (N := some 10) (v := ?_) (a' := ?_) #[true, true, true, true, true, true, true, true, true, true, true, true, true, true, true, true, true, true, true, true] rfl rfl (by kernel_rfl) (fun _ _ _ h => h) (Or.inl ⟨by rfl, ?_⟩) ?_ ?_
              rotate_left
              · intro w'
                go_simp
                with_reducible rfl
              rotate_left
              · simp only [Act.put, List.setIfInBounds_toArray, List.set_cons_zero, List.set_cons_succ]
                rfl
              refine PrintLast.done_ (by kernel_rfl) ?_
              go_wp2_with fail
              go_meet
              have hbl : Below W.heap.size W (w6.setCells w4.heap.size 0 [.int .i64 y.f0, .int .i64 y.f1, .slice A1 y.f2.length c1]) := (setCells_fr (W0 := W) (S := fun _ => False) (g := w4.heap.size) (Or.inr (by have := HB4.out.size; have := hb.size; simp at *; omega)) _ 0 (Fr.of_below (below_step (HB4.out.alloc HB4.out.size _) hb) _)).to_below (Nat.le_refl _) (fun _ hk => hk.elim)
              exact ⟨_, _, rfl, rfl, ⟨⟨⟨hbl, A1, c1, set3 ((hb.block w4.heap.size (by simp)).trans (heap_alloc_new w4 (.cells #[.int .i64 0, .int .i64 0, .slice none 0 0] 48))), own_setCells _ _ hr1 (own_ne hr1 ((hb.block w4.heap.size (by simp)).trans (heap_alloc_new w4 (.cells #[.int .i64 0, .int .i64 0, .slice none 0 0] 48))) (by decide))⟩, rfl⟩⟩⟩
        · rw [if_pos (by rfl)]
          go_simp
          refine hK.out _ _ (rs_below hHeld ((Below.refl _ _).alloc (Nat.le_refl _) _)) (fun hHeld => ?_)
          clear hK K
          refine PrintLast.one_ (i := 4) (N := some 24) #[true, true, true, true, true, true, false, true, true, true, true, true, false, false, false, false, false, true, false, false] rfl rfl (by kernel_rfl) (by decide) (fun K hK => ?_)
          refine PrintLast.goes_ Try.func28 (by kernel_rfl) rfl #[.pointer (some ⟨p, 0, none⟩), .int .i64 ep, .int .i64 nd] (by rfl) rfl rfl (by first | rfl | (simp only [List.map_toArray, List.map_cons, List.map_nil]; rfl)) ?_
          refine (hHeld.1.home_c ep nd).mono ?_
          rintro e w5 ⟨rfl, rfl⟩
          refine ⟨_, rfl, ?_⟩
          rw [HMV.out]
          refine hK.out _ _ hHeld (fun hHeld => ?_)
          clear hK K
          refine PrintLast.norm_ (a' := ?_) ?_ ?_
          rotate_left
          · show Act.put _ (some 24) _ = _
            simp only [Act.put, List.setIfInBounds_toArray, List.set_cons_zero, List.set_cons_succ]
            rfl
          refine PrintLast.pure_ (i := 6) (N := some 26) (v := ?_) (a' := ?_) #[true, true, true, true, true, true, true, true, true, true, true, true, false, false, false, false, false, true, false, false] rfl rfl (by kernel_rfl) (fun _ _ _ h => h) (Or.inl ⟨by rfl, ?_⟩) ?_ ?_
          rotate_left
          · intro w'
            go_simp
            with_reducible rfl
          rotate_left
          · simp only [Act.put, List.setIfInBounds_toArray, List.set_cons_zero, List.set_cons_succ]
            rfl
          refine PrintLast.pure_ (i := 12) (N := some 32) (v := ?_) (a' := ?_) #[true, true, true, true, true, true, true, true, true, true, true, true, true, false, false, false, false, true, false, false] rfl rfl (by kernel_rfl) (fun _ _ _ h => h) (Or.inl ⟨by rfl, ?_⟩) ?_ ?_
          rotate_left
          · intro w'
            go_simp
            with_reducible rfl
          rotate_left
          · simp only [Act.put, List.setIfInBounds_toArray, List.set_cons_zero, List.set_cons_succ]
            rfl
          refine PrintLast.one_ (i := 13) (N := some 33) #[true, true, true, true, true, true, true, true, true, true, true, true, true, true, false, false, false, true, false, false] rfl rfl (by kernel_rfl) (by decide) (fun K hK => ?_)
          refine PrintLast.goes_ Try.func22 (by kernel_rfl) rfl #[.pointer (some ⟨p, 0, none⟩), .int .i64 (j : Int)] (by rfl) rfl rfl (by first | rfl | (simp only [List.map_toArray, List.map_cons, List.map_nil]; rfl)) ?_
          refine (hHeld.1.load_c (j : Int)).mono ?_
          rw [lookT_nat, HUU.out]
          rintro e w6 ⟨hb, hld⟩
          cases u with
          | none =>
            have hld : e = .returned (.tuple #[.agg #[.int .i64 0, .int .i64 0, .slice none 0 0], .bool false]) := hld
            subst hld
            refine ⟨_, rfl, ?_⟩
            refine hK.out _ _ (rs_below hHeld hb) (fun hHeld => ?_)
            clear hK K
            refine PrintLast.norm_ (a' := ?_) ?_ ?_
            rotate_left
            · show Act.put _ (some 33) _ = _
              simp only [Act.put, List.setIfInBounds_toArray, List.set_cons_zero, List.set_cons_succ]
              rfl
            refine PrintLast.pure_ (i := 14) (N := some 19) (v := ?_) (a' := ?_) #[true, true, true, true, true, true, true, true, true, true, true, true, true, true, true, false, false, true, false, false] rfl rfl (by kernel_rfl) (fun _ _ _ h => h) (Or.inl ⟨by rfl, ?_⟩) ?_ ?_
            rotate_left
            · intro w'
              go_simp
              with_reducible rfl
            rotate_left
            · simp only [Act.put, List.setIfInBounds_toArray, List.set_cons_zero, List.set_cons_succ]
              rfl
            refine PrintLast.pure_ (i := 15) (N := some 34) (v := ?_) (a' := ?_) #[true, true, true, true, true, true, true, true, true, true, true, true, true, true, true, true, false, true, false, false] rfl rfl (by kernel_rfl) (fun _ _ _ h => h) (Or.inl ⟨by rfl, ?_⟩) ?_ ?_
            rotate_left
            · intro w'
              go_simp
              with_reducible rfl
            rotate_left
            · simp only [Act.put, List.setIfInBounds_toArray, List.set_cons_zero, List.set_cons_succ]
              rfl
            refine PrintLast.pure_ (i := 16) (N := some 35) (v := ?_) (a' := ?_) #[true, true, true, true, true, true, true, true, true, true, true, true, true, true, true, true, true, true, false, false] rfl rfl (by kernel_rfl) (fun _ _ _ h => h) (Or.inl ⟨by rfl, ?_⟩) ?_ ?_
            rotate_left
            · intro w'
              go_simp
              with_reducible rfl
            rotate_left
            · simp only [Act.put, List.setIfInBounds_toArray, List.set_cons_zero, List.set_cons_succ]
              rfl
            refine PrintLast.last_ (i := 18) (N := none) #[true, true, true, true, true, true, true, true, true, true, true, true, true, true, true, true, true, true, true, false] rfl rfl (by kernel_rfl) (by decide) (fun K hK => ?_)
            rw [if_pos (by rfl)]
            refine store_none 48 _ _ rfl rfl w4.heap.size 0 [.int .i64 0, .int .i64 0, .slice none 0 0] rfl rfl (there_of ((hb.block w4.heap.size (by simp)).trans (heap_alloc_new w4 (.cells #[.int .i64 0, .int .i64 0, .slice none 0 0] 48))) rfl) size48 (by intro v hv; simp at hv; rcases hv with rfl | rfl | rfl <;> rfl) ?_
            refine hK.out _ _ ?_
            clear hK K
            refine PrintLast.pure_ (i := 19) (N := some 10) (v := ?_) (a' := ?_) #[true, true, true, true, true, true, true, true, true, true, true, true, true, true, true, true, true, true, true, true] rfl rfl (by kernel_rfl) (fun _ _ _ h => h) (Or.inl ⟨by rfl, ?_⟩) ?_ ?_
            rotate_left
            · intro w'
              go_simp
              with_reducible rfl
            rotate_left
            · simp only [Act.put, List.setIfInBounds_toArray, List.set_cons_zero, List.set_cons_succ]
              rfl
            refine PrintLast.done_ (by kernel_rfl) ?_
            go_wp2_with fail
            go_meet
            have hbl : Below W.heap.size W (w6.setCells w4.heap.size 0 [.int .i64 0, .int .i64 0, .slice none 0 0]) := (setCells_fr (W0 := W) (S := fun _ => False) (g := w4.heap.size) (Or.inr (by have := HB4.out.size; have := hb.size; simp at *; omega)) _ 0 (Fr.of_below (below_step (HB4.out.alloc HB4.out.size _) hb) _)).to_below (Nat.le_refl _) (fun _ hk => hk.elim)
            exact ⟨_, _, rfl, rfl, ⟨⟨⟨hbl, set3 ((hb.block w4.heap.size (by simp)).trans (heap_alloc_new w4 (.cells #[.int .i64 0, .int .i64 0, .slice none 0 0] 48)))⟩, rfl⟩⟩⟩
          | some y =>
            obtain ⟨A1, c1, he, hr1⟩ : ∃ A c, e = .returned (.tuple #[.agg #[.int .i64 y.f0, .int .i64 y.f1, .slice A y.f2.length c], .bool true]) ∧ w6.ownsRow 0 9 1 (.slice A y.f2.length c) y.f2.length (strs y.f2) := hld
            subst he
            refine ⟨_, rfl, ?_⟩
            refine hK.out _ _ (rs_below hHeld hb) (fun hHeld => ?_)
            clear hK K
            refine PrintLast.norm_ (a' := ?_) ?_ ?_
            rotate_left
            · show Act.put _ (some 33) _ = _
              simp only [Act.put, List.setIfInBounds_toArray, List.set_cons_zero, List.set_cons_succ]
              rfl
            refine PrintLast.pure_ (i := 14) (N := some 19) (v := ?_) (a' := ?_) #[true, true, true, true, true, true, true, true, true, true, true, true, true, true, true, false, false, true, false, false] rfl rfl (by kernel_rfl) (fun _ _ _ h => h) (Or.inl ⟨by rfl, ?_⟩) ?_ ?_
            rotate_left
            · intro w'
              go_simp
              with_reducible rfl
            rotate_left
            · simp only [Act.put, List.setIfInBounds_toArray, List.set_cons_zero, List.set_cons_succ]
              rfl
            refine PrintLast.pure_ (i := 15) (N := some 34) (v := ?_) (a' := ?_) #[true, true, true, true, true, true, true, true, true, true, true, true, true, true, true, true, false, true, false, false] rfl rfl (by kernel_rfl) (fun _ _ _ h => h) (Or.inl ⟨by rfl, ?_⟩) ?_ ?_
            rotate_left
            · intro w'
              go_simp
              with_reducible rfl
            rotate_left
            · simp only [Act.put, List.setIfInBounds_toArray, List.set_cons_zero, List.set_cons_succ]
              rfl
            refine PrintLast.pure_ (i := 16) (N := some 35) (v := ?_) (a' := ?_) #[true, true, true, true, true, true, true, true, true, true, true, true, true, true, true, true, true, true, false, false] rfl rfl (by kernel_rfl) (fun _ _ _ h => h) (Or.inl ⟨by rfl, ?_⟩) ?_ ?_
            rotate_left
            · intro w'
              go_simp
              with_reducible rfl
            rotate_left
            · simp only [Act.put, List.setIfInBounds_toArray, List.set_cons_zero, List.set_cons_succ]
              rfl
            refine PrintLast.last_ (i := 18) (N := none) #[true, true, true, true, true, true, true, true, true, true, true, true, true, true, true, true, true, true, true, false] rfl rfl (by kernel_rfl) (by decide) (fun K hK => ?_)
            rw [if_pos (by rfl)]
            refine store_none 48 _ _ rfl rfl w4.heap.size 0 [.int .i64 y.f0, .int .i64 y.f1, .slice A1 y.f2.length c1] rfl rfl (there_of ((hb.block w4.heap.size (by simp)).trans (heap_alloc_new w4 (.cells #[.int .i64 0, .int .i64 0, .slice none 0 0] 48))) rfl) size48 (by intro v hv; simp at hv; rcases hv with rfl | rfl | rfl <;> rfl) ?_
            refine hK.out _ _ ?_
            clear hK K
            refine PrintLast.pure_ (i := 19) (N := some 10) (v := ?_) (a' := ?_) #[true, true, true, true, true, true, true, true, true, true, true, true, true, true, true, true, true, true, true, true] rfl rfl (by kernel_rfl) (fun _ _ _ h => h) (Or.inl ⟨by rfl, ?_⟩) ?_ ?_
            rotate_left
            · intro w'
              go_simp
              with_reducible rfl
            rotate_left
            · simp only [Act.put, List.setIfInBounds_toArray, List.set_cons_zero, List.set_cons_succ]
              rfl
            refine PrintLast.done_ (by kernel_rfl) ?_
            go_wp2_with fail
            go_meet
            have hbl : Below W.heap.size W (w6.setCells w4.heap.size 0 [.int .i64 y.f0, .int .i64 y.f1, .slice A1 y.f2.length c1]) := (setCells_fr (W0 := W) (S := fun _ => False) (g := w4.heap.size) (Or.inr (by have := HB4.out.size; have := hb.size; simp at *; omega)) _ 0 (Fr.of_below (below_step (HB4.out.alloc HB4.out.size _) hb) _)).to_below (Nat.le_refl _) (fun _ hk => hk.elim)
            exact ⟨_, _, rfl, rfl, ⟨⟨⟨hbl, A1, c1, set3 ((hb.block w4.heap.size (by simp)).trans (heap_alloc_new w4 (.cells #[.int .i64 0, .int .i64 0, .slice none 0 0] 48))), own_setCells _ _ hr1 (own_ne hr1 ((hb.block w4.heap.size (by simp)).trans (heap_alloc_new w4 (.cells #[.int .i64 0, .int .i64 0, .slice none 0 0] 48))) (by decide))⟩, rfl⟩⟩⟩
      case rest =>
        obtain ⟨b, ok, rfl, rfl, HA⟩ := hcut
        obtain ⟨⟨hb5, hcase⟩, hok⟩ := HA.out
        have HB5 := Aside0.mk hb5
        have HGet : Aside0 (T.getD ((hm + k) % T.length) none = u) := ⟨by rw [HJ.out]; exact HUU.out⟩
        clear hb5 hji hsum hn1 hn0
        cases u with
        | none =>
          replace hok : ok = false := hok
          subst hok
          have hg := HGT.out _ (HP.out.free HLT.out HGet.out)
          simp only at hg
          subst hg
          clear hcase
          go_wp2_with fail
          go_ret2
          exact ⟨HB5.out, rfl⟩
        | some y =>
          replace hok : ok = true := hok
          subst hok
          obtain ⟨A1, c1, hg1, ho1⟩ : ∃ A c, wc.heap[b]? = some (.cells #[.int .i64 y.f0, .int .i64 y.f1, .slice A y.f2.length c] 48 (0, 0)) ∧ wc.ownsRow 0 9 1 (.slice A y.f2.length c) y.f2.length (strs y.f2) := hcase
          obtain ⟨_, _, hv, hc1, hr1⟩ := str_reads ho1
          cases hv
          have b0 : wc.cell? ⟨b, 0, none⟩ = some (.int .i64 y.f0) := (blk_cell hg1 0).trans rfl
          have b1 : wc.cell? ⟨b, 1, none⟩ = some (.int .i64 y.f1) := (blk_cell hg1 1).trans rfl
          have b2 : wc.cell? ⟨b, 2, none⟩ = some (.slice A1 y.f2.length c1) := (blk_cell hg1 2).trans rfl
          have HR1 := Aside0.mk (And.intro hc1 hr1)
          clear hg1 ho1 hc1 hr1 HA
          cases hk : keyed ep nd y with
          | true =>
            have hg := HGT.out _ (HP.out.hit HLT.out HGet.out hk)
            simp only at hg
            subst hg
            obtain ⟨d0, d1⟩ := keyed_true.1 hk
            have d0 : (y.f0 == ep) = true := by simpa using d0
            have d1 : (y.f1 == nd) = true := by simpa using d1
            clear hk
            go_wp2_with fail
            go_ret2
            exact ⟨HB5.out, A1, c1, rfl, HR1.out.1, HR1.out.2⟩
          | false =>
            have HPN := Aside0.mk (HP.out.step HGet.out hk)
            have hk2 := keyed_false.1 hk
            cases d0 : (y.f0 == ep) with
            | false =>
              clear hk hk2
              go_wp2_with fail
              exact ⟨⟨k + 1, by go_num, HLT.out, HPN, HB5⟩, by have := HLT.out; simp [intOf]; omega⟩
            | true =>
              have d1 : (y.f1 == nd) = false := by
                have e0 : y.f0 = ep := by simpa using d0
                simp only [beq_eq_false_iff_ne]
                exact fun e1 => hk2 ⟨e0, e1⟩
              clear hk hk2
              go_wp2_with fail
              exact ⟨⟨k + 1, by go_num, HLT.out, HPN, HB5⟩, by have := HLT.out; simp [intOf]; omega⟩
    · have g1 : ¬ (k : Int) < (T.length : Int) := by omega
      have hg := HGT.out _ (HP.out.full (by omega))
      simp only at hg
      subst hg
      clear hlt hk
      go_wp2_with fail
      go_ret2
      exact ⟨HB.out, rfl⟩
end
end Go.Proofs.Ytpgdehelamgbnaa
