/-
  Tries of numbers in memory: New, made, Get, Len, Nodes, Fresh, Put, Drop.
-/
import Derived.Test.YtfehimoiccgahaaFreshI
namespace Go.Proofs.Ytfehimoiccgahaa.I
open Go.RowKit Go.Proofs.YtfehimoiccgahaaW.PrintWords Go.Proofs.Ytfehimoiccgahaa
set_option linter.unusedVariables false
set_option linter.unusedSimpArgs false
/-- The trie lies at p. -/
def Tr (W : World) (p : Nat) (t : Nd Int) : Prop := W.cell? ⟨p, 0, none⟩ = some (nptr t) ∧ t ≠ .nil ∧ Nd.Good 4 t ∧ In W (fun b => b < W.heap.size) t
section
variable {W W' : World} {p : Nat} {t : Nd Int}
theorem Tr.lt (h : Tr W p t) : p < W.heap.size := block_lt_of_cell h.1
theorem Tr.below (h : Tr W p t) (hb : Below W.heap.size W W') : Tr W' p t :=
  ⟨(hb.cell (p := ⟨p, 0, none⟩) h.lt).trans h.1, h.2.1, h.2.2.1, (h.2.2.2.below hb).imp (fun b hb2 => Nat.lt_of_lt_of_le hb2 hb.size)⟩
theorem Tr.under (h : Tr W p t) : Nd.Under W.heap.size t := h.2.2.2.under (fun b hb => hb)
theorem Tr.node (h : Tr W p t) : ∃ a, nptr t = .pointer (some ⟨a, 0, none⟩) ∧ W.heap[a]? = some (.cells (nc t.down t.here t.size) 66 (0, 0)) := by
  cases t with
  | nil => exact absurd rfl h.2.1
  | node a d h2 s => exact ⟨a, rfl, h.2.2.2.2.1⟩
theorem made_c (h : Tr W p t) : Calls Try.prog 29 #[.pointer (some ⟨p, 0, none⟩)] W fun e w' => e = .returned (.bool true) ∧ w' = W := by
  obtain ⟨a, ha, _⟩ := h.node
  have h1 := h.1
  rw [ha] at h1
  clear ha h
  go_enter Try.func29, Try.ntmps29
  go_wp2_with fail
  go_ret
  exact ⟨rfl, rfl⟩
theorem new_c (w : World) : Calls Try.prog 9 #[] w fun e w' => e = .returned (.pointer (some ⟨w.heap.size + 1, 0, none⟩)) ∧ Tr w' (w.heap.size + 1) (.node w.heap.size (fun _ => .nil) (fun _ => none) 0) ∧ Below w.heap.size w w' := by
  go_enter Try.func9, Try.ntmps9
  go_wp2_with fail
  go_ret
  refine ⟨rfl, ⟨?_, (fun e => by cases e), ⟨fun _ => rfl, fun _ => ⟨Nd.good_nil _, Or.inl rfl⟩, (sum_zero 16 (fun _ _ => rfl)).symm⟩, ?_⟩, ((Below.refl _ _).alloc (Nat.le_refl _) _).alloc (by simp) _⟩
  · have := heap_alloc2_new w (.cells #[.pointer none, .pointer none, .pointer none, .pointer none, .pointer none, .pointer none, .pointer none, .pointer none, .pointer none, .pointer none, .pointer none, .pointer none, .pointer none, .pointer none, .pointer none, .pointer none, .pointer none, .pointer none, .pointer none, .pointer none, .pointer none, .pointer none, .pointer none, .pointer none, .pointer none, .pointer none, .pointer none, .pointer none, .pointer none, .pointer none, .pointer none, .pointer none, .int .i64 0] 66) (.cells #[.pointer (some ⟨w.heap.size, 0, none⟩)] 68)
    exact blk_cell this 0
  · have h2 := heap_alloc2_old w (.cells #[.pointer none, .pointer none, .pointer none, .pointer none, .pointer none, .pointer none, .pointer none, .pointer none, .pointer none, .pointer none, .pointer none, .pointer none, .pointer none, .pointer none, .pointer none, .pointer none, .pointer none, .pointer none, .pointer none, .pointer none, .pointer none, .pointer none, .pointer none, .pointer none, .pointer none, .pointer none, .pointer none, .pointer none, .pointer none, .pointer none, .pointer none, .pointer none, .int .i64 0] 66) (.cells #[.pointer (some ⟨w.heap.size, 0, none⟩)] 68)
    refine InMem.mk (by simp; omega) h2 (fun _ _ => trivial) (fun k b x hk e => by cases e)
theorem len_c (h : Tr W p t) : Calls Try.prog 11 #[.pointer (some ⟨p, 0, none⟩)] W fun e w' => e = .returned (.int .i64 t.size) ∧ w' = W := by
  obtain ⟨a, ha, hb⟩ := h.node
  have h1 := h.1
  rw [ha] at h1
  have h2 : W.cell? ⟨a, 32, none⟩ = some (.int .i64 t.size) := by rw [blk_cell hb, nc_sz]
  have H := Aside0.mk (made_c h)
  clear ha hb h
  go_enter Try.func11, Try.ntmps11
  go_wp2_with fail
  refine H.out.mono ?_
  rintro e w1 ⟨rfl, rfl⟩
  go_wp2_with fail
  go_ret
  exact ⟨rfl, rfl⟩
theorem nodes_c (h : Tr W p t) : Calls Try.prog 12 #[.pointer (some ⟨p, 0, none⟩)] W fun e w' => e = .returned (.int .i64 (Nd.frsh .nil t)) ∧ w' = W := by
  have h1 := h.1
  have HF := Aside0.mk (fresh_c 4 (Nat.le_refl _) t .nil W _ (fun _ => True) h.2.2.1 h.2.2.2 trivial)
  have H := Aside0.mk (made_c h)
  clear h
  go_enter Try.func12, Try.ntmps12
  go_wp2_with fail
  refine H.out.mono ?_
  rintro e w1 ⟨rfl, rfl⟩
  go_wp2_with fail
  refine HF.out.mono ?_
  rintro e w1 ⟨rfl, rfl⟩
  go_wp2_with fail
  go_ret
  exact ⟨rfl, rfl⟩
theorem Fresh_c {p2 : Nat} {t2 : Nd Int} (h : Tr W p t) (k : Tr W p2 t2) : Calls Try.prog 15 #[.pointer (some ⟨p, 0, none⟩), .pointer (some ⟨p2, 0, none⟩)] W fun e w' => e = .returned (.int .i64 (Nd.frsh t t2)) ∧ Below W.heap.size W w' := by
  have h1 := h.1
  have k1 := k.1
  have HF := Aside0.mk (fun (m : Nat) => fresh_c 4 (Nat.le_refl _) t2 t (W.drewN m) _ _ k.2.2.1 (k.below (pw_below_drewN (Below.refl _ _) m)).2.2.2 (h.below (pw_below_drewN (Below.refl _ _) m)).2.2.2)
  have H := Aside0.mk (made_c h)
  have K := Aside0.mk (made_c k)
  clear h k
  go_enter Try.func15, Try.ntmps15
  go_wp2_with fail
  refine H.out.mono ?_
  rintro e w1 ⟨rfl, rfl⟩
  go_wp2_with fail
  refine K.out.mono ?_
  rintro e w1 ⟨rfl, rfl⟩
  go_wp2_with fail
  go_quiet ((go_at_call 31; exact Calls.quiet_of_same (HF.out _)))
  go_wp2_with fail
  go_ret
  exact ⟨rfl, pw_below_drewN (Below.refl _ _) _⟩
/-- What Get tells. -/
def getV (t : Nd Int) (n : Int) : Option Int := if 0 ≤ n ∧ n < 1048576 then (Nd.look 4 t n.toNat).map Prod.snd else none
def retG : Option Int → Value
  | none => .tuple #[(.int .i64 0), .bool false]
  | some x => .tuple #[(Value.int .i64) x, .bool true]
set_option maxHeartbeats 1000000 in
set_option maxRecDepth 100000 in
theorem get_c (h : Tr W p t) (n : Int) : Calls Try.prog 13 #[.pointer (some ⟨p, 0, none⟩), .int .i64 n] W fun e w' => e = .returned (retG (getV t n)) ∧ Below W.heap.size W w' := by
  have H := Aside0.mk (made_c h)
  have h1 := h.1
  by_cases hn : 0 ≤ n ∧ n < 1048576
  · obtain ⟨m, hnm⟩ : ∃ m : Nat, n = m := ⟨n.toNat, by omega⟩
    obtain ⟨hn0, hn1⟩ := hn
    have HV : Aside0 (getV t n = (Nd.look 4 t m).map Prod.snd) := ⟨by unfold getV; rw [if_pos ⟨hn0, hn1⟩, hnm, Int.toNat_natCast]⟩
    have HT := Aside0.mk h
    have hm20 : m < 1048576 := by omega
    have HPC : Aside0 (∀ (r : Nat) (dp : Int), r ≤ 4 → dp = 4 - (r : Int) → ∀ W, Calls Try.prog 32 #[.int .i64 n, .int .i64 dp] W fun e w' => e = .returned (.int .i64 (Nd.dig r m)) ∧ w' = W) := ⟨fun r dp hr hd W => by
      rw [hnm]
      exact part_c' m r dp hr hd hm20 W⟩
    clear h hnm hm20
    go_enter Try.func13, Try.ntmps13
    go_wp2_with fail
    refine H.out.mono ?_
    rintro e w1 ⟨rfl, rfl⟩
    go_wp2_with fail
    go_loopw [7, 8] (fun x d wr => ∃ (k r : Nat) (s : Nd Int), d = .int .i64 k ∧ x = nptr s ∧ k + r = 4 ∧ Aside0 (s ≠ .nil) ∧ Aside0 (Nd.Good r s) ∧ Aside0 (In wr (fun _ => True) s) ∧ Aside0 (Nd.look 4 t m = Nd.look r s m) ∧ Aside0 (Below w1.heap.size w1 wr)) (fun _ d _ => 4 - (intOf d).toNat)
    case atStart => exact ⟨0, 4, t, rfl, rfl, rfl, ⟨HT.out.2.1⟩, ⟨HT.out.2.2.1⟩, ⟨HT.out.2.2.2.imp (fun _ _ => trivial)⟩, ⟨rfl⟩, ⟨Below.refl _ _⟩⟩
    case round =>
      obtain ⟨k, r, s, rfl, rfl, hkr, HS, HG, HI, HL, HB⟩ := hrel
      cases s with
      | nil => exact absurd rfl HS.out
      | node a d h s =>
        have hnp : nptr (Nd.node a d h s) = .pointer (some ⟨a, 0, none⟩) := rfl
        rw [hnp]
        clear hnp
        by_cases hlt : k < 4
        · have g1 : (k : Int) < 4 := by omega
          obtain ⟨r, rfl⟩ : ∃ r', r = r' + 1 := ⟨r - 1, by omega⟩
          have ck : wr.cell? ⟨a, Nd.dig (r + 1) m, none⟩ = some (nptr (d (Nd.dig (r + 1) m))) := by rw [blk_cell HI.out.2.1, nc_down (Nd.dig_lt _ _)]
          have hk16 := Nd.dig_lt (r + 1) m
          have HP := Aside0.mk (HPC.out (r + 1) (k : Int) (by omega) (by omega))
          have HL2 : Aside0 (Nd.look 4 t m = Nd.look r (d (Nd.dig (r + 1) m)) m) := ⟨HL.out⟩
          have HG2 : Aside0 (Nd.Good r (d (Nd.dig (r + 1) m))) := ⟨(HG.out.2.1 _).1⟩
          have HI2 : Aside0 (In wr (fun _ => True) (d (Nd.dig (r + 1) m))) := ⟨HI.out.down (Nd.dig_lt _ _)⟩
          generalize d (Nd.dig (r + 1) m) = u at ck HL2 HG2 HI2
          generalize Nd.dig (r + 1) m = q at ck hk16 HP
          cases u with
          | nil =>
            have hnp : nptr (Nd.nil : Nd Int) = .pointer none := rfl
            rw [hnp] at ck
            clear hnp
            have HV2 : Aside0 (getV t n = none) := ⟨by rw [HV.out, HL2.out, Nd.look_nil]; rfl⟩
            go_wp2_with fail
            go_quiet ((go_at_call 32; exact Calls.quiet_of_same (HP.out _)))
            go_wp2_with fail
            go_ret2
            exact ⟨by rw [HV2.out]; rfl, pw_below_drewN HB.out _⟩
          | node a2 d2 h2 s2 =>
            have hnp : nptr (Nd.node a2 d2 h2 s2) = .pointer (some ⟨a2, 0, none⟩) := rfl
            rw [hnp] at ck
            clear hnp
            go_wp2_with fail
            go_quiet ((go_at_call 32; exact Calls.quiet_of_same (HP.out _)))
            go_wp2_with fail
            go_roundw
            case rel => exact ⟨k + 1, r, .node a2 d2 h2 s2, by go_num, rfl, by omega, ⟨fun e => by cases e⟩, HG2, ⟨HI2.out.below (pw_below_drewN (Below.refl _ _) _)⟩, HL2, ⟨pw_below_drewN HB.out _⟩⟩
            case measure => simp [intOf]; omega
        · obtain rfl : r = 0 := by omega
          obtain rfl : k = 4 := by omega
          have ck : wr.cell? ⟨a, 16 + Nd.dig 0 m, none⟩ = some (hptr (h (Nd.dig 0 m))) := by rw [blk_cell HI.out.2.1, nc_here (Nd.dig_lt _ _)]
          have hk16 := Nd.dig_lt 0 m
          have HP := Aside0.mk (HPC.out 0 4 (by omega) (by omega))
          have HL2 : Aside0 (Nd.look 4 t m = h (Nd.dig 0 m)) := ⟨HL.out⟩
          have HH := Aside0.mk (fun b x e => (HI.out.here (Nd.dig_lt 0 m) (b := b) (x := x) e).2)
          have HH2 : Aside0 (∀ b x, h (Nd.dig 0 m) = some (b, x) → wr.heap[b]? = some (.cells #[(Value.int .i64) x] 3 (0, 0))) := ⟨fun b x e => HH.out b x e⟩
          clear HH
          generalize h (Nd.dig 0 m) = u at ck HL2 HH2
          generalize Nd.dig 0 m = q at ck hk16 HP
          cases u with
          | none =>
            have hnp : hptr (none : Option (Nat × Int)) = .pointer none := rfl
            rw [hnp] at ck
            clear hnp
            have HV2 : Aside0 (getV t n = none) := ⟨by rw [HV.out, HL2.out]; rfl⟩
            go_wp2_with fail
            go_quiet ((go_at_call 32; exact Calls.quiet_of_same (HP.out _)))
            go_wp2_with fail
            go_ret2
            exact ⟨by rw [HV2.out]; rfl, pw_below_drewN HB.out _⟩
          | some x =>
            obtain ⟨b, x⟩ := x
            have hnp : hptr (some (b, x)) = .pointer (some ⟨b, 0, none⟩) := rfl
            rw [hnp] at ck
            clear hnp
            have cv : wr.cell? ⟨b, 0, none⟩ = some ((Value.int .i64) x) := by rw [blk_cell (HH2.out b x rfl)]; rfl
            have HV2 : Aside0 (getV t n = some x) := ⟨by rw [HV.out, HL2.out]; rfl⟩
            go_wp2_with fail
            go_quiet ((go_at_call 32; exact Calls.quiet_of_same (HP.out _)))
            go_wp2_with fail
            go_ret2
            exact ⟨by rw [HV2.out]; rfl, pw_below_drewN HB.out _⟩
  · have HV : Aside0 (getV t n = none) := ⟨if_neg hn⟩
    rw [HV.out]
    by_cases h0 : n < 0
    · clear hn h
      go_enter Try.func13, Try.ntmps13
      go_wp2_with fail
      refine H.out.mono ?_
      rintro e w1 ⟨rfl, rfl⟩
      go_wp2_with fail
      go_ret2
      exact ⟨rfl, Below.refl _ _⟩
    · have h1 : 1048576 ≤ n := by omega
      clear hn h
      go_enter Try.func13, Try.ntmps13
      go_wp2_with fail
      refine H.out.mono ?_
      rintro e w1 ⟨rfl, rfl⟩
      go_wp2_with fail
      go_ret2
      exact ⟨rfl, Below.refl _ _⟩
/-- The trie is another one but for one number, and lies at p'. -/
def Tw (W : World) (t : Nd Int) (n : Nat) (hv : Option (Nat × Int)) (p' : Nat) (u : Nd Int) (w' : World) : Prop :=
  Tr w' p' u ∧ Nd.With W.heap.size n hv (Nd.one hv - Nd.one (Nd.look 4 t n)) 4 t u
theorem Tw.mk {W W1 w3 : World} {n : Nat} {hv : Option (Nat × Int)} {more : Int} {u : Nd Int} (h : Tr W1 p t) (hW : W.heap.size ≤ W1.heap.size) (hm : more = Nd.one hv - Nd.one (Nd.look 4 t n)) (hw : Nd.With W1.heap.size n hv more 4 t u)
    (hI : In w3 (fun b => b < W1.heap.size ∨ W1.heap.size ≤ b) u) : Tw W t n hv w3.heap.size u (w3.alloc (.cells #[nptr u] 68)) := by
  obtain ⟨g1, g2, g3, g4, g5⟩ := hw.spec h.2.2.1 (Nat.le_refl _) hm
  refine ⟨⟨?_, g5 rfl, g1, ?_⟩, by rw [← hm]; exact hw.mono hW⟩
  · exact blk_cell (heap_alloc_new w3 _) 0
  · exact (hI.lt.keep (fun b hb => Below.heap_alloc w3 _ b hb.2)).imp (fun b hb => by have := hb.2; simp; omega)
set_option maxHeartbeats 1000000 in
set_option maxRecDepth 100000 in
theorem put_c (h : Tr W p t) (hs : t.size ≤ 1000000) (n : Nat) (hn : n < 1048576) (v : Int) : Calls Try.prog 10 #[.pointer (some ⟨p, 0, none⟩), .int .i64 n, (Value.int .i64) v] W fun e w' => ∃ p' u b, e = .returned (.pointer (some ⟨p', 0, none⟩)) ∧ Tw W t n (some (b, v)) p' u w' ∧ Below W.heap.size W w' := by
  have hB := (Below.refl W.heap.size W).alloc (Nat.le_refl _) (.cells #[(Value.int .i64) v] 3)
  have hb := heap_alloc_new W (.cells #[(Value.int .i64) v] 3)
  have hT := h.below hB
  have HT := Aside0.mk hT
  have HB := Aside0.mk hB
  have HBK := Aside0.mk hb
  have hsz : (W.alloc (.cells #[(Value.int .i64) v] 3)).heap.size = W.heap.size + 1 := by simp
  have HSZ : Aside0 (W.heap.size < (W.alloc (.cells #[(Value.int .i64) v] 3)).heap.size) := ⟨by omega⟩
  have HN := Aside0.mk hn
  have HS := Aside0.mk hs
  clear hB hb hT h hsz hn hs
  obtain ⟨N, hN⟩ : ∃ N : Int, N = n := ⟨_, rfl⟩
  rw [← hN]
  have g0 : 0 ≤ N := by omega
  have g1 : N < 1048576 := by have := HN.out; omega
  have HNN := Aside0.mk hN
  clear hN
  have HG : Aside0 (getV t N = (Nd.look 4 t n).map Prod.snd) := ⟨by unfold getV; rw [if_pos ⟨g0, g1⟩, HNN.out, Int.toNat_natCast]⟩
  have HWC : Aside0 (∀ (more : Int), -1 ≤ more → more ≤ 1 → ∀ (W1 : World), Below (W.heap.size + 1) (W.alloc (.cells #[(Value.int .i64) v] 3)) W1 → Calls Try.prog 30 #[nptr t, .int .i64 N, .int .i64 0, .pointer (some ⟨W.heap.size, 0, none⟩), .int .i64 more] W1 fun e w' => ∃ u, e = .returned (nptr u) ∧ Nd.With W1.heap.size n (some (W.heap.size, v)) more 4 t u ∧ In w' (fun b => b < W1.heap.size ∨ W1.heap.size ≤ b) u ∧ Below W1.heap.size W1 w') := ⟨fun more m0 m1 W1 hb => by
    rw [HNN.out]
    have hsz : (W.alloc (.cells #[(Value.int .i64) v] 3)).heap.size = W.heap.size + 1 := by simp
    have hT1 := HT.out.below (by rw [hsz]; exact hb)
    exact with_c (some (W.heap.size, v)) (some ⟨W.heap.size, 0, none⟩) ⟨rfl⟩ more n HN.out ⟨m0, m1⟩ 4 (Nat.le_refl _) 0 ⟨rfl⟩ t W1 _ hT1.2.2.1 HS.out hT1.2.2.2 (fun b x e => by
      injection e with e
      injection e with e1 e2
      subst e1 e2
      exact ⟨by have := hb.size; omega, (hb.block _ (by omega)).trans HBK.out⟩)⟩
  have HRT := Aside0.mk (fun (W1 : World) (hb : Below (W.heap.size + 1) (W.alloc (.cells #[(Value.int .i64) v] 3)) W1) => (HT.out.below (W' := W1) (by simpa using hb)).1)
  obtain ⟨ta, hta⟩ := nptr_ptr t
  cases hl : Nd.look 4 t n with
  | none =>
    have HG2 : Aside0 (retG (getV t N) = .tuple #[(.int .i64 0), .bool false]) := ⟨by rw [HG.out, hl]; rfl⟩
    have HL := Aside0.mk hl
    clear hl hta
    go_enter Try.func10, Try.ntmps10
    go_wp2_with fail
    refine (made_c HT.out).mono ?_
    rintro e w1 ⟨rfl, rfl⟩
    go_wp2_with fail
    refine (get_c HT.out N).mono ?_
    rintro e w2 ⟨rfl, hB2⟩
    have HB2 := Aside0.mk (show Below (W.heap.size + 1) (W.alloc (.cells #[(Value.int .i64) v] 3)) w2 by simpa using hB2)
    clear hB2
    rw [HG2.out]
    have hr := HRT.out w2 HB2.out
    go_wp2_with fail
    refine (HWC.out 1 (by decide) (by decide) w2 HB2.out).mono ?_
    rintro e w3 ⟨u, rfl, hw, hI, hb3⟩
    have HW3 := Aside0.mk hw
    have HI3 := Aside0.mk hI
    have HB3 := Aside0.mk ((HB.out.trans (HB2.out.mono (Nat.le_succ _))).trans (hb3.mono (by have := HB2.out.size; have := HB.out.size; omega)))
    obtain ⟨pu, hpu⟩ := nptr_ptr u
    rw [hpu]
    have HPU := Aside0.mk hpu
    clear hw hI hb3 hpu
    go_wp2_with fail
    go_ret
    have hTw := Tw.mk (W := W) (HT.out.below (by simpa using HB2.out)) (by have := HB2.out.size; have := HB.out.size; omega) (by rw [HL.out]; rfl) HW3.out HI3.out
    rw [HPU.out] at hTw
    exact ⟨_, u, W.heap.size, rfl, hTw, HB3.out.alloc HB3.out.size _⟩
  | some x =>
    have HG2 : Aside0 (retG (getV t N) = .tuple #[(Value.int .i64) x.2, .bool true]) := ⟨by rw [HG.out, hl]; rfl⟩
    have HL := Aside0.mk hl
    clear hl hta
    go_enter Try.func10, Try.ntmps10
    go_wp2_with fail
    refine (made_c HT.out).mono ?_
    rintro e w1 ⟨rfl, rfl⟩
    go_wp2_with fail
    refine (get_c HT.out N).mono ?_
    rintro e w2 ⟨rfl, hB2⟩
    have HB2 := Aside0.mk (show Below (W.heap.size + 1) (W.alloc (.cells #[(Value.int .i64) v] 3)) w2 by simpa using hB2)
    clear hB2
    rw [HG2.out]
    have hr := HRT.out w2 HB2.out
    go_wp2_with fail
    refine (HWC.out 0 (by decide) (by decide) w2 HB2.out).mono ?_
    rintro e w3 ⟨u, rfl, hw, hI, hb3⟩
    have HW3 := Aside0.mk hw
    have HI3 := Aside0.mk hI
    have HB3 := Aside0.mk ((HB.out.trans (HB2.out.mono (Nat.le_succ _))).trans (hb3.mono (by have := HB2.out.size; have := HB.out.size; omega)))
    obtain ⟨pu, hpu⟩ := nptr_ptr u
    rw [hpu]
    have HPU := Aside0.mk hpu
    clear hw hI hb3 hpu
    go_wp2_with fail
    go_ret
    have hTw := Tw.mk (W := W) (HT.out.below (by simpa using HB2.out)) (by have := HB2.out.size; have := HB.out.size; omega) (by rw [HL.out]; rfl) HW3.out HI3.out
    rw [HPU.out] at hTw
    exact ⟨_, u, W.heap.size, rfl, hTw, HB3.out.alloc HB3.out.size _⟩
theorem put_out (h : Tr W p t) (n : Int) (hn : n < 0 ∨ 1048576 ≤ n) (v : Int) : Calls Try.prog 10 #[.pointer (some ⟨p, 0, none⟩), .int .i64 n, (Value.int .i64) v] W fun e w' => e = .returned (.pointer (some ⟨p, 0, none⟩)) ∧ Below W.heap.size W w' := by
  have hB := (Below.refl W.heap.size W).alloc (Nat.le_refl _) (.cells #[(Value.int .i64) v] 3)
  have HT := Aside0.mk (h.below hB)
  have HB := Aside0.mk hB
  clear hB h
  by_cases h0 : n < 0
  · clear hn
    go_enter Try.func10, Try.ntmps10
    go_wp2_with fail
    refine (made_c HT.out).mono ?_
    rintro e w1 ⟨rfl, rfl⟩
    go_wp2_with fail
    go_ret
    exact ⟨rfl, HB.out⟩
  · have h1 : 1048576 ≤ n := by omega
    clear hn
    go_enter Try.func10, Try.ntmps10
    go_wp2_with fail
    refine (made_c HT.out).mono ?_
    rintro e w1 ⟨rfl, rfl⟩
    go_wp2_with fail
    go_ret
    exact ⟨rfl, HB.out⟩
/-- What Drop leaves. -/
def Drp (W : World) (p : Nat) (t : Nd Int) (n : Int) (e : Ending) (w' : World) : Prop := (getV t n = none ∧ e = .returned (.pointer (some ⟨p, 0, none⟩)) ∧ Below W.heap.size W w') ∨
    (getV t n ≠ none ∧ ∃ p' u, e = .returned (.pointer (some ⟨p', 0, none⟩)) ∧ Tw W t n.toNat none p' u w' ∧ Below W.heap.size W w')
set_option maxHeartbeats 1000000 in
set_option maxRecDepth 100000 in
theorem drop_c (h : Tr W p t) (hs : t.size ≤ 1000000) (n : Int) : Calls Try.prog 14 #[.pointer (some ⟨p, 0, none⟩), .int .i64 n] W (Drp W p t n) := by
  have HT := Aside0.mk h
  have HS := Aside0.mk hs
  clear h hs
  cases hg : getV t n with
  | none =>
    have HG : Aside0 (retG (getV t n) = .tuple #[(.int .i64 0), .bool false]) := ⟨by rw [hg]; rfl⟩
    have HGV := Aside0.mk hg
    clear hg
    go_enter Try.func14, Try.ntmps14
    go_wp2_with fail
    refine (get_c HT.out n).mono ?_
    rintro e w2 ⟨rfl, hB2⟩
    have HB2 := Aside0.mk hB2
    clear hB2
    rw [HG.out]
    go_wp2_with fail
    go_ret
    exact Or.inl ⟨HGV.out, rfl, HB2.out⟩
  | some x =>
    have HG : Aside0 (retG (getV t n) = .tuple #[(Value.int .i64) x, .bool true]) := ⟨by rw [hg]; rfl⟩
    obtain ⟨hn0, hn1, y, hy⟩ : 0 ≤ n ∧ n < 1048576 ∧ ∃ y, Nd.look 4 t n.toNat = some y := by
      unfold getV at hg
      by_cases hr : 0 ≤ n ∧ n < 1048576
      · rw [if_pos hr] at hg
        obtain ⟨y, hy, _⟩ := Option.map_eq_some_iff.1 hg
        exact ⟨hr.1, hr.2, y, hy⟩
      · rw [if_neg hr] at hg
        cases hg
    have HY := Aside0.mk hy
    have HGV := Aside0.mk hg
    have HN : Aside0 (0 ≤ n ∧ n < 1048576) := ⟨hn0, hn1⟩
    clear hg hy hn0 hn1
    have HWC : Aside0 (∀ (W1 : World), Below W.heap.size W W1 → Calls Try.prog 30 #[nptr t, .int .i64 n, .int .i64 0, .pointer none, .int .i64 (-1)] W1 fun e w' => ∃ u, e = .returned (nptr u) ∧ Nd.With W1.heap.size n.toNat (none : Option (Nat × Int)) (-1) 4 t u ∧ In w' (fun b => b < W1.heap.size ∨ W1.heap.size ≤ b) u ∧ Below W1.heap.size W1 w') := ⟨fun W1 hb => by
      have hT1 := HT.out.below hb
      have := with_c (none : Option (Nat × Int)) none ⟨rfl⟩ (-1) n.toNat (by have := HN.out; omega) ⟨by decide, by decide⟩ 4 (Nat.le_refl _) 0 ⟨rfl⟩ t W1 _ hT1.2.2.1 HS.out hT1.2.2.2 (fun b x e => by cases e)
      rwa [show ((n.toNat : Nat) : Int) = n by have := HN.out; omega] at this⟩
    go_enter Try.func14, Try.ntmps14
    go_wp2_with fail
    refine (get_c HT.out n).mono ?_
    rintro e w2 ⟨rfl, hB2⟩
    have HB2 := Aside0.mk hB2
    have hr := (HT.out.below hB2).1
    clear hB2
    rw [HG.out]
    go_wp2_with fail
    refine (HWC.out w2 HB2.out).mono ?_
    rintro e w3 ⟨u, rfl, hw, hI, hb3⟩
    have HW3 := Aside0.mk hw
    have HI3 := Aside0.mk hI
    have HB3 := Aside0.mk (below_step HB2.out hb3)
    obtain ⟨pu, hpu⟩ := nptr_ptr u
    rw [hpu]
    have HPU := Aside0.mk hpu
    clear hw hI hb3 hpu
    go_wp2_with fail
    go_ret
    have hTw := Tw.mk (W := W) (HT.out.below HB2.out) HB2.out.size (by rw [HY.out]; rfl) HW3.out HI3.out
    rw [HPU.out] at hTw
    exact Or.inr ⟨(by rw [HGV.out]; exact (fun e => by cases e)), _, u, rfl, hTw, HB3.out.alloc HB3.out.size _⟩
end
end Go.Proofs.Ytfehimoiccgahaa.I
