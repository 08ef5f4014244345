/-
  Tries of numbers in memory: fresh, New, made, Len, Nodes, Fresh.
-/
import Derived.Test.YtfehimoiccgahaaWithI
import Derived.Deep.MidRow
import Derived.LaidEqlPtr
namespace Go.Proofs.Ytfehimoiccgahaa.I
open Go.RowKit Go.Proofs.YtfehimoiccgahaaW.PrintWords Go.Proofs.Ytfehimoiccgahaa
set_option linter.unusedVariables false
set_option linter.unusedSimpArgs false
theorem infoA : (Try.prog.info? 62).map (·.size) = some 16 := by kernel_rfl
def dn (d : Nat → Nd Int) : List Value := (List.range 16).map (fun k => nptr (d k))
theorem ix_n (d : Nat → Nd Int) (k : Nat) (hk : k < 16) (w : World) : (Instr.index 62 (.agg (dn d).toArray) (.int .i64 k)).run Try.prog w = .ok (nptr (d k)) w := by
  have h : k = 0 ∨ k = 1 ∨ k = 2 ∨ k = 3 ∨ k = 4 ∨ k = 5 ∨ k = 6 ∨ k = 7 ∨ k = 8 ∨ k = 9 ∨ k = 10 ∨ k = 11 ∨ k = 12 ∨ k = 13 ∨ k = 14 ∨ k = 15 := by omega
  rcases h with h | h | h | h | h | h | h | h | h | h | h | h | h | h | h | h
  · subst h; exact (show (Instr.index 62 (.agg (dn d).toArray) (.int .i64 ((0 : Nat) : Int))).run Try.prog w = .ok (nptr (d 0)) w from by kernel_rfl)
  · subst h; exact (show (Instr.index 62 (.agg (dn d).toArray) (.int .i64 ((1 : Nat) : Int))).run Try.prog w = .ok (nptr (d 1)) w from by kernel_rfl)
  · subst h; exact (show (Instr.index 62 (.agg (dn d).toArray) (.int .i64 ((2 : Nat) : Int))).run Try.prog w = .ok (nptr (d 2)) w from by kernel_rfl)
  · subst h; exact (show (Instr.index 62 (.agg (dn d).toArray) (.int .i64 ((3 : Nat) : Int))).run Try.prog w = .ok (nptr (d 3)) w from by kernel_rfl)
  · subst h; exact (show (Instr.index 62 (.agg (dn d).toArray) (.int .i64 ((4 : Nat) : Int))).run Try.prog w = .ok (nptr (d 4)) w from by kernel_rfl)
  · subst h; exact (show (Instr.index 62 (.agg (dn d).toArray) (.int .i64 ((5 : Nat) : Int))).run Try.prog w = .ok (nptr (d 5)) w from by kernel_rfl)
  · subst h; exact (show (Instr.index 62 (.agg (dn d).toArray) (.int .i64 ((6 : Nat) : Int))).run Try.prog w = .ok (nptr (d 6)) w from by kernel_rfl)
  · subst h; exact (show (Instr.index 62 (.agg (dn d).toArray) (.int .i64 ((7 : Nat) : Int))).run Try.prog w = .ok (nptr (d 7)) w from by kernel_rfl)
  · subst h; exact (show (Instr.index 62 (.agg (dn d).toArray) (.int .i64 ((8 : Nat) : Int))).run Try.prog w = .ok (nptr (d 8)) w from by kernel_rfl)
  · subst h; exact (show (Instr.index 62 (.agg (dn d).toArray) (.int .i64 ((9 : Nat) : Int))).run Try.prog w = .ok (nptr (d 9)) w from by kernel_rfl)
  · subst h; exact (show (Instr.index 62 (.agg (dn d).toArray) (.int .i64 ((10 : Nat) : Int))).run Try.prog w = .ok (nptr (d 10)) w from by kernel_rfl)
  · subst h; exact (show (Instr.index 62 (.agg (dn d).toArray) (.int .i64 ((11 : Nat) : Int))).run Try.prog w = .ok (nptr (d 11)) w from by kernel_rfl)
  · subst h; exact (show (Instr.index 62 (.agg (dn d).toArray) (.int .i64 ((12 : Nat) : Int))).run Try.prog w = .ok (nptr (d 12)) w from by kernel_rfl)
  · subst h; exact (show (Instr.index 62 (.agg (dn d).toArray) (.int .i64 ((13 : Nat) : Int))).run Try.prog w = .ok (nptr (d 13)) w from by kernel_rfl)
  · subst h; exact (show (Instr.index 62 (.agg (dn d).toArray) (.int .i64 ((14 : Nat) : Int))).run Try.prog w = .ok (nptr (d 14)) w from by kernel_rfl)
  · subst h; exact (show (Instr.index 62 (.agg (dn d).toArray) (.int .i64 ((15 : Nat) : Int))).run Try.prog w = .ok (nptr (d 15)) w from by kernel_rfl)
theorem infoN : ∃ j, Try.prog.info? 66 = some j ∧ j.size = 33 := by
  have := infoT
  cases h : Try.prog.info? 66 with
  | none => rw [h] at this; cases this
  | some j => rw [h] at this; exact ⟨j, rfl, by simpa using this⟩
theorem eql_same (a : Addr) (w : World) : (binOp .eql 61 (.pointer (some a)) (.pointer (some a))).run Try.prog w = .ok (.bool true) w := by
  obtain ⟨j, hj, _⟩ := infoN
  exact run_eql_ptr_same w a Try.underlying61 hj
theorem eql_nil (a : Addr) (w : World) : (binOp .eql 61 (.pointer none) (.pointer (some a))).run Try.prog w = .ok (.bool false) w := by
  obtain ⟨j, hj, _⟩ := infoN
  have h : ∀ d : Nat, (Op.equalIn (d + 1) 61 (.pointer none) (.pointer (some a))).run Try.prog w = .ok false w := fun d => by
    simp [Op.equalIn, run_underlying Try.underlying61, sizeOf, typeInfo, hj]
  simp only [binOp]
  simp [Op.equal, Op.maxDepth, h 9999]
theorem eql_other {a b : Nat} {w : World} {ca cb : Array Value} {ta tb : TypeId} (hne : a ≠ b) (ha : w.heap[a]? = some (.cells ca ta (0, 0))) (hb : w.heap[b]? = some (.cells cb tb (0, 0))) :
    (binOp .eql 61 (.pointer (some ⟨a, 0, none⟩)) (.pointer (some ⟨b, 0, none⟩))).run Try.prog w = .ok (.bool false) w := by
  obtain ⟨j, hj, hs⟩ := infoN
  exact run_eql_ptr_other w Try.underlying61 hj (by omega) (fun e => hne (by injection e)) ha hb
theorem fresh_nil (o : Option Addr) (W : World) : Calls Try.prog 31 #[.pointer o, .pointer none] W fun e w' => e = .returned (.int .i64 0) ∧ w' = W := by
  go_enter Try.func31, Try.ntmps31
  go_wp2_with fail
  go_ret
  exact ⟨rfl, rfl⟩
theorem fresh_same (a : Addr) (W : World) : Calls Try.prog 31 #[.pointer (some a), .pointer (some a)] W fun e w' => e = .returned (.int .i64 0) ∧ w' = W := by
  have h := eql_same a W
  go_enter Try.func31, Try.ntmps31
  go_wp2_with fail
  go_ret
  exact ⟨rfl, rfl⟩
set_option maxHeartbeats 1000000 in
set_option maxRecDepth 100000 in
theorem fresh_step (a : Nat) (d : Nat → Nd Int) (h : Nat → Option (Nat × Int)) (s : Int) (o : Nd Int) (W : World) (hb : W.heap[a]? = some (.cells (nc d h s) 66 (0, 0))) (hne : o.adr ≠ some a)
    (ho : ∀ b, o.adr = some b → W.heap[b]? = some (.cells (nc o.down o.here o.size) 66 (0, 0))) (m : Int) (hm : 0 ≤ m ∧ m ≤ 10000000)
    (hr : ∀ k, k < 16 → 0 ≤ Nd.frsh (o.down k) (d k) ∧ Nd.frsh (o.down k) (d k) ≤ m ∧ Calls Try.prog 31 #[nptr (o.down k), nptr (d k)] W fun e w' => e = .returned (.int .i64 (Nd.frsh (o.down k) (d k))) ∧ w' = W) :
    Calls Try.prog 31 #[nptr o, .pointer (some ⟨a, 0, none⟩)] W fun e w' => e = .returned (.int .i64 (1 + sum 16 (fun k => Nd.frsh (o.down k) (d k)))) ∧ w' = W := by
  have HB := Aside0.mk hb
  have HR := Aside0.mk hr
  have HO := Aside0.mk ho
  obtain ⟨hm0, hm1⟩ := hm
  have HRG : Aside0 (W.rangeAt a 0 (dn d)) := ⟨fun j v hj => by
    have hj16 : j < 16 := by have := (List.getElem?_eq_some_iff.1 hj).1; simpa [dn] using this
    rw [blk_cell hb, Nat.zero_add, nc_down hj16]
    unfold dn at hj
    simpa [hj16] using hj⟩
  have HIX := Aside0.mk (ix_n d)
  have HLEN : Aside0 ((dn d).length = 16) := ⟨by simp [dn]⟩
  clear hb hr ho
  generalize dn d = D at HRG HIX HLEN
  cases o with
  | nil =>
    clear hne
    show Calls Try.prog 31 #[.pointer none, .pointer (some ⟨a, 0, none⟩)] W _
    have he := eql_nil ⟨a, 0, none⟩ W
    go_enter Try.func31, Try.ntmps31
    go_upto_region 4 with (fail)
    go_wp2_with (refine wpList_load_mid (op := ⟨some 19, _, _, _, _, _⟩) rfl 62 (.tmp 18) rfl a 0 rfl D _ HRG.out Try.underlying62 rfl (by rw [HLEN.out]; exact infoA) ?_)
    go_loop [5, 20] (fun n i => ∃ (k : Nat) (z : Int), i = .int .i64 k ∧ n = .int .i64 z ∧ k ≤ 16 ∧ 1 ≤ z ∧ z ≤ 1 + k * m ∧ Aside0 (z = 1 + sum k (fun k => Nd.frsh ((Nd.nil : Nd Int).down k) (d k)))) (fun _ i => 16 - (intOf i).toNat)
    case atStart => exact ⟨0, 1, rfl, rfl, Nat.zero_le _, by decide, by simp, ⟨rfl⟩⟩
    case round =>
      obtain ⟨k, z, rfl, rfl, hk, hz0, hz1, HZ⟩ := hrel
      by_cases hlt : k < 16
      · have g1 : (k : Int) < 16 := by omega
        have hix := HIX.out k hlt W
        obtain ⟨q0, q1, q2⟩ := HR.out k hlt
        have hkm : (k : Int) * m + m ≤ 160000000 := by
          have : (k : Int) * m ≤ 15 * m := Int.mul_le_mul_of_nonneg_right (by omega) hm0
          omega
        have hkm0 : 0 ≤ (k : Int) * m := Int.mul_nonneg (by omega) hm0
        have HS : Aside0 (sum (k + 1) (fun k => Nd.frsh ((Nd.nil : Nd Int).down k) (d k)) = sum k (fun k => Nd.frsh ((Nd.nil : Nd Int).down k) (d k)) + Nd.frsh ((Nd.nil : Nd Int).down k) (d k)) := ⟨rfl⟩
        have HQ := Aside0.mk q2
        have HKM : Aside0 (((k + 1 : Nat) : Int) * m = k * m + m) := ⟨by rw [Int.natCast_add, Int.add_mul]; simp⟩
        clear q2
        generalize Nd.frsh ((Nd.nil : Nd Int).down k) (d k) = y at q0 q1 HS HQ
        generalize (k : Int) * m = km at hkm hkm0 hz1 HKM
        generalize nptr (d k) = pd at hix HQ
        go_wp2_with fail
        refine HQ.out.mono ?_
        rintro e w1 ⟨rfl, rfl⟩
        go_wp2_with fail
        go_round
        case rel => exact ⟨k + 1, z + y, by go_num, rfl, hlt, by omega, by rw [HKM.out]; omega, ⟨by rw [HS.out, HZ.out]; omega⟩⟩
        case measure => simp [intOf]; omega
      · have hkl : k = 16 := by omega
        subst hkl
        clear hz1
        go_wp2_with fail
        go_ret
        exact ⟨by rw [← HZ.out]; rfl, rfl⟩
  | node b d2 h2 s2 =>
    have hab : b ≠ a := fun e => hne (by rw [e]; rfl)
    show Calls Try.prog 31 #[.pointer (some ⟨b, 0, none⟩), .pointer (some ⟨a, 0, none⟩)] W _
    have HBB := Aside0.mk (HO.out b rfl)
    have he := eql_other hab HBB.out HB.out
    have HAB := Aside0.mk hab
    clear hne hab
    go_enter Try.func31, Try.ntmps31
    go_upto_region 4 with (fail)
    go_wp2_with (refine wpList_load_mid (op := ⟨some 19, _, _, _, _, _⟩) rfl 62 (.tmp 18) rfl a 0 rfl D _ HRG.out Try.underlying62 rfl (by rw [HLEN.out]; exact infoA) ?_)
    go_loop [5, 20] (fun n i => ∃ (k : Nat) (z : Int), i = .int .i64 k ∧ n = .int .i64 z ∧ k ≤ 16 ∧ 1 ≤ z ∧ z ≤ 1 + k * m ∧ Aside0 (z = 1 + sum k (fun k => Nd.frsh ((Nd.node b d2 h2 s2).down k) (d k)))) (fun _ i => 16 - (intOf i).toNat)
    case atStart => exact ⟨0, 1, rfl, rfl, Nat.zero_le _, by decide, by simp, ⟨rfl⟩⟩
    case round =>
      obtain ⟨k, z, rfl, rfl, hk, hz0, hz1, HZ⟩ := hrel
      by_cases hlt : k < 16
      · have g1 : (k : Int) < 16 := by omega
        have hix := HIX.out k hlt W
        obtain ⟨q0, q1, q2⟩ := HR.out k hlt
        have hkm : (k : Int) * m + m ≤ 160000000 := by
          have : (k : Int) * m ≤ 15 * m := Int.mul_le_mul_of_nonneg_right (by omega) hm0
          omega
        have hkm0 : 0 ≤ (k : Int) * m := Int.mul_nonneg (by omega) hm0
        have HS : Aside0 (sum (k + 1) (fun k => Nd.frsh ((Nd.node b d2 h2 s2).down k) (d k)) = sum k (fun k => Nd.frsh ((Nd.node b d2 h2 s2).down k) (d k)) + Nd.frsh ((Nd.node b d2 h2 s2).down k) (d k)) := ⟨rfl⟩
        have HQ := Aside0.mk q2
        have HKM : Aside0 (((k + 1 : Nat) : Int) * m = k * m + m) := ⟨by rw [Int.natCast_add, Int.add_mul]; simp⟩
        have hcd : W.cell? ⟨b, k, none⟩ = some (nptr ((Nd.node b d2 h2 s2).down k)) := by rw [blk_cell HBB.out, nc_down hlt]
        clear q2
        generalize Nd.frsh ((Nd.node b d2 h2 s2).down k) (d k) = y at q0 q1 HS HQ
        generalize (k : Int) * m = km at hkm hkm0 hz1 HKM
        generalize nptr (d k) = pd at hix HQ
        generalize nptr ((Nd.node b d2 h2 s2).down k) = po at hcd HQ
        go_wp2_with fail
        refine HQ.out.mono ?_
        rintro e w1 ⟨rfl, rfl⟩
        go_wp2_with fail
        go_round
        case rel => exact ⟨k + 1, z + y, by go_num, rfl, hlt, by omega, by rw [HKM.out]; omega, ⟨by rw [HS.out, HZ.out]; omega⟩⟩
        case measure => simp [intOf]; omega
      · have hkl : k = 16 := by omega
        subst hkl
        clear hz1
        go_wp2_with fail
        go_ret
        exact ⟨by rw [← HZ.out]; rfl, rfl⟩
theorem frsh_bounds {r : Nat} {t o : Nd Int} (hg : Nd.Good r t) : 0 ≤ Nd.frsh o t ∧ Nd.frsh o t ≤ Nd.most r := ⟨Nd.frsh_nonneg t o, Nd.frsh_most hg⟩
theorem most_le : ∀ r, r ≤ 4 → 0 ≤ Nd.most r ∧ Nd.most r ≤ 10000000 := fun r hr => by
  obtain rfl | rfl | rfl | rfl | rfl : r = 0 ∨ r = 1 ∨ r = 2 ∨ r = 3 ∨ r = 4 := by omega
  all_goals exact ⟨by decide, by decide⟩
theorem fresh_c : ∀ (r : Nat) (hr : r ≤ 4) (t o : Nd Int) (W : World) (P Q : Nat → Prop) (hg : Nd.Good r t) (hI : In W P t) (hO : In W Q o),
    Calls Try.prog 31 #[nptr o, nptr t] W fun e w' => e = .returned (.int .i64 (Nd.frsh o t)) ∧ w' = W
  | r, hr, .nil, o, W, P, Q, hg, hI, hO => by
    obtain ⟨q, hq⟩ := nptr_ptr o
    rw [hq, Nd.frsh_nil]
    exact fresh_nil q W
  | r, hr, .node a d h s, o, W, P, Q, hg, hI, hO => by
    rw [Nd.frsh]
    by_cases e : o.adr = some a
    · rw [if_pos e]
      cases o with
      | nil => cases e
      | node b d2 h2 s2 =>
        injection e with e
        subst e
        exact fresh_same _ W
    · rw [if_neg e]
      have ho : ∀ b, o.adr = some b → W.heap[b]? = some (.cells (nc o.down o.here o.size) 66 (0, 0)) := fun b hb => by
        cases o with
        | nil => cases hb
        | node b2 d2 h2 s2 =>
          injection hb with hb
          subst hb
          exact hO.2.1
      cases r with
      | zero =>
        refine fresh_step a d h s o W hI.2.1 e ho 1 (by decide) (fun k hk => ?_)
        have hd : d k = .nil := hg.1 k
        rw [hd, Nd.frsh_nil]
        obtain ⟨q, hq⟩ := nptr_ptr (o.down k)
        rw [hq]
        exact ⟨by decide, by decide, fresh_nil q W⟩
      | succ r =>
        have hm := most_le r (by omega)
        refine fresh_step a d h s o W hI.2.1 e ho (Nd.most r) hm (fun k hk => ?_)
        have hg2 : Nd.Good r (d k) := (hg.2.1 k).1
        have hb := frsh_bounds (o := o.down k) hg2
        exact ⟨hb.1, hb.2, fresh_c r (by omega) (d k) (o.down k) W P Q hg2 (hI.down hk) (hO.down hk)⟩
end Go.Proofs.Ytfehimoiccgahaa.I
