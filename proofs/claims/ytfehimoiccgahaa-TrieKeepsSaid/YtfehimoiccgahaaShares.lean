/-
  TrieShares: the walk.
-/
import Derived.Test.YtfehimoiccgahaaOrder
namespace Go.Proofs.Ytfehimoiccgahaa
open Go.RowKit Go.Proofs.YtfehimoiccgahaaW.PrintWords
set_option linter.unusedVariables false
set_option linter.unusedSimpArgs false
open Classical in
/-- The same numbers: as many nodes. -/
theorem Nd.nodes_same {V V2 : Type} {t : Nd V} {u : Nd V2} (hg : Nd.Good 4 t) (h0 : t ≠ .nil) (kg : Nd.Good 4 u) (k0 : u ≠ .nil) (h : ∀ m, m < 1048576 → (t.val m).isSome = (u.val m).isSome) : Nd.frsh .nil t = Nd.frsh .nil u := by
  have key : ∀ (V3 : Type) (x : Nd V3), (∀ m, m < 1048576 → (t.val m).isSome = (x.val m).isSome) → Nd.Keys 4 x ((List.range 1048576).filter fun m => decide (t.val m ≠ none)) := fun V3 x hx =>
    Nd.keys_of (fun y hy => by rw [List.mem_filter, List.mem_range] at hy; exact hy.1) (fun m hm => by
      rw [List.mem_filter, List.mem_range, decide_eq_true_iff]
      have := hx m hm
      cases hv : x.val m <;> cases hw : t.val m <;> rw [hv, hw] at this <;> simp_all)
  rw [Nd.nodes_eq hg h0 (key V t (fun _ _ => rfl)), Nd.nodes_eq kg k0 (key V2 u h)]
theorem ptr_info : ∃ j, Try.prog.info? 68 = some j ∧ j.size ≠ 0 := by
  have : (Try.prog.info? 68).map (·.size) = some 1 := by kernel_rfl
  cases h : Try.prog.info? 68 with
  | none => rw [h] at this; cases this
  | some j => rw [h] at this; exact ⟨j, rfl, by simp at this; omega⟩
theorem eql_same (a : Addr) (w : World) : (binOp .eql 24 (.pointer (some a)) (.pointer (some a))).run Try.prog w = .ok (.bool true) w := by
  obtain ⟨j, hj, _⟩ := ptr_info
  exact run_eql_ptr_same w a Try.underlying24 hj
set_option maxHeartbeats 2000000 in
set_option maxRecDepth 100000 in
theorem walk4 (A : Option Addr) (c : Nat) (l : List Int) (n : Int) (w : World) (hC : Kd.C (Kd.int .i64) w A l.length l) (hcl : l.length ≤ c) (hb : l.length * 8 ≤ 140737488351232) :
    Calls Try.prog 4 #[.slice A l.length c, .int .i64 n] w fun e w' => e = .returned (.bool true) ∧ Below w.heap.size w w' := by
  have HC := Aside0.mk hC
  have HCL := Aside0.mk hcl
  clear hC hcl
  by_cases hbig : 60 < l.length
  · have gbig : (60 : Int) < (l.length : Int) := by omega
    go_enter Try.func4, Try.ntmps4
    go_wp2_with fail
    refine (lives_c _).mono ?_
    rintro e w2 ⟨rfl, hB2⟩
    have HB2 := Aside0.mk hB2
    clear hB2
    go_wp2_with fail
    go_ret
    exact ⟨rfl, HB2.out⟩
  · have gbig : ¬ ((60 : Int) < (l.length : Int)) := by omega
    go_enter Try.func4, Try.ntmps4
    go_wp2_with fail
    refine (I.new_c w).mono ?_
    rintro e w1 ⟨rfl, hT, hB⟩
    have HT := Aside0.mk hT
    have HB := Aside0.mk hB
    clear hT hB
    have HS0 := I.new_size w.heap.size
    go_wp2_with fail
    go_loopw [5, 23] (fun a i wr => ∃ (k pa : Nat) (ta : Nd Int), i = .int .i64 k ∧ a = .pointer (some ⟨pa, 0, none⟩) ∧ k ≤ l.length ∧ Aside0 (I.Tr wr pa ta) ∧ Aside0 (ta.size ≤ k) ∧ Aside0 (Below w.heap.size w wr)) (fun _ i _ => l.length - (intOf i).toNat)
    case atStart => exact ⟨0, _, _, rfl, rfl, Nat.zero_le _, HT, ⟨by rw [HS0]; decide⟩, HB⟩
    case round =>
      clear HT HB HS0
      obtain ⟨k, pa, ta, rfl, rfl, hk, HT, HS, HB⟩ := hrel
      by_cases hlt : k < l.length
      · have g1 : (k : Int) < (l.length : Int) := by omega
        obtain ⟨ad, rfl, c1⟩ := num_at (Kd.C_below HC.out HB.out) hlt hlt
        generalize l[k] = x at c1
        go_wp2_with fail
        refine (I.put_s HT.out (by have := HS.out; omega) x x).mono ?_
        rintro e w4 ⟨p', u, rfl, hP⟩
        have HT4 := Aside0.mk hP.tr
        have HS4 : Aside0 (u.size ≤ ((k + 1 : Nat) : Int)) := ⟨by have := hP.size; have := HS.out; omega⟩
        have HB4 := Aside0.mk (below_step HB.out hP.below)
        clear hP
        go_wp2_with fail
        go_roundw
        case rel => exact ⟨k + 1, p', u, by go_num, rfl, hlt, HT4, HS4, HB4⟩
        case measure => simp [intOf]; omega
      · have hkl : k = l.length := by omega
        subst hkl
        have HS1 : Aside0 (ta.size ≤ 60) := ⟨by have := HS.out; omega⟩
        clear HS
        by_cases hn : 0 ≤ n ∧ n < 1048576
        · obtain ⟨hn0, hn1⟩ := hn
          go_wp2_with fail
          refine (I.put_s HT.out (by have := HS1.out; omega) n 7).mono ?_
          rintro e w2 ⟨pA, a, rfl, hA⟩
          have HA := Aside0.mk hA
          have HTa := Aside0.mk hA.tr
          have HTt := Aside0.mk (HT.out.below hA.below)
          have HB2 := Aside0.mk (below_step HB.out hA.below)
          have HVa : Aside0 (a.val n.toNat = some 7) := ⟨by rw [hA.val n.toNat (by omega), if_pos (Int.toNat_of_nonneg hn0)]⟩
          have HSA : Aside0 (a.size ≤ 61) := ⟨by have := hA.size; have := HS1.out; omega⟩
          clear hA
          go_wp2_with fail
          refine (I.put_s HTa.out (by have := HSA.out; omega) n 8).mono ?_
          rintro e w3 ⟨pB, b, rfl, hB⟩
          have HFB : Aside0 (Nd.frsh a b = 5 ∧ b.size = a.size) := ⟨by
            obtain ⟨q1, q2⟩ := hB.five ⟨hn0, hn1⟩
            rw [HVa.out, if_neg (fun e => by cases e)] at q2
            exact ⟨q1, by omega⟩⟩
          have HTb := Aside0.mk hB.tr
          have HTa3 := Aside0.mk (HTa.out.below hB.below)
          have HTt3 := Aside0.mk (HTt.out.below hB.below)
          have HB3 := Aside0.mk (below_step HB2.out hB.below)
          have HVb := Aside0.mk hB.val
          clear hB
          go_wp2_with fail
          refine (I.drop_s HTb.out (by have := HFB.out.2; have := HSA.out; omega) n).mono ?_
          rintro e w4 ⟨pC, d, rfl, hD⟩
          have HVn : Aside0 (I.getV b n ≠ none) := ⟨by
            rw [I.getV_val, if_pos ⟨hn0, hn1⟩, HVb.out n.toNat (by omega), if_pos (Int.toNat_of_nonneg hn0)]
            exact fun e => by cases e⟩
          have HSD : Aside0 (d.size = a.size - 1) := ⟨by
            have := hD.size'
            rw [if_neg HVn.out, HFB.out.2] at this
            exact this⟩
          have HVd := Aside0.mk hD.val
          have HTd := Aside0.mk hD.tr
          have HTb4 := Aside0.mk (HTb.out.below hD.below)
          have HTa4 := Aside0.mk (HTa3.out.below hD.below)
          have HTt4 := Aside0.mk (HTt3.out.below hD.below)
          have HB4 := Aside0.mk (below_step HB3.out hD.below)
          clear hD
          go_wp2_with fail
          refine (I.put_s HTd.out (by have := HSD.out; have := HSA.out; omega) n 7).mono ?_
          rintro e w5 ⟨pD, q, rfl, hQ⟩
          have HVq := Aside0.mk hQ.val
          have HTq := Aside0.mk hQ.tr
          have HTd5 := Aside0.mk (HTd.out.below hQ.below)
          have HTb5 := Aside0.mk (HTb4.out.below hQ.below)
          have HTa5 := Aside0.mk (HTa4.out.below hQ.below)
          have HTt5 := Aside0.mk (HTt4.out.below hQ.below)
          have HB5 := Aside0.mk (below_step HB4.out hQ.below)
          clear hQ
          have HGq : Aside0 (I.retG (I.getV q n) = .tuple #[.int .i64 7, .bool true]) := ⟨by
            rw [I.getV_val, if_pos ⟨hn0, hn1⟩, HVq.out n.toNat (by omega), if_pos (Int.toNat_of_nonneg hn0)]
            rfl⟩
          have HGa : Aside0 (I.retG (I.getV a n) = .tuple #[.int .i64 7, .bool true]) := ⟨by
            rw [I.getV_val, if_pos ⟨hn0, hn1⟩, HVa.out]
            rfl⟩
          have HNab : Aside0 (Nd.frsh .nil b = Nd.frsh .nil a) := ⟨Nd.nodes_same HTb.out.2.2.1 HTb.out.2.1 HTa.out.2.2.1 HTa.out.2.1 (fun m hm => by
            rw [HVb.out m hm, HA.out.val m hm]
            by_cases e : (m : Int) = n <;> simp [e])⟩
          have HNqa : Aside0 (Nd.frsh .nil q = Nd.frsh .nil a) := ⟨Nd.nodes_same HTq.out.2.2.1 HTq.out.2.1 HTa.out.2.2.1 HTa.out.2.1 (fun m hm => by
            rw [HVq.out m hm, HVd.out m hm, HVb.out m hm, HA.out.val m hm]
            by_cases e : (m : Int) = n <;> simp [e])⟩
          clear HVq HVd HVb HVa HA
          go_wp2_with fail
          refine (I.get_c HTq.out n).mono ?_
          rintro e w6 ⟨rfl, hB⟩
          rw [HGq.out]
          have HTq6 := Aside0.mk (HTq.out.below hB)
          have HTd6 := Aside0.mk (HTd5.out.below hB)
          have HTb6 := Aside0.mk (HTb5.out.below hB)
          have HTa6 := Aside0.mk (HTa5.out.below hB)
          have HTt6 := Aside0.mk (HTt5.out.below hB)
          have HB6 := Aside0.mk (below_step HB5.out hB)
          clear hB HTq HTd HTb HTa HTt HTa3 HTt3 HTb4 HTa4 HTt4 HTd5 HTb5 HTa5 HTt5 HB2 HB3 HB4 HB5
          go_wp2_with fail
          refine (I.get_c HTa6.out n).mono ?_
          rintro e w7 ⟨rfl, hB⟩
          rw [HGa.out]
          have HTq7 := Aside0.mk (HTq6.out.below hB)
          have HTd7 := Aside0.mk (HTd6.out.below hB)
          have HTb7 := Aside0.mk (HTb6.out.below hB)
          have HTa7 := Aside0.mk (HTa6.out.below hB)
          have HTt7 := Aside0.mk (HTt6.out.below hB)
          have HB7 := Aside0.mk (below_step HB6.out hB)
          clear hB HTq6 HTd6 HTb6 HTa6 HTt6 HB6
          go_wp2_with fail
          refine (I.Fresh_c HTa7.out HTb7.out).mono ?_
          rintro e w8 ⟨rfl, hB⟩
          rw [HFB.out.1]
          have HTq8 := Aside0.mk (HTq7.out.below hB)
          have HTd8 := Aside0.mk (HTd7.out.below hB)
          have HTb8 := Aside0.mk (HTb7.out.below hB)
          have HTa8 := Aside0.mk (HTa7.out.below hB)
          have HTt8 := Aside0.mk (HTt7.out.below hB)
          have HB8 := Aside0.mk (below_step HB7.out hB)
          clear hB HTq7 HTd7 HTb7 HTa7 HTt7 HB7
          go_wp2_with fail
          refine (I.nodes_c HTa8.out).mono ?_
          rintro e w9 ⟨rfl, rfl⟩
          go_wp2_with fail
          refine (I.nodes_c HTb8.out).mono ?_
          rintro e w9 ⟨rfl, rfl⟩
          rw [HNab.out]
          have HNA : Aside0 (Calls Try.prog 12 #[.pointer (some ⟨pA, 0, none⟩)] w9 (fun e w' => e = .returned (.int .i64 (Nd.frsh .nil a)) ∧ w' = w9)) := ⟨I.nodes_c HTa8.out⟩
          have HNQ : Aside0 (Calls Try.prog 12 #[.pointer (some ⟨pD, 0, none⟩)] w9 (fun e w' => e = .returned (.int .i64 (Nd.frsh .nil a)) ∧ w' = w9)) := ⟨by
            have := I.nodes_c HTq8.out
            rwa [HNqa.out] at this⟩
          generalize Nd.frsh .nil a = nd at HNA HNQ ⊢
          go_wp2_with fail
          refine (I.len_c HTa8.out).mono ?_
          rintro e w9 ⟨rfl, rfl⟩
          go_wp2_with fail
          refine (I.len_c HTb8.out).mono ?_
          rintro e w9 ⟨rfl, rfl⟩
          rw [HFB.out.2]
          have HLD := Aside0.mk (I.len_c HTd8.out)
          have HLA := Aside0.mk (I.len_c HTa8.out)
          rw [HSD.out] at HLD
          have hz0 : 0 ≤ a.size := HTa8.out.2.2.1.nonneg
          have hz1 : a.size ≤ 61 := HSA.out
          generalize a.size = sz at HLD HLA hz0 hz1 ⊢
          go_wp2_with fail
          refine HLD.out.mono ?_
          rintro e w9 ⟨rfl, rfl⟩
          go_wp2_with fail
          refine HLA.out.mono ?_
          rintro e w9 ⟨rfl, rfl⟩
          go_wp2_with fail
          refine HNQ.out.mono ?_
          rintro e w9 ⟨rfl, rfl⟩
          go_wp2_with fail
          refine HNA.out.mono ?_
          rintro e w9 ⟨rfl, rfl⟩
          go_wp2_with fail
          refine (I.drop_s HTt8.out (by have := HS1.out; omega) n).mono ?_
          rintro e w10 ⟨pE, x, rfl, hX⟩
          have HTx := Aside0.mk hX.tr
          have HTt9 := Aside0.mk (HTt8.out.below hX.below)
          have HB9 := Aside0.mk (below_step HB8.out hX.below)
          have hfx := hX.few
          clear hX
          go_wp2_with fail
          refine (I.Fresh_c HTt9.out HTx.out).mono ?_
          rintro e w11 ⟨rfl, hB⟩
          have HB10 := Aside0.mk (below_step HB9.out hB)
          clear hB
          generalize Nd.frsh ta x = fx at hfx ⊢
          go_wp2_with fail
          refine (lives_c _).mono ?_
          rintro e w12 ⟨rfl, hB8⟩
          have HB11 := Aside0.mk (below_step HB10.out hB8)
          clear hB8
          go_wp2_with fail
          go_ret
          exact ⟨rfl, HB11.out⟩
        · have HN := Aside0.mk hn
          have HPO : Aside0 (∀ (W : World), I.Tr W pa ta → Calls Try.prog 10 #[.pointer (some ⟨pa, 0, none⟩), .int .i64 n, .int .i64 1] W fun e w' => e = .returned (.pointer (some ⟨pa, 0, none⟩)) ∧ Below W.heap.size W w') := ⟨fun W h => I.put_out h n (by have := HN.out; omega) 1⟩
          have HDO : Aside0 (∀ (W : World), I.Tr W pa ta → Calls Try.prog 14 #[.pointer (some ⟨pa, 0, none⟩), .int .i64 n] W fun e w' => e = .returned (.pointer (some ⟨pa, 0, none⟩)) ∧ Below W.heap.size W w') := ⟨fun W h => (I.drop_s h (by have := HS1.out; omega) n).mono fun e w' ⟨p', u, he, hD⟩ => by
            obtain ⟨rfl, rfl⟩ := hD.out (by rw [I.getV_val, if_neg HN.out])
            exact ⟨he, hD.below⟩⟩
          have hes := eql_same ⟨pa, 0, none⟩
          by_cases hn0 : n < 0
          · clear hn
            go_wp2_with fail
            refine (HPO.out _ HT.out).mono ?_
            rintro e w2 ⟨rfl, hB⟩
            have HT2 := Aside0.mk (HT.out.below hB)
            have HB2 := Aside0.mk (below_step HB.out hB)
            clear hB
            go_wp2_with fail
            refine (HDO.out _ HT2.out).mono ?_
            rintro e w3 ⟨rfl, hB⟩
            have HB3 := Aside0.mk (below_step HB2.out hB)
            clear hB
            go_wp2_with fail
            refine (lives_c _).mono ?_
            rintro e w12 ⟨rfl, hB8⟩
            have HB11 := Aside0.mk (below_step HB3.out hB8)
            clear hB8
            go_wp2_with fail
            go_ret
            exact ⟨rfl, HB11.out⟩
          · have hn1 : 1048576 ≤ n := by omega
            clear hn
            go_wp2_with fail
            refine (HPO.out _ HT.out).mono ?_
            rintro e w2 ⟨rfl, hB⟩
            have HT2 := Aside0.mk (HT.out.below hB)
            have HB2 := Aside0.mk (below_step HB.out hB)
            clear hB
            go_wp2_with fail
            refine (HDO.out _ HT2.out).mono ?_
            rintro e w3 ⟨rfl, hB⟩
            have HB3 := Aside0.mk (below_step HB2.out hB)
            clear hB
            go_wp2_with fail
            refine (lives_c _).mono ?_
            rintro e w12 ⟨rfl, hB8⟩
            have HB11 := Aside0.mk (below_step HB3.out hB8)
            clear hB8
            go_wp2_with fail
            go_ret
            exact ⟨rfl, HB11.out⟩
end Go.Proofs.Ytfehimoiccgahaa
