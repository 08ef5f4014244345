/-
  The reference's bytes of one character, and of any characters (gouacheref01.one, gouacheref01.Bytes).
-/
import Derived.Test.YtagncibkgpodfaaBytes
namespace Go.Proofs.Ytagncibkgpodfaa
open Go.RowKit Go.Proofs.YtagncibkgpodfaaW.PrintWords Go.Proofs.YtagncibkgpodfaaW.PrintLast Go.Proofs.YtagncibkgpodfaaW.PrintMore
open Go.Lib (encodeRuneZ encodeRuneZ_one encodeRuneZ_two encodeRuneZ_three encodeRuneZ_four)
set_option linter.unusedVariables false

/-- What the reference's one leaves. -/
def OneS (r : Int) (w : World) (e : Ending) (w' : World) : Prop :=
  ∃ (n : Nat), e = .returned (.slice (some ⟨w.heap.size, 0, none⟩) n n) ∧ n = (encodeRuneZ r).length ∧ w' = w.alloc (.cells (nums .u8 (encodeRuneZ r)).toArray 5)
theorem OneS.mk {r : Int} {w : World} {n : Nat} {xs : Array Value} (ys : List Int) (h : encodeRuneZ r = ys) (hx : xs = (nums .u8 ys).toArray) (hn : n = ys.length) :
    OneS r w (.returned (.slice (some ⟨w.heap.size, 0, none⟩) n n)) (w.alloc (.cells xs 5)) := by
  subst h hx hn
  exact ⟨_, rfl, rfl, rfl⟩

set_option maxHeartbeats 1000000 in
set_option maxRecDepth 100000 in
theorem one_neg (r : Int) (h0 : r < 0) (w : World) : Calls Try.prog 33 #[.int .i32 r] w (OneS r w) := by
  have HE := Aside0.mk (encode_bad (Or.inl h0))
  go_enter Try.func33, Try.ntmps33
  go_wp2
  go_ret
  exact OneS.mk [239, 191, 189] HE.out (by rfl) (by rfl)

set_option maxHeartbeats 1000000 in
set_option maxRecDepth 100000 in
theorem one_big (r : Int) (h0 : 1114111 < r) (w : World) : Calls Try.prog 33 #[.int .i32 r] w (OneS r w) := by
  have HE := Aside0.mk (encode_bad (Or.inr (Or.inr h0)))
  have a1 : ¬ (r < 0) := by omega
  go_enter Try.func33, Try.ntmps33
  go_wp2
  go_ret
  exact OneS.mk [239, 191, 189] HE.out (by rfl) (by rfl)

set_option maxHeartbeats 1000000 in
set_option maxRecDepth 100000 in
theorem one_sur (r : Int) (h0 : 55296 ≤ r) (h1 : r < 57344) (w : World) : Calls Try.prog 33 #[.int .i32 r] w (OneS r w) := by
  have HE := Aside0.mk (encode_bad (Or.inr (Or.inl ⟨h0, by omega⟩)))
  have a1 : ¬ (r < 0) := by omega
  have a2 : ¬ (1114111 < r) := by omega
  go_enter Try.func33, Try.ntmps33
  go_wp2
  go_ret
  exact OneS.mk [239, 191, 189] HE.out (by rfl) (by rfl)

set_option maxHeartbeats 1000000 in
set_option maxRecDepth 100000 in
theorem one_one (r : Int) (h0 : 0 ≤ r) (h1 : r < 128) (w : World) : Calls Try.prog 33 #[.int .i32 r] w (OneS r w) := by
  have HE := Aside0.mk (encodeRuneZ_one h0 (by omega))
  have a2 : ¬ (1114111 < r) := by omega
  have a3 : ¬ (55296 ≤ r) := by omega
  go_enter Try.func33, Try.ntmps33
  go_wp2
  go_ret
  exact OneS.mk [r] HE.out (by rfl) (by rfl)

set_option maxHeartbeats 1000000 in
set_option maxRecDepth 100000 in
theorem one_two (r : Int) (h0 : 128 ≤ r) (h1 : r < 2048) (w : World) : Calls Try.prog 33 #[.int .i32 r] w (OneS r w) := by
  have HE := Aside0.mk (encodeRuneZ_two h0 (by omega))
  have a0 : ¬ (r < 0) := by omega
  have a2 : ¬ (1114111 < r) := by omega
  have a3 : ¬ (55296 ≤ r) := by omega
  have a5 : ¬ (r < 128) := by omega
  go_enter Try.func33, Try.ntmps33
  go_wp2
  go_ret
  exact OneS.mk [192 + r / 64, 128 + r % 64] HE.out (by rfl) (by rfl)

set_option maxHeartbeats 1000000 in
set_option maxRecDepth 100000 in
theorem one_lo (r : Int) (h0 : 2048 ≤ r) (h1 : r < 55296) (w : World) : Calls Try.prog 33 #[.int .i32 r] w (OneS r w) := by
  have HE := Aside0.mk (encodeRuneZ_three (r := r) (Or.inl ⟨h0, h1⟩))
  have a0 : ¬ (r < 0) := by omega
  have a2 : ¬ (1114111 < r) := by omega
  have a3 : ¬ (55296 ≤ r) := by omega
  have a5 : ¬ (r < 128) := by omega
  have a6 : ¬ (r < 2048) := by omega
  have a7 : r < 65536 := by omega
  go_enter Try.func33, Try.ntmps33
  go_wp2
  go_ret
  exact OneS.mk [224 + r / 4096, 128 + r / 64 % 64, 128 + r % 64] HE.out (by rfl) (by rfl)

set_option maxHeartbeats 1000000 in
set_option maxRecDepth 100000 in
theorem one_hi (r : Int) (h0 : 57344 ≤ r) (h1 : r < 65536) (w : World) : Calls Try.prog 33 #[.int .i32 r] w (OneS r w) := by
  have HE := Aside0.mk (encodeRuneZ_three (r := r) (Or.inr ⟨by omega, by omega⟩))
  have a0 : ¬ (r < 0) := by omega
  have a2 : ¬ (1114111 < r) := by omega
  have a3 : 55296 ≤ r := by omega
  have a4 : ¬ (r < 57344) := by omega
  have a5 : ¬ (r < 128) := by omega
  have a6 : ¬ (r < 2048) := by omega
  go_enter Try.func33, Try.ntmps33
  go_wp2
  go_ret
  exact OneS.mk [224 + r / 4096, 128 + r / 64 % 64, 128 + r % 64] HE.out (by rfl) (by rfl)

set_option maxHeartbeats 1000000 in
set_option maxRecDepth 100000 in
theorem one_four (r : Int) (h0 : 65536 ≤ r) (h1 : r ≤ 1114111) (w : World) : Calls Try.prog 33 #[.int .i32 r] w (OneS r w) := by
  have HE := Aside0.mk (encodeRuneZ_four h0 h1)
  have a0 : ¬ (r < 0) := by omega
  have a2 : ¬ (1114111 < r) := by omega
  have a3 : 55296 ≤ r := by omega
  have a4 : ¬ (r < 57344) := by omega
  have a5 : ¬ (r < 128) := by omega
  have a6 : ¬ (r < 2048) := by omega
  have a7 : ¬ (r < 65536) := by omega
  go_enter Try.func33, Try.ntmps33
  go_wp2
  go_ret
  exact OneS.mk [240 + r / 262144, 128 + r / 4096 % 64, 128 + r / 64 % 64, 128 + r % 64] HE.out (by rfl) (by rfl)

theorem one_c (r : Int) (w : World) : Calls Try.prog 33 #[.int .i32 r] w (OneS r w) := by
  by_cases a : r < 0
  · exact one_neg r a w
  by_cases b : 1114111 < r
  · exact one_big r b w
  by_cases c : r < 128
  · exact one_one r (by omega) c w
  by_cases d : r < 2048
  · exact one_two r (by omega) d w
  by_cases e : r < 55296
  · exact one_lo r (by omega) e w
  by_cases f : r < 57344
  · exact one_sur r (by omega) f w
  by_cases g : r < 65536
  · exact one_hi r (by omega) g w
  exact one_four r (by omega) (by omega) w

theorem info5'' : (Try.prog.info? 5).map (fun i => (i.zero, i.size, i.bytes)) = some (some (.int .u8 0), 1, 1) := by kernel_rfl
set_option maxHeartbeats 1000000 in
set_option maxRecDepth 100000 in
/-- gouacheref01.Bytes -/
theorem rbytes_c (A : Option Addr) (c : Nat) (l : List Int) (w : World) (hC : Kd.C (Kd.int .i32) w A l.length l) (hn : l.length ≤ 1000000) :
    Calls Try.prog 29 #[.slice A l.length c] w fun e w' => ∃ v, e = .returned v ∧ Kd.R (Kd.int .u8) 5 w' w.heap.size (fun k => w.heap.size ≤ k) v (T.bytes l) ∧ Below w.heap.size w w' := by
  have HC := Aside0.mk hC
  clear hC
  go_enter Try.func29, Try.ntmps29
  go_wp2
  go_loopw [3, 8] (fun v i wr => ∃ k : Nat, i = .int .i64 k ∧ k ≤ l.length ∧ Aside0 (wr.ownsRow w.heap.size 5 1 v (T.bytes (l.take k)).length (nums .u8 (T.bytes (l.take k)))) ∧ Aside0 (Below w.heap.size w wr)) (fun _ i _ => l.length - (intOf i).toNat)
  case atStart => exact ⟨0, rfl, Nat.zero_le _, ⟨by rw [List.take_zero]; exact own_nil _ _ _ _⟩, ⟨Below.refl _ _⟩⟩
  case round =>
    obtain ⟨k, rfl, hk, HO, HB⟩ := hrel
    by_cases hlt : k < l.length
    · obtain ⟨ad, rfl, hcell⟩ := Kd.at_int HC.out (k : Int) (by omega) (by omega)
      rw [Int.toNat_natCast] at hcell
      have hcell2 := (HB.out.cell (World.block_lt_of_cell? w _ hcell)).trans hcell
      clear hcell
      have hrd : rd l (k : Int) = l[k] := by
        unfold rd
        rw [Int.toNat_natCast, List.getD_eq_getElem?_getD, List.getElem?_eq_getElem hlt]
        rfl
      have htk : l.take (k + 1) = l.take k ++ [l[k]] := by rw [List.take_succ_eq_append_getElem hlt]
      have HT : Aside0 (T.bytes (l.take (k + 1)) = T.bytes (l.take k) ++ encodeRuneZ l[k]) := ⟨by rw [htk, T.bytes_append]; simp [T.bytes]⟩
      rw [hrd] at hcell2
      clear htk hrd
      have hlen : (T.bytes (l.take k)).length + 4 ≤ 140737488355328 := by have := T.bytes_length (l.take k); have h2 : (l.take k).length ≤ k := List.length_take_le _ _; omega
      generalize l[k] = x at hcell2 HT
      have hel := T.encode_length x
      have HBY := Aside0.mk (T.encode_byt x)
      have g1 : (0 : Int) ≤ k := by omega
      obtain ⟨A3, c3, e3⟩ := own_slice HO.out
      subst e3
      go_wp2_with fail
      refine (one_c x _).mono ?_
      rintro e w1 ⟨n, rfl, hn1, rfl⟩
      have HO1 := Aside0.mk (HO.out.alloc (.cells (nums .u8 (encodeRuneZ x)).toArray 5))
      have HL1 := Aside0.mk (own_lit wr w.heap.size 5 .u8 (encodeRuneZ x) HB.out.size (by omega))
      subst hn1
      have hR1 := Kd.R_of_own (enc := Value.int .u8) (h1 := fun _ => rfl) (ok := fun _ => True) HL1.out (fun _ _ => trivial)
      have HC1 := Aside0.mk (Kd.R_reads' hR1).2.2
      have HB1 := Aside0.mk (HB.out.alloc HB.out.size (.cells (nums .u8 (encodeRuneZ x)).toArray 5))
      have hs1 := HB1.out.size
      clear hR1 HL1 HO HB hcell2
      generalize wr.heap.size = z at *
      generalize wr.alloc (.cells (nums .u8 (encodeRuneZ x)).toArray 5) = w2 at *
      go_wp2_with (at_builtin; refine print_append_row (w0 := w) w.heap.size rfl (.tmp 12) (.tmp 14) 22 5 .u8 1 rfl Try.underlying22 info5'' (by decide) (.slice A3 (T.bytes (l.take k)).length c3) (T.bytes (l.take k)) (encodeRuneZ x) (some ⟨z, 0, none⟩) (encodeRuneZ x).length (encodeRuneZ x).length rfl rfl ?a1 ?a2 ?a3 ?a4 ?a5 ?_; (case a1 => exact HO1.out); (case a2 => exact Kd.reads_of_C (enc := Value.int .u8) (d := (0 : Int)) (h1 := fun _ => rfl) HC1.out); (case a3 => exact HB1.out); (case a4 => exact hs1); (case a5 => omega); intro v1 w3 ho hb _ _; have HO := Aside0.mk (show w3.ownsRow w.heap.size 5 1 v1 (T.bytes (l.take k) ++ encodeRuneZ x).length (nums .u8 (T.bytes (l.take k) ++ encodeRuneZ x)) from ho); have HB := Aside0.mk hb; clear ho hb)
      rw [← HT.out] at HO
      go_roundw
      case rel => exact ⟨k + 1, by go_num, hlt, HO, HB⟩
      case measure => simp [intOf]; omega
    · have hkl : k = l.length := by omega
      subst hkl
      have HT : Aside0 (l.take l.length = l) := ⟨List.take_length⟩
      go_wp2_with fail
      go_ret
      exact ⟨_, rfl, by rw [HT.out] at HO; exact Kd.R_of_own HO.out (fun k hk => own_base HO.out k hk), HB.out⟩

end Go.Proofs.Ytagncibkgpodfaa
