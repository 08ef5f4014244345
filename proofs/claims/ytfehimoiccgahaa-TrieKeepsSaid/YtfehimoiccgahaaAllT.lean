/-
  The iterator over a trie: walk, All.
-/
import Derived.Test.YtfehimoiccgahaaNodesT
import Derived.Test.YtfehimoiccgahaaUn
namespace Go.Proofs.Ytfehimoiccgahaa.S
open Go.RowKit Go.Proofs.YtfehimoiccgahaaW.PrintWords Go.Proofs.Ytfehimoiccgahaa Nd
set_option linter.unusedVariables false
set_option linter.unusedSimpArgs false
theorem yield_any {m : Nat} (m' : Nat) {P : Program} {l : Nat} {args : Array Value} {W : World} {R : Ending → World → Prop} (h : YieldAt Fence.wide m P l args W R) : YieldAt Fence.wide m' P l args W R := by
  obtain ⟨fn, tmps, assign, body, hy, hR⟩ := h
  exact ⟨fn, tmps, assign, body, hy, ⟨hR.1, fun c cs _ => hR.2 c cs (fun d h => by cases h)⟩⟩
theorem or16 (f k : Nat) (hf : f < 1048576) (hk : k < 16) : Go.bits .or .i64 ((f : Int) * 16) (k : Int) = ((f * 16 + k : Nat) : Int) := by
  have h : (f * 16 ||| k) = f * 16 + k := by
    have := Nat.two_pow_add_eq_or_of_lt (i := 4) (b := k) (by omega) f
    rw [show (2 : Nat) ^ 4 * f = f * 16 by omega] at this
    exact this.symm
  have e1 : ((f : Int) * 16) = ((f * 16 : Nat) : Int) := by omega
  have hx : (f * 16 ||| k) < 2 ^ 62 := by rw [h]; omega
  have a1 : (BitVec.ofInt 64 ((f * 16 : Nat) : Int)).toNat = f * 16 := by
    rw [BitVec.ofInt_natCast, BitVec.toNat_ofNat]; exact Nat.mod_eq_of_lt (by omega)
  have a2 : (BitVec.ofInt 64 ((k : Nat) : Int)).toNat = k := by
    rw [BitVec.ofInt_natCast, BitVec.toNat_ofNat]; exact Nat.mod_eq_of_lt (by omega)
  rw [e1, ← h]
  show IntKind.i64.wrap ((BitVec.ofInt 64 ((f * 16 : Nat) : Int) ||| BitVec.ofInt 64 (k : Int)).toNat : Int) = _
  rw [BitVec.toNat_or, a1, a2]
  exact IntWalk.i64_in _ (by omega)
theorem upto_pre (t : Nd ByteArray) (f n : Nat) : ∀ d, upto t f n <+: upto t f (n + d)
  | 0 => List.prefix_refl _
  | d + 1 => (upto_pre t f n d).trans (by rw [show n + (d + 1) = (n + d) + 1 by omega, upto_succ]; exact List.prefix_append _ _)
theorem upto_flat (t : Nd ByteArray) (f n : Nat) (hn : n ≤ 16) : upto t f n <+: flat t f := by
  have := upto_pre t f n (16 - n)
  rw [show n + (16 - n) = 16 by omega, ← flat_eq] at this
  exact this
set_option maxHeartbeats 4000000 in
set_option maxRecDepth 100000 in
theorem walk_in (l n₀ N : Nat) (J Jx : List (Nat × ByteArray) → World → Prop)
    (hY : ∀ m pre x W, J pre W → pre.length < N → YieldAt Fence.wide m Try.prog l #[.int .i64 ((x : Nat × ByteArray).1 : Int), .string x.2] W fun e W' => (e = .returned (.bool true) ∧ J (pre ++ [x]) W' ∧ Below n₀ W W') ∨ (e = .returned (.bool false) ∧ Jx (pre ++ [x]) W')) :
    ∀ (r : Nat) (t : Nd ByteArray) (n f : Nat) (pre : List (Nat × ByteArray)) (W : World), r ≤ 4 → t ≠ .nil → Nd.Good r t → In W (fun b => b < n₀) t → f < 16 ^ (4 - r) → J pre W → pre.length + (flat t f).length ≤ N →
      CallsIn Fence.wide n Try.prog 38 #[nptr t, .int .i64 (f : Int), .func (.yield l) #[] #[]] W fun e W' => (e = .returned (.bool true) ∧ J (pre ++ flat t f) W' ∧ Below n₀ W W') ∨ (e = .returned (.bool false) ∧ ∃ q, q <+: flat t f ∧ Jx (pre ++ q) W') := by
  intro r
  induction r with
  | zero =>
    intro t n f pre W _ h0 hg hI hf hJ hN
    cases t with
    | nil => exact absurd rfl h0
    | node a d h s =>
      have HY := Aside0.mk hY
      have HG := Aside0.mk hg
      have HN := Aside0.mk hN
      have HI := Aside0.mk hI
      have HF : Aside0 (f < 65536) := ⟨hf⟩
      have HJ := Aside0.mk hJ
      clear hY hg hN hI hf hJ h0
      show CallsIn Fence.wide n Try.prog 38 #[.pointer (some ⟨a, 0, none⟩), _, _] W _
      refine callsIn_of_wp Try.func38 rfl trivial ?_ rfl
      simp only [Try.ntmps38, List.size_toArray, List.length_cons, List.length_nil, Nat.reduceAdd, Nat.reduceSub, Array.replicate_succ, Array.replicate_zero, List.push_toArray, List.append_toArray, List.nil_append, List.cons_append]
      gi_wp2
      gi_loopw [10] (fun v wr => ∃ k : Nat, v = .int .i64 k ∧ k ≤ 16 ∧ Aside0 (J (pre ++ upto (.node a d h s) f k) wr) ∧ Aside0 (Below n₀ W wr)) (fun v _ => 16 - (intOf v).toNat)
      case atStart => exact ⟨0, rfl, by omega, ⟨by rw [upto_zero, List.append_nil]; exact HJ.out⟩, ⟨Below.refl _ _⟩⟩
      case round =>
        obtain ⟨k, rfl, hk, HJr, HBr⟩ := hrel
        by_cases hlt : k < 16
        · have g1 : (k : Int) < 16 := by omega
          have hIr := HI.out.keep (W' := wr) (fun b hb => HBr.out.block b hb)
          have c0 : wr.cell? ⟨a, 16 + k, none⟩ = some (hptr (h k)) := by rw [blk_cell hIr.2.1, nc_here hlt]
          have c1 : wr.cell? ⟨a, k, none⟩ = some (.pointer none) := by
            rw [blk_cell hIr.2.1, nc_down hlt]
            have := HG.out.1 k
            rw [show d k = .nil from this]
            rfl
          have hcv := fun b x e => (hIr.2.2.2 k b x hlt e)
          cases hh : h k with
          | none =>
            rw [hh] at c0
            replace c0 : wr.cell? ⟨a, 16 + k, none⟩ = some (.pointer none) := c0
            have hpc : piece (.node a d h s) f k = [] := by
              unfold piece
              rw [HG.out.1 k, flat, List.append_nil]
              show own f k (h k) = []
              rw [hh]
              rfl
            have HJ2 : Aside0 (J (pre ++ upto (.node a d h s) f (k + 1)) wr) := ⟨by rw [upto_succ, hpc, List.append_nil]; exact HJr.out⟩
            clear hpc hIr hcv hh
            gi_wp2_with fail
            refine ⟨fun _ h => (by cases h), ?_⟩
            gi_wp2_with fail
            refine ⟨trivial, ?_⟩
            gi_wp2_with fail
            exact ⟨⟨k + 1, by go_num, by omega, HJ2, HBr⟩, by simp [intOf]; omega⟩
          | some x =>
            obtain ⟨b, v⟩ := x
            obtain ⟨hb, hbv⟩ := hcv b v hh
            rw [hh] at c0
            replace c0 : wr.cell? ⟨a, 16 + k, none⟩ = some (.pointer (some ⟨b, 0, none⟩)) := c0
            have cb : wr.cell? ⟨b, 0, none⟩ = some (.string v) := (blk_cell hbv 0).trans rfl
            have hpc : piece (.node a d h s) f k = [(f * 16 + k, v)] := by
              unfold piece
              rw [HG.out.1 k, flat, List.append_nil]
              show own f k (h k) = _
              rw [hh]
              rfl
            have hor := or16 f k (by have := HF.out; omega) hlt
            have hsh : wrap64 ((f : Int) * 16) = (f : Int) * 16 := IntWalk.wrap64_in _ (by have := HF.out; omega)
            obtain ⟨fn, tmps, assign, body, hy, hR⟩ := HY.out (n - 1) _ (f * 16 + k, v) wr HJr.out (by
              have h1 := (upto_flat (.node a d h s) f (k + 1) (by omega)).length_le
              rw [upto_succ, hpc, List.length_append] at h1
              have := HN.out
              rw [List.length_append]
              simp at h1
              omega)
            have HR := Aside0.mk hR
            dsimp only at hy
            rw [show (((f * 16 + k : Nat)) : Int) = (f : Int) * 16 + (k : Int) from by omega] at hy
            clear hR hIr hcv hh hbv hb
            have hdd : ∀ k : Nat, (Fence.wide.depth.isSome = true → 1 ≤ k) := fun k h => by
              rw [show Fence.wide.depth = none from rfl] at h
              cases h
            gi_wp2_with fail
            refine ⟨hdd _, ?_⟩
            refine HR.out.mono ?_
            clear hy hdd c0 cb hor hsh
            rintro e w2 (⟨rfl, hJ3, hb3⟩ | ⟨rfl, hx3⟩)
            · have hI2 := HI.out.keep (W' := w2) (fun b hb => (HBr.out.trans hb3).block b hb)
              replace c1 : w2.cell? ⟨a, k, none⟩ = some (.pointer none) := (hb3.cell (p := ⟨a, k, none⟩) HI.out.1).trans c1
              have HJ2 : Aside0 (J (pre ++ upto (.node a d h s) f (k + 1)) w2) := ⟨by rw [upto_succ, hpc, ← List.append_assoc]; exact hJ3⟩
              have HB2 := Aside0.mk (HBr.out.trans hb3)
              clear hJ3 hb3 hI2 hpc HBr HJr HR
              gi_wp2_with fail
              refine ⟨trivial, ?_⟩
              gi_wp2_with fail
              exact ⟨⟨k + 1, by go_num, by omega, HJ2, HB2⟩, by simp [intOf]; omega⟩
            · have HX : Aside0 (∃ q, q <+: flat (.node a d h s) f ∧ Jx (pre ++ q) w2) := ⟨upto (.node a d h s) f (k + 1), upto_flat _ _ _ (by omega), by rw [upto_succ, hpc, ← List.append_assoc]; exact hx3⟩
              clear hx3 hpc HR
              gi_wp2_with fail
              go_ret
              exact .inr ⟨rfl, HX.out⟩
        · have hk16 : k = 16 := by omega
          subst hk16
          have HJ16 : Aside0 (J (pre ++ flat (.node a d h s) f) wr) := ⟨by rw [flat_eq]; exact HJr.out⟩
          clear HJr
          gi_wp2_with fail
          go_ret
          exact .inl ⟨rfl, HJ16.out, HBr.out⟩
  | succ r ih =>
    intro t n f pre W hr h0 hg hI hf hJ hN
    cases t with
    | nil => exact absurd rfl h0
    | node a d h s =>
      have HG := Aside0.mk hg
      have HN := Aside0.mk hN
      have HI := Aside0.mk hI
      have hff : f < 65536 ∧ f * 16 + 16 ≤ 16 ^ (4 - r) := by
        have e : 16 ^ (4 - r) = 16 ^ (4 - (r + 1)) * 16 := by rw [← Nat.pow_succ]; congr 1; omega
        have e2 : 16 ^ (4 - (r + 1)) ≤ 16 ^ 4 := Nat.pow_le_pow_right (by decide) (by omega)
        rw [show (16 : Nat) ^ 4 = 65536 by decide] at e2
        rw [e]
        omega
      have HF := Aside0.mk hff
      have HIH := Aside0.mk ih
      have HR4 : Aside0 (r ≤ 4) := ⟨by omega⟩
      have HJ := Aside0.mk hJ
      clear hY hg hN hI hf hJ h0 ih hff hr
      show CallsIn Fence.wide n Try.prog 38 #[.pointer (some ⟨a, 0, none⟩), _, _] W _
      refine callsIn_of_wp Try.func38 rfl trivial ?_ rfl
      simp only [Try.ntmps38, List.size_toArray, List.length_cons, List.length_nil, Nat.reduceAdd, Nat.reduceSub, Array.replicate_succ, Array.replicate_zero, List.push_toArray, List.append_toArray, List.nil_append, List.cons_append]
      gi_wp2
      gi_loopw [10] (fun v wr => ∃ k : Nat, v = .int .i64 k ∧ k ≤ 16 ∧ Aside0 (J (pre ++ upto (.node a d h s) f k) wr) ∧ Aside0 (Below n₀ W wr)) (fun v _ => 16 - (intOf v).toNat)
      case atStart => exact ⟨0, rfl, by omega, ⟨by rw [upto_zero, List.append_nil]; exact HJ.out⟩, ⟨Below.refl _ _⟩⟩
      case round =>
        obtain ⟨k, rfl, hk, HJr, HBr⟩ := hrel
        by_cases hlt : k < 16
        · have g1 : (k : Int) < 16 := by omega
          have hIr := HI.out.keep (W' := wr) (fun b hb => HBr.out.block b hb)
          have c0 : wr.cell? ⟨a, 16 + k, none⟩ = some (.pointer none) := by
            rw [blk_cell hIr.2.1, nc_here hlt]
            have := HG.out.1 k
            rw [show h k = none from this]
            rfl
          have c1 : wr.cell? ⟨a, k, none⟩ = some (nptr (d k)) := by rw [blk_cell hIr.2.1, nc_down hlt]
          have hpc : piece (.node a d h s) f k = flat (d k) (f * 16 + k) := by
            unfold piece
            rw [HG.out.1 k]
            rfl
          have hgd := (HG.out.2.1 k).1
          replace hgd : Nd.Good r (d k) := hgd
          have hId : In wr (fun b => b < n₀) (d k) := hIr.2.2.1 k hlt
          have hle : pre.length + (upto (.node a d h s) f k).length + (flat (d k) (f * 16 + k)).length ≤ N := by
            have h1 := (upto_flat (.node a d h s) f (k + 1) (by omega)).length_le
            rw [upto_succ, hpc, List.length_append] at h1
            have := HN.out
            omega
          have HX : Aside0 (∀ q, q <+: flat (d k) (f * 16 + k) → (upto (.node a d h s) f k ++ q) <+: flat (.node a d h s) f) := ⟨fun q hq => by
            have h1 := upto_flat (.node a d h s) f (k + 1) (by omega)
            rw [upto_succ, hpc] at h1
            exact ((List.prefix_append_right_inj _).2 hq).trans h1⟩
          have HU : Aside0 (upto (.node a d h s) f (k + 1) = upto (.node a d h s) f k ++ flat (d k) (f * 16 + k)) := ⟨by rw [upto_succ, hpc]⟩
          clear hpc hIr
          generalize d k = x at c1 hgd hId hle HX HU
          cases x with
          | nil =>
            replace c1 : wr.cell? ⟨a, k, none⟩ = some (.pointer none) := c1
            have HJ2 : Aside0 (J (pre ++ upto (.node a d h s) f (k + 1)) wr) := ⟨by rw [HU.out, flat, List.append_nil]; exact HJr.out⟩
            clear hgd hId hle HX HU HIH
            gi_wp2_with fail
            refine ⟨fun _ h => (by cases h), ?_⟩
            gi_wp2_with fail
            refine ⟨trivial, ?_⟩
            gi_wp2_with fail
            exact ⟨⟨k + 1, by go_num, by omega, HJ2, HBr⟩, by simp [intOf]; omega⟩
          | node a2 d2 h2 s2 =>
            have hor := or16 f k (by have := HF.out.1; omega) hlt
            have hsh : wrap64 ((f : Int) * 16) = (f : Int) * 16 := IntWalk.wrap64_in _ (by have := HF.out.1; omega)
            have hrec := HIH.out (.node a2 d2 h2 s2) (n - 1) (f * 16 + k) (pre ++ upto (.node a d h s) f k) wr HR4.out (fun e => by cases e) hgd hId (by have := HF.out.2; omega) HJr.out (by rw [List.length_append]; omega)
            rw [show (((f * 16 + k : Nat)) : Int) = (f : Int) * 16 + (k : Int) from by omega] at hrec
            have HREC := Aside0.mk hrec
            replace c1 : wr.cell? ⟨a, k, none⟩ = some (.pointer (some ⟨a2, 0, none⟩)) := c1
            have hdd : ∀ k : Nat, (Fence.wide.depth.isSome = true → 1 ≤ k) := fun k h => by
              rw [show Fence.wide.depth = none from rfl] at h
              cases h
            clear hgd hId hle hrec HIH
            gi_wp2_with fail
            refine ⟨fun _ h => (by cases h), ?_⟩
            gi_wp2_with fail
            refine ⟨trivial, hdd _, ?_⟩
            refine HREC.out.mono ?_
            clear hdd c0 c1 hor hsh
            rintro e w2 (⟨rfl, hJ3, hb3⟩ | ⟨rfl, q, hq, hx3⟩)
            · have HJ2 : Aside0 (J (pre ++ upto (.node a d h s) f (k + 1)) w2) := ⟨by rw [HU.out, ← List.append_assoc]; exact hJ3⟩
              have HB2 := Aside0.mk (HBr.out.trans hb3)
              clear hJ3 hb3 HU HX HREC HBr HJr
              gi_wp2_with fail
              exact ⟨⟨k + 1, by go_num, by omega, HJ2, HB2⟩, by simp [intOf]; omega⟩
            · have HX2 : Aside0 (∃ q, q <+: flat (.node a d h s) f ∧ Jx (pre ++ q) w2) := ⟨_, HX.out q hq, by rw [← List.append_assoc]; exact hx3⟩
              clear hx3 hq HU HX HREC
              gi_wp2_with fail
              go_ret
              exact .inr ⟨rfl, HX2.out⟩
        · have hk16 : k = 16 := by omega
          subst hk16
          have HJ16 : Aside0 (J (pre ++ flat (.node a d h s) f) wr) := ⟨by rw [flat_eq]; exact HJr.out⟩
          clear HJr
          gi_wp2_with fail
          go_ret
          exact .inl ⟨rfl, HJ16.out, HBr.out⟩
set_option maxHeartbeats 1000000 in
/-- What All's function hands on: what the trie has, rising. -/
theorem all_stops {w : World} {B p m : Nat} {t : Nd ByteArray} (h : Tr w p t) (ht : w.cell? ⟨B, 0, none⟩ = some (.pointer (some ⟨p, 0, none⟩))) :
    SeqStopsK Fence.wide m Try.prog 37 #[.pointer (some ⟨B, 0, none⟩)] (fun x : Nat × ByteArray => #[.int .i64 (x.1 : Int), .string x.2]) (Below w.heap.size) (fun xs => xs = flat t 0) (fun pre => pre <+: flat t 0) (flat t 0).length w := fun l J Jx W hW _ _ hY h0 => by
  have H := Aside0.mk (h.below hW)
  have HN := Aside0.mk h
  have c0 : W.cell? ⟨B, 0, none⟩ = some (.pointer (some ⟨p, 0, none⟩)) := (hW.cell (p := ⟨B, 0, none⟩) (World.block_lt_of_cell? _ _ ht)).trans ht
  have hw := walk_in l w.heap.size (flat t 0).length J Jx (fun m pre x W1 hj hl => yield_any m (hY pre x W1 hj hl)) 4 t (m - 1) 0 [] W (Nat.le_refl _) h.2.1 h.2.2.1
    (h.2.2.2.keep (fun b hb => hW.block b hb)) (by decide) h0 (by simp)
  rw [List.nil_append] at hw
  simp only [List.nil_append] at hw
  have HW := Aside0.mk hw
  obtain ⟨a, ha, _⟩ := H.out.node
  have c1 := H.out.1
  rw [ha] at c1 hw
  have HW := Aside0.mk hw
  clear h h0 ht hY hW hw ha
  have hdd : ∀ k : Nat, (Fence.wide.depth.isSome = true → 1 ≤ k) := fun k h => by
    rw [show Fence.wide.depth = none from rfl] at h
    cases h
  refine callsIn_of_wp Try.func37 rfl trivial ?_ rfl
  simp only [Try.ntmps37, List.size_toArray, List.length_cons, List.length_nil, Nat.reduceAdd, Nat.reduceSub, Array.replicate_succ, Array.replicate_zero, List.push_toArray, List.append_toArray, List.nil_append, List.cons_append]
  gi_wp2_with fail
  refine ⟨trivial, hdd _, ?_⟩
  refine (callsIn_wide.2 (made_c H.out)).mono ?_
  rintro e w1 ⟨rfl, rfl⟩
  gi_wp2_with fail
  refine ⟨trivial, hdd _, ?_⟩
  refine HW.out.mono ?_
  rintro e w2 (⟨rfl, hj, hb⟩ | ⟨rfl, q, hq, hx⟩)
  · have HJ := Aside0.mk hj
    clear hj hb
    gi_wp2_with fail
    go_end0
    exact ⟨⟨_, rfl⟩, .inl ⟨_, rfl, HJ.out⟩⟩
  · have HX := Aside0.mk (And.intro hq hx)
    clear hq hx
    gi_wp2_with fail
    go_end0
    exact ⟨⟨_, rfl⟩, .inr ⟨_, HX.out⟩⟩
end Go.Proofs.Ytfehimoiccgahaa.S
