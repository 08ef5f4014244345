/-
  TrieActs: the walk.
-/
import Derived.Test.YtfehimoiccgahaaRefU
import Derived.Deep.CutBlock
namespace Go.Proofs.Ytfehimoiccgahaa
open Go.RowKit Go.Proofs.YtfehimoiccgahaaW Go.Proofs.YtfehimoiccgahaaW.PrintWords PTrieActs
set_option linter.unusedVariables false
set_option linter.unusedSimpArgs false
/-- An act's cells. -/
def ac (y : S40) : Array Value := #[.bool y.f0, .int .i64 y.f1, .string y.f2]
theorem act_at {W : World} {A : Option Addr} {l : List S40} (h : Kd.C k40 W A l.length l) (k : Nat) (hk : k < l.length) : ∃ ad, A = some ad ∧ W.cell? (ad.add (k * 3)) = some (.bool (l[k]).f0) ∧ W.cell? ⟨(ad.add (k * 3)).block, (ad.add (k * 3)).off + 1, none⟩ = some (.int .i64 (l[k]).f1) ∧
    W.cell? ⟨(ad.add (k * 3)).block, (ad.add (k * 3)).off + 2, none⟩ = some (.string (l[k]).f2) := by
  have := at_T40 h (k : Int) (by omega) (by omega)
  rw [rd40_at l k hk, Int.toNat_natCast] at this
  exact this
/-- What an act makes of the pairs. -/
def stepL (y : S40) (L : List S79) : List S79 := if y.f0 = true then dropL y.f1 L else putL y.f1 y.f2 L
/-- What holds between the acts: base W; a trie t at p, its pairs L. -/
structure Ac (W w : World) (p : Nat) (t : Nd ByteArray) (A : Option Addr) (c : Nat) (L : List S79) (k : Nat) : Prop where
  tr : S.Tr w p t
  pr : Prs L t
  rd : Kd.C k79 w A L.length L
  le : L.length ≤ c
  sz : t.size ≤ k
  bel : Below W.heap.size W w
theorem Ac.below {W w w' : World} {p : Nat} {t : Nd ByteArray} {A : Option Addr} {c : Nat} {L : List S79} {k : Nat} (h : Ac W w p t A c L k) (hb : Below w.heap.size w w') : Ac W w' p t A c L k :=
  ⟨h.tr.below hb, h.pr, Kd.C_below h.rd hb, h.le, h.sz, below_step h.bel hb⟩
theorem Ac.len {W w : World} {p : Nat} {t : Nd ByteArray} {A : Option Addr} {c : Nat} {L : List S79} {k : Nat} (h : Ac W w p t A c L k) (hk : k ≤ 1000000) : L.length ≤ 1000000 := by
  have h1 := h.pr.length h.tr.2.2.1
  have h2 := h.sz
  omega
/-- What is asked of both. -/
theorem ask_both {L : List S79} {t : Nd ByteArray} (h : Prs L t) (n : Int) : ∃ x b, S.retG (S.getV t n) = .tuple #[.string x, .bool b] ∧ getR (getL n L) = (x, b) := by
  have hg := h.get n
  cases hl : getL n L with
  | none =>
    rw [hl] at hg
    refine ⟨⟨#[]⟩, false, ?_, rfl⟩
    rw [← hg]
    rfl
  | some p =>
    rw [hl] at hg
    refine ⟨p.f1, true, ?_, rfl⟩
    rw [← hg]
    rfl
theorem bx {w : World} {y : S40} {b : Nat} (h : w.heap[b]? = some (.cells (ac y) 40 (0, 0))) : w.cell? ⟨b, 0, none⟩ = some (.bool y.f0) ∧ w.cell? ⟨b, 1, none⟩ = some (.int .i64 y.f1) ∧ w.cell? ⟨b, 2, none⟩ = some (.string y.f2) :=
  ⟨(blk_cell h 0).trans rfl, (blk_cell h 1).trans rfl, (blk_cell h 2).trans rfl⟩
/-- What an act leaves. -/
def Left (W wc : World) (y : S40) (p : Nat) (t : Nd ByteArray) (p' : Nat) (u : Nd ByteArray) (A' : Option Addr) (c' : Nat) (L : List S79) (k b : Nat) : Prop :=
  Ac W wc p' u A' c' (stepL y L) (k + 1) ∧ S.Tr wc p t ∧ Nd.frsh t u ≤ 5 ∧ (y.f0 = false → 0 ≤ y.f1 → y.f1 < 1048576 → Nd.frsh t u = 5) ∧ wc.heap[b]? = some (.cells (ac y) 40 (0, 0))
theorem Left.below {W wc w' : World} {y : S40} {p : Nat} {t : Nd ByteArray} {p' : Nat} {u : Nd ByteArray} {A' : Option Addr} {c' : Nat} {L : List S79} {k b : Nat} (h : Left W wc y p t p' u A' c' L k b) (hb : Below wc.heap.size wc w') : Left W w' y p t p' u A' c' L k b :=
  ⟨h.1.below hb, h.2.1.below hb, h.2.2.1, h.2.2.2.1, S.obj_keep h.2.2.2.2 hb⟩
set_option maxHeartbeats 4000000 in
set_option maxRecDepth 100000 in
theorem acts_w {W : World} {A : Option Addr} {c : Nat} {l : List S40} (ask stop : Int) (h : Kd.C k40 W A l.length l) (hc : l.length ≤ c) (hf : Fits l) (hn : l.length ≤ 1000000000000000) :
    Calls Try.prog 5 #[.slice A l.length c, .int .i64 ask, .int .i64 stop] W fun e w' => e = .returned (.bool true) ∧ Below W.heap.size W w' := by
  have H := Aside0.mk h
  have HL := Aside0.mk (light_c h hc hf hn)
  have gl : (l.length : Int) ≤ 1000000000000000 := by omega
  clear h hc hf hn
  go_enter Try.func5, Try.ntmps5
  go_wp2_with fail
  refine HL.out.mono ?_
  rintro e w1 ⟨b, rfl, HB, hb⟩
  have HW1 := Aside0.mk hb
  clear hb
  cases b with
  | false =>
    go_wp2_with fail
    refine (lives_c _).mono ?_
    rintro e w2 ⟨rfl, hb⟩
    have HW2 := Aside0.mk (below_step HW1.out hb)
    clear hb
    go_wp2_with fail
    go_ret
    exact ⟨rfl, HW2.out⟩
  | true =>
    have HN : Aside0 (l.length ≤ 150) := ⟨HB.out rfl⟩
    clear HB HL
    go_wp2_with fail
    refine (S.new_c w1).mono ?_
    rintro e w2 ⟨rfl, hT, hB⟩
    have HA : Aside0 (Ac W w2 (w1.heap.size + 1) (.node w1.heap.size (fun _ => .nil) (fun _ => none) 0) none 0 [] 0) := ⟨⟨hT, ⟨List.Pairwise.nil, fun x => ⟨fun h => (List.not_mem_nil h).elim, fun h => by rw [val_new] at h; cases h.2.2⟩⟩, Kd.C_nil _ _, Nat.le_refl _, Int.le_refl _, below_step HW1.out hB⟩⟩
    clear hT hB
    go_wp2_with fail
    go_loopw [7, 8, 23] (fun v7 v8 i wr => ∃ (k p : Nat) (t : Nd ByteArray) (A' : Option Addr) (c' : Nat) (L : List S79), v7 = .pointer (some ⟨p, 0, none⟩) ∧ v8 = .slice A' L.length c' ∧ i = .int .i64 k ∧ k ≤ l.length ∧ Aside0 (Ac W wr p t A' c' L k)) (fun _ _ i _ => l.length - (intOf i).toNat)
    case atStart => exact ⟨0, _, _, _, _, _, rfl, rfl, rfl, Nat.zero_le _, HA⟩
    case round =>
      clear HA
      obtain ⟨k, p, t, A', c', L, rfl, rfl, rfl, hk, HA⟩ := hrel
      by_cases hlt : k < l.length
      · have g1 : (k : Int) < (l.length : Int) := by omega
        obtain ⟨ad, rfl, e0, e1, e2⟩ := act_at H.out k hlt
        have e0 := pw_cell_below HA.out.bel e0
        have e1 := pw_cell_below HA.out.bel e1
        have e2 := pw_cell_below HA.out.bel e2
        have HK : Aside0 (k ≤ 150) := ⟨by have := HN.out; omega⟩
        have HLT := Aside0.mk hlt
        clear hk
        generalize l[k] = y at *
        clear hlt
        have hal := heap_alloc_new wr (.cells (ac y) 40)
        have hab : Below wr.heap.size wr (wr.alloc (.cells (ac y) 40)) := (Below.refl _ _).alloc (Nat.le_refl _) _
        have HA2 := Aside0.mk (HA.out.below hab)
        have HBX := Aside0.mk hal
        clear hal hab
        go_upto_region 8 with fail
        change Code.wp Try.prog _ _ _ (wr.alloc (.cells (ac y) 40))
        generalize wr.alloc (.cells (ac y) 40) = w3 at *
        generalize wr.heap.size = b10 at *
        have HKL := Aside0.mk (HA2.out.len (by have := HK.out; omega))
        have HTS : Aside0 (t.size ≤ 1000000) := ⟨by have := HA2.out.sz; have := HK.out; omega⟩
        clear HA e0 e1 e2
        obtain ⟨x0, x1, x2⟩ := bx HBX.out
        go_upto_if 29 with fail
        go_cut [7, 8] from 25 to 49 (fun v7 v8 wc => ∃ (p' : Nat) (u : Nd ByteArray) (A2 : Option Addr) (c2 : Nat), v7 = .pointer (some ⟨p', 0, none⟩) ∧ v8 = .slice A2 (stepL y L).length c2 ∧ Aside0 (Left W wc y p t p' u A2 c2 L k b10))
        case first =>
          cases hf0 : y.f0 with
          | true =>
            have HF0 := Aside0.mk hf0
            rw [hf0] at x0
            clear hf0
            go_wp2_with fail
            refine (S.drop_s HA2.out.tr HTS.out y.f1).mono ?_
            rintro e w4 ⟨p', u, rfl, hD⟩
            have HA4 := Aside0.mk (HA2.out.below hD.below)
            have HB4 := Aside0.mk (S.obj_keep HBX.out hD.below)
            have HD := Aside0.mk (And.intro hD.tr (And.intro hD.val (And.intro hD.size hD.few)))
            clear hD HA2 HBX x0 x1 x2
            obtain ⟨x0, x1, x2⟩ := bx HB4.out
            go_wp2_with fail
            refine (drop_r y.f1 HA4.out.rd HA4.out.le (by have := HKL.out; omega)).mono ?_
            rintro e w5 ⟨A2, c2, rfl, hc2, hr, hb⟩
            have hst : stepL y L = dropL y.f1 L := if_pos HF0.out
            have HLe : Aside0 (Left W w5 y p t p' u A2 c2 L k b10) := ⟨⟨⟨HD.out.1.below hb, by rw [hst]; exact HA4.out.pr.drop HD.out.2.1, by rw [hst]; exact hr, by rw [hst]; exact hc2, by have := HD.out.2.2.1; have := HA4.out.sz; omega, below_step HA4.out.bel hb⟩, HA4.out.tr.below hb, HD.out.2.2.2, (fun e => by rw [HF0.out] at e; cases e), S.obj_keep HB4.out hb⟩⟩
            rw [← hst]
            clear hst hc2 hr hb HD HB4 HA4
            go_wp2_with fail
            go_meet
            exact ⟨p', u, A2, c2, rfl, rfl, HLe⟩
          | false =>
            have HF0 := Aside0.mk hf0
            rw [hf0] at x0
            clear hf0
            go_wp2_with fail
            refine (S.put_s HA2.out.tr HTS.out y.f1 y.f2).mono ?_
            rintro e w4 ⟨p', u, rfl, hD⟩
            have HA4 := Aside0.mk (HA2.out.below hD.below)
            have HB4 := Aside0.mk (S.obj_keep HBX.out hD.below)
            have HD := Aside0.mk (And.intro hD.tr (And.intro hD.val (And.intro hD.size (And.intro hD.few hD.five))))
            clear hD HA2 HBX x0 x1 x2
            obtain ⟨x0, x1, x2⟩ := bx HB4.out
            go_wp2_with fail
            refine (put_r y.f1 y.f2 HA4.out.rd HA4.out.le (by have := HKL.out; omega)).mono ?_
            rintro e w5 ⟨A2, c2, rfl, hc2, hr, hb⟩
            have hst : stepL y L = putL y.f1 y.f2 L := if_neg (by rw [HF0.out]; decide)
            have HLe : Aside0 (Left W w5 y p t p' u A2 c2 L k b10) := ⟨⟨⟨HD.out.1.below hb, by rw [hst]; exact HA4.out.pr.put HD.out.2.1, by rw [hst]; exact hr, by rw [hst]; exact hc2, by have := HD.out.2.2.1; have := HA4.out.sz; omega, below_step HA4.out.bel hb⟩, HA4.out.tr.below hb, HD.out.2.2.2.1, fun _ h0 h1 => (HD.out.2.2.2.2 ⟨h0, h1⟩).1, S.obj_keep HB4.out hb⟩⟩
            rw [← hst]
            clear hst hc2 hr hb HD HB4 HA4
            go_wp2_with fail
            go_meet
            exact ⟨p', u, A2, c2, rfl, rfl, HLe⟩
        case rest =>
          obtain ⟨p', u, A2, c2, rfl, rfl, HLe⟩ := hcut
          clear HA2 HBX x0 x1 x2
          obtain ⟨x, b, hxg, hxr⟩ := ask_both HLe.out.1.pr ask
          have HXG := Aside0.mk hxg
          have HXR := Aside0.mk hxr
          have HKL2 := Aside0.mk (HLe.out.1.len (by have := HK.out; omega))
          have HTS2 : Aside0 (u.size ≤ 1000000) := ⟨by have := HLe.out.1.sz; have := HK.out; omega⟩
          clear hxg hxr
          go_wp2_with fail
          refine (S.get_c HLe.out.1.tr ask).mono ?_
          rintro e w6 ⟨rfl, hb⟩
          rw [HXG.out]
          have HL6 := Aside0.mk (HLe.out.below hb)
          clear hb HLe
          go_wp2_with fail
          refine (get_r ask HL6.out.1.rd HL6.out.1.le (by have := HKL2.out; omega)).mono ?_
          rintro e w7 ⟨rfl, hb⟩
          rw [HXR.out]
          have HL7 := Aside0.mk (HL6.out.below hb)
          clear hb HL6
          go_wp2_with fail
          refine (S.same_c stop HL7.out.1.tr HTS2.out HL7.out.1.pr HL7.out.1.rd HL7.out.1.le).mono ?_
          rintro e w8 ⟨rfl, hb⟩
          have HL8 := Aside0.mk (HL7.out.below hb)
          clear hb HL7
          go_wp2_with fail
          refine (S.Fresh_c HL8.out.2.1 HL8.out.1.tr).mono ?_
          rintro e w9 ⟨rfl, hb⟩
          have HL9 := Aside0.mk (HL8.out.below hb)
          clear hb HL8
          have HFE : Aside0 (∀ w, S.Tr w p t → S.Tr w p' u → Calls Try.prog 25 #[.pointer (some ⟨p, 0, none⟩), .pointer (some ⟨p', 0, none⟩)] w fun e w' => e = .returned (.int .i64 (Nd.frsh t u)) ∧ Below w.heap.size w w') := ⟨fun w a b => S.Fresh_c a b⟩
          have hfew := HL9.out.2.2.1
          have HFIVE := Aside0.mk HL9.out.2.2.2.1
          generalize hfr : Nd.frsh t u = fr at hfew HFE HFIVE ⊢
          have HFR := Aside0.mk hfr
          clear hfr
          go_wp2_with fail
          refine (S.Fresh_c HL9.out.1.tr HL9.out.1.tr).mono ?_
          rintro e w10 ⟨rfl, hb⟩
          rw [Nd.frsh_self]
          have HL10 := Aside0.mk (HL9.out.below hb)
          clear hb HL9
          obtain ⟨x0, x1, x2⟩ := bx HL10.out.2.2.2.2
          cases hf0 : y.f0 with
          | true =>
            rw [hf0] at x0
            clear hf0
            go_wp2_with fail
            go_roundw
            case rel => exact ⟨k + 1, p', u, A2, c2, stepL y L, rfl, rfl, by go_num, HLT.out, ⟨HL10.out.1⟩⟩
            case measure => simp [intOf]; omega
          | false =>
            rw [hf0] at x0
            have HF5 : Aside0 (0 ≤ y.f1 → y.f1 < 1048576 → fr = 5) := ⟨HFIVE.out hf0⟩
            clear hf0 HFIVE
            by_cases h0 : y.f1 < 0
            · go_wp2_with fail
              go_roundw
              case rel => exact ⟨k + 1, p', u, A2, c2, stepL y L, rfl, rfl, by go_num, HLT.out, ⟨HL10.out.1⟩⟩
              case measure => simp [intOf]; omega
            · by_cases h1 : 1048576 ≤ y.f1
              · go_wp2_with fail
                go_roundw
                case rel => exact ⟨k + 1, p', u, A2, c2, stepL y L, rfl, rfl, by go_num, HLT.out, ⟨HL10.out.1⟩⟩
                case measure => simp [intOf]; omega
              · obtain rfl := HF5.out (by omega) (by omega)
                go_wp2_with fail
                refine (HFE.out _ HL10.out.2.1 HL10.out.1.tr).mono ?_
                rintro e w11 ⟨rfl, hb⟩
                have HL11 := Aside0.mk (HL10.out.below hb)
                clear hb
                go_wp2_with fail
                go_roundw
                case rel => exact ⟨k + 1, p', u, A2, c2, stepL y L, rfl, rfl, by go_num, HLT.out, ⟨HL11.out.1⟩⟩
                case measure => simp [intOf]; omega
      · have hkl : k = l.length := by omega
        subst hkl
        go_wp2_with fail
        refine (lives_c _).mono ?_
        rintro e w2 ⟨rfl, hb⟩
        have HW2 := Aside0.mk (below_step HA.out.bel hb)
        clear hb
        go_wp2_with fail
        go_ret
        exact ⟨rfl, HW2.out⟩
end Go.Proofs.Ytfehimoiccgahaa
