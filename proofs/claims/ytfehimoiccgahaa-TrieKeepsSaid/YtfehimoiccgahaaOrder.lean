/-
  TrieOrder: the walk.
-/
import Derived.Test.YtfehimoiccgahaaStepI
import Derived.StillTailTactics
namespace Go.Proofs.Ytfehimoiccgahaa
open Go.RowKit Go.Proofs.YtfehimoiccgahaaW.PrintWords
set_option linter.unusedVariables false
set_option linter.unusedSimpArgs false
theorem still_tail {P : Program} {id : Nat} {Q : Exit → Act → World → Prop} {a : Act} {w : World} {l : List Oper} (n : Nat) (hm : P.follows .mixedOrders = true) (hB : Region.lexTailB .any l.toArray n = true)
    (h : wpStill P l.toArray w.drew (fun a' => wpList P l.toArray Q (l.drop n) a' w.drew) (l.take n) a) : (Code.region id l.toArray true).wp P Q a w :=
  wp_region_still_tail n hm hB h
/-- Each of these numbers, and no other one, has itself. -/
def Ct (t : Nd Int) (K : List Int) : Prop := ∀ m : Nat, m < 1048576 → t.val m = if (m : Int) ∈ K then some (m : Int) else none
theorem Ct.put {W : World} {p p' : Nat} {t u : Nd Int} {x : Int} {w' : World} {K : List Int} (h : Ct t K) (k : I.Ptd W p t x x p' u w') : Ct u (K ++ [x]) := fun m hm => by
  rw [k.val m hm, h m hm]
  by_cases e : (m : Int) = x
  · rw [if_pos e, if_pos (by simp [e]), e]
  · rw [if_neg e]
    simp [e]
theorem Ct.mem {t : Nd Int} {K L : List Int} (h : Ct t K) (hm : ∀ x, x ∈ K ↔ x ∈ L) : Ct t L := fun m hm2 => by
  rw [h m hm2]
  simp only [hm]
def inr (K : List Int) : List Nat := (K.filter (fun x => decide (0 ≤ x ∧ x < 1048576))).map Int.toNat
theorem mem_inr {K : List Int} {m : Nat} : m ∈ inr K ↔ m < 1048576 ∧ (m : Int) ∈ K := by
  unfold inr
  rw [List.mem_map]
  constructor
  · rintro ⟨x, hx, rfl⟩
    rw [List.mem_filter, decide_eq_true_iff] at hx
    exact ⟨by omega, by rw [Int.toNat_of_nonneg hx.2.1]; exact hx.1⟩
  · rintro ⟨h1, h2⟩
    exact ⟨(m : Int), by rw [List.mem_filter, decide_eq_true_iff]; exact ⟨h2, by omega, by omega⟩, by simp⟩
theorem Ct.keys {t : Nd Int} {K : List Int} (h : Ct t K) : Nd.Keys 4 t (inr K) :=
  Nd.keys_of (fun x hx => (mem_inr.1 hx).1) (fun m hm => by
    rw [h m hm, mem_inr]
    by_cases e : (m : Int) ∈ K <;> simp [e, hm])
theorem rd_get {l : List Int} {i : Nat} (h : i < l.length) : rd l (i : Int) = l[i] := by
  unfold rd
  rw [Int.toNat_natCast, List.getD_eq_getElem?_getD, List.getElem?_eq_getElem h]
  rfl
/-- An element of what came in. -/
theorem num_at {W : World} {A : Option Addr} {n : Nat} {l : List Int} (h : Kd.C (Kd.int .i64) W A n l) {i : Nat} (hi : i < n) (hl : i < l.length) : ∃ ad, A = some ad ∧ W.cell? (ad.add i) = some (.int .i64 l[i]) := by
  obtain ⟨ad, e, hc⟩ := Kd.at_int h (i : Int) (by omega) (by omega)
  rw [rd_get hl, Int.toNat_natCast] at hc
  exact ⟨ad, e, hc⟩
theorem take_next {l : List Int} {i : Nat} (h : i < l.length) : l.take (i + 1) = l.take i ++ [l[i]] := List.take_succ_eq_append_getElem h
theorem rev_next {l : List Int} {i : Nat} (h : i < l.length) : l.reverse.take (i + 1) = l.reverse.take i ++ [l[l.length - 1 - i]] := by
  rw [List.take_succ_eq_append_getElem (by simpa using h), List.getElem_reverse]
set_option maxHeartbeats 2000000 in
set_option maxRecDepth 100000 in
theorem walk3 (A : Option Addr) (c : Nat) (l : List Int) (w : World) (hC : Kd.C (Kd.int .i64) w A l.length l) (hcl : l.length ≤ c) (hb : l.length * 8 ≤ 140737488351232) :
    Calls Try.prog 3 #[.slice A l.length c] w fun e w' => e = .returned (.bool true) ∧ Below w.heap.size w w' := by
  have HC := Aside0.mk hC
  have HCL := Aside0.mk hcl
  clear hC hcl
  by_cases hbig : 100 < l.length
  · have gbig : (100 : Int) < (l.length : Int) := by omega
    go_enter Try.func3, Try.ntmps3
    go_wp2_with fail
    refine (lives_c _).mono ?_
    rintro e w2 ⟨rfl, hB2⟩
    have HB2 := Aside0.mk hB2
    clear hB2
    go_wp2_with fail
    go_ret
    exact ⟨rfl, HB2.out⟩
  · have gbig : ¬ ((100 : Int) < (l.length : Int)) := by omega
    go_enter Try.func3, Try.ntmps3
    go_wp2_with fail
    refine (I.new_c w).mono ?_
    rintro e w1 ⟨rfl, hT, hB⟩
    have HTa := Aside0.mk hT
    have HBa := Aside0.mk hB
    clear hT hB
    go_wp2_with fail
    refine (I.new_c w1).mono ?_
    rintro e w2 ⟨rfl, hT, hB⟩
    have HTb := Aside0.mk hT
    have HTa2 := Aside0.mk (HTa.out.below hB)
    have HB := Aside0.mk (below_step HBa.out hB)
    clear hT hB HTa
    have HSa := I.new_size w.heap.size
    have HSb := I.new_size w1.heap.size
    have HVa : Aside0 (Ct (Nd.node w.heap.size (fun _ => .nil) (fun _ => none) 0) (l.take 0)) := ⟨fun m hm => by rw [val_new]; simp⟩
    have HVb : Aside0 (Ct (Nd.node w1.heap.size (fun _ => .nil) (fun _ => none) 0) (l.reverse.take 0)) := ⟨fun m hm => by rw [val_new]; simp⟩
    go_wp2_with fail
    go_loopw [3, 4, 23] (fun a b i wr => ∃ (k pa pb : Nat) (ta tb : Nd Int), i = .int .i64 k ∧ a = .pointer (some ⟨pa, 0, none⟩) ∧ b = .pointer (some ⟨pb, 0, none⟩) ∧ k ≤ l.length ∧ Aside0 (I.Tr wr pa ta) ∧ Aside0 (I.Tr wr pb tb) ∧ Aside0 (ta.size ≤ k) ∧ Aside0 (tb.size ≤ k) ∧ Aside0 (Ct ta (l.take k)) ∧ Aside0 (Ct tb (l.reverse.take k)) ∧ Aside0 (Below w.heap.size w wr)) (fun _ _ i _ => l.length - (intOf i).toNat)
    case atStart => exact ⟨0, _, _, _, _, rfl, rfl, rfl, Nat.zero_le _, HTa2, HTb, ⟨by rw [HSa]; decide⟩, ⟨by rw [HSb]; decide⟩, HVa, HVb, HB⟩
    case round =>
      clear HTa2 HTb HSa HSb HVa HVb HB HBa
      obtain ⟨k, pa, pb, ta, tb, rfl, rfl, rfl, hk, HTa, HTb, HSa, HSb, HVa, HVb, HB⟩ := hrel
      by_cases hlt : k < l.length
      · have g1 : (k : Int) < (l.length : Int) := by omega
        obtain ⟨ad, rfl, c1⟩ := num_at (Kd.C_below HC.out HB.out) hlt hlt
        have HX := Aside0.mk (fun (W2 : World) (hb : Below wr.heap.size wr W2) => I.put_s (HTa.out.below hb) (by have := HSa.out; omega) l[k] l[k])
        have HNA := Aside0.mk (take_next hlt)
        have HNB := Aside0.mk (rev_next hlt)
        have HCB := Aside0.mk (fun (W2 : World) (hb : Below w.heap.size w W2) => num_at (Kd.C_below HC.out hb) (i := l.length - 1 - k) (by omega) (by omega))
        have hk1 : (l.length : Int) - 1 - (k : Int) = ((l.length - 1 - k : Nat) : Int) := by omega
        have HK1 := Aside0.mk hk1
        clear hk1
        generalize l[k] = x at c1 HX HNA
        have HVY : Aside0 (∃ y, y = l[l.length - 1 - k]) := ⟨_, rfl⟩
        go_wp2_with fail
        refine still_tail 9 (by kernel_rfl) (by kernel_rfl) ?_
        simp only [List.take_succ_cons, List.take_zero, List.drop_succ_cons, List.drop_zero]
        have c1' : wr.drew.cell? (ad.add k) = some (.int .i64 x) := c1
        have HB2 := Aside0.mk (below_drew (Below.refl wr.heap.size wr))
        have HBW := Aside0.mk (below_drew HB.out)
        have HTb2 := Aside0.mk (HTb.out.below HB2.out)
        generalize wr.drew = w3 at c1' HB2 HBW HTb2 ⊢
        repeat still_step
        refine wpStill_nil ?_
        go_wp2_with fail
        refine (HX.out _ HB2.out).mono ?_
        rintro e w4 ⟨p', u, rfl, hP⟩
        have HTa4 := Aside0.mk hP.tr
        have HVa4 := Aside0.mk (HVa.out.put hP)
        have HSa4 : Aside0 (u.size ≤ ((k + 1 : Nat) : Int)) := ⟨by have := hP.size; have := HSa.out; omega⟩
        have HTb4 := Aside0.mk (HTb2.out.below hP.below)
        have HB4 := Aside0.mk (below_step HBW.out hP.below)
        clear hP c1 c1'
        rw [← HNA.out] at HVa4
        obtain ⟨ad2, ead, c2⟩ := HCB.out w4 HB4.out
        injection ead with ead
        subst ead
        go_wp2_with fail
        refine (I.put_s HTb4.out (by have := HSb.out; omega) _ _).mono ?_
        rintro e w5 ⟨p2, u2, rfl, hP⟩
        have HTb5 := Aside0.mk hP.tr
        have HVb5 := Aside0.mk (HVb.out.put hP)
        have HSb5 : Aside0 (u2.size ≤ ((k + 1 : Nat) : Int)) := ⟨by have := hP.size; have := HSb.out; omega⟩
        have HTa5 := Aside0.mk (HTa4.out.below hP.below)
        have HB5 := Aside0.mk (below_step HB4.out hP.below)
        rw [← HNB.out] at HVb5
        clear hP c2 HVY
        go_wp2_with fail
        go_roundw
        case rel => exact ⟨k + 1, p', p2, u, u2, by go_num, rfl, rfl, hlt, HTa5, HTb5, HSa4, HSb5, HVa4, HVb5, HB5⟩
        case measure => simp [intOf]; omega
      · have hkl : k = l.length := by omega
        subst hkl
        have HVa2 : Aside0 (Ct ta l) := ⟨by have := HVa.out; rwa [List.take_of_length_le (Nat.le_refl _)] at this⟩
        have HVb2 : Aside0 (Ct tb l) := ⟨by
          have := HVb.out
          rw [List.take_of_length_le (by simp)] at this
          exact this.mem (fun x => by simp)⟩
        have HSZ : Aside0 (tb.size = ta.size) := ⟨by rw [Nd.size_eq HTa.out.2.2.1 HVa2.out.keys, Nd.size_eq HTb.out.2.2.1 HVb2.out.keys]⟩
        have HND : Aside0 (Nd.frsh .nil tb = Nd.frsh .nil ta) := ⟨by rw [Nd.nodes_eq HTa.out.2.2.1 HTa.out.2.1 HVa2.out.keys, Nd.nodes_eq HTb.out.2.2.1 HTb.out.2.1 HVb2.out.keys]⟩
        clear HVa HVb
        go_wp2_with fail
        refine (I.len_c HTa.out).mono ?_
        rintro e w2 ⟨rfl, rfl⟩
        go_wp2_with fail
        refine (I.len_c HTb.out).mono ?_
        rintro e w2 ⟨rfl, rfl⟩
        rw [HSZ.out]
        generalize hsz : ta.size = sz at HSZ HSa ⊢
        have HSS := Aside0.mk hsz
        clear hsz
        go_wp2_with fail
        refine (I.nodes_c HTa.out).mono ?_
        rintro e w2 ⟨rfl, rfl⟩
        go_wp2_with fail
        refine (I.nodes_c HTb.out).mono ?_
        rintro e w2 ⟨rfl, rfl⟩
        rw [HND.out]
        generalize Nd.frsh .nil ta = nd at HND ⊢
        go_wp2_with fail
        go_loopw [63] (fun i wr => ∃ k : Nat, i = .int .i64 k ∧ k ≤ l.length ∧ Aside0 (I.Tr wr pa ta) ∧ Aside0 (I.Tr wr pb tb) ∧ Aside0 (Below w.heap.size w wr)) (fun i _ => l.length - (intOf i).toNat)
        case atStart => exact ⟨0, rfl, Nat.zero_le _, HTa, HTb, HB⟩
        case round =>
          clear HTa HTb HB
          obtain ⟨k, rfl, hk, HTa, HTb, HB⟩ := hrel
          by_cases hlt : k < l.length
          · have g1 : (k : Int) < (l.length : Int) := by omega
            obtain ⟨ad, rfl, c1⟩ := num_at (Kd.C_below HC.out HB.out) hlt hlt
            have HMEM : Aside0 (l[k] ∈ l) := ⟨List.getElem_mem hlt⟩
            generalize l[k] = x at c1 HMEM
            by_cases hx : 0 ≤ x ∧ x < 1048576
            · have HG : Aside0 (∀ t : Nd Int, Ct t l → I.retG (I.getV t x) = .tuple #[.int .i64 x, .bool true]) := ⟨fun t ht => by
                rw [I.getV_val, if_pos hx, ht x.toNat (by omega), if_pos (by rw [Int.toNat_of_nonneg hx.1]; exact HMEM.out), Int.toNat_of_nonneg hx.1]
                rfl⟩
              have HGa := Aside0.mk (HG.out ta HVa2.out)
              have HGb := Aside0.mk (HG.out tb HVb2.out)
              obtain ⟨hx0, hx1⟩ := hx
              go_wp2_with fail
              refine (I.get_c HTa.out x).mono ?_
              rintro e w4 ⟨rfl, hB⟩
              rw [HGa.out]
              have HTa4 := Aside0.mk (HTa.out.below hB)
              have HTb4 := Aside0.mk (HTb.out.below hB)
              have HB4 := Aside0.mk (below_step HB.out hB)
              clear hB
              go_wp2_with fail
              refine (I.get_c HTb4.out x).mono ?_
              rintro e w5 ⟨rfl, hB⟩
              rw [HGb.out]
              have HTa5 := Aside0.mk (HTa4.out.below hB)
              have HTb5 := Aside0.mk (HTb4.out.below hB)
              have HB5 := Aside0.mk (below_step HB4.out hB)
              clear hB
              go_wp2_with fail
              go_roundw
              case rel => exact ⟨k + 1, by go_num, hlt, HTa5, HTb5, HB5⟩
              case measure => simp [intOf]; omega
            · have HG : Aside0 (∀ t : Nd Int, I.retG (I.getV t x) = .tuple #[.int .i64 0, .bool false]) := ⟨fun t => by
                rw [I.getV_val, if_neg hx]
                rfl⟩
              have HGa := Aside0.mk (HG.out ta)
              have HGb := Aside0.mk (HG.out tb)
              by_cases hx0 : x < 0
              · clear hx
                go_wp2_with fail
                refine (I.get_c HTa.out x).mono ?_
                rintro e w4 ⟨rfl, hB⟩
                rw [HGa.out]
                have HTa4 := Aside0.mk (HTa.out.below hB)
                have HTb4 := Aside0.mk (HTb.out.below hB)
                have HB4 := Aside0.mk (below_step HB.out hB)
                clear hB
                go_wp2_with fail
                refine (I.get_c HTb4.out x).mono ?_
                rintro e w5 ⟨rfl, hB⟩
                rw [HGb.out]
                have HTa5 := Aside0.mk (HTa4.out.below hB)
                have HTb5 := Aside0.mk (HTb4.out.below hB)
                have HB5 := Aside0.mk (below_step HB4.out hB)
                clear hB
                go_wp2_with fail
                go_roundw
                case rel => exact ⟨k + 1, by go_num, hlt, HTa5, HTb5, HB5⟩
                case measure => simp [intOf]; omega
              · have hx1 : 1048576 ≤ x := by omega
                have hx2 : 0 ≤ x := by omega
                clear hx
                go_wp2_with fail
                refine (I.get_c HTa.out x).mono ?_
                rintro e w4 ⟨rfl, hB⟩
                rw [HGa.out]
                have HTa4 := Aside0.mk (HTa.out.below hB)
                have HTb4 := Aside0.mk (HTb.out.below hB)
                have HB4 := Aside0.mk (below_step HB.out hB)
                clear hB
                go_wp2_with fail
                refine (I.get_c HTb4.out x).mono ?_
                rintro e w5 ⟨rfl, hB⟩
                rw [HGb.out]
                have HTa5 := Aside0.mk (HTa4.out.below hB)
                have HTb5 := Aside0.mk (HTb4.out.below hB)
                have HB5 := Aside0.mk (below_step HB4.out hB)
                clear hB
                go_wp2_with fail
                go_roundw
                case rel => exact ⟨k + 1, by go_num, hlt, HTa5, HTb5, HB5⟩
                case measure => simp [intOf]; omega
          · have hkl : k = l.length := by omega
            subst hkl
            clear HTb HND
            have HSA : Aside0 (ta.size ≤ 100) := ⟨by rw [HSS.out]; have := HSa.out; omega⟩
            have HD0 : Aside0 (∀ m : Nat, m < 1048576 → ta.val m ≠ none → (m : Int) ∈ l ∧ (m : Int) ∉ l.take 0) := ⟨fun m hm h => by
              rw [HVa2.out m hm] at h
              by_cases e : (m : Int) ∈ l
              · exact ⟨e, by simp⟩
              · rw [if_neg e] at h
                exact absurd rfl h⟩
            go_wp2_with fail
            go_loopw [3, 108] (fun a i wr => ∃ (k pa : Nat) (ta : Nd Int), i = .int .i64 k ∧ a = .pointer (some ⟨pa, 0, none⟩) ∧ k ≤ l.length ∧ Aside0 (I.Tr wr pa ta) ∧ Aside0 (ta.size ≤ 100) ∧ Aside0 (∀ m : Nat, m < 1048576 → ta.val m ≠ none → (m : Int) ∈ l ∧ (m : Int) ∉ l.take k) ∧ Aside0 (Below w.heap.size w wr)) (fun _ i _ => l.length - (intOf i).toNat)
            case atStart => exact ⟨0, pa, ta, rfl, rfl, Nat.zero_le _, HTa, HSA, HD0, HB⟩
            case round =>
              clear HTa HSA HD0 HB
              obtain ⟨k, pa, ta, rfl, rfl, hk, HTa, HSA, HD, HB⟩ := hrel
              by_cases hlt : k < l.length
              · have g1 : (k : Int) < (l.length : Int) := by omega
                obtain ⟨ad, rfl, c1⟩ := num_at (Kd.C_below HC.out HB.out) hlt hlt
                have HNA := Aside0.mk (take_next hlt)
                generalize l[k] = x at c1 HNA
                go_wp2_with fail
                refine (I.drop_s HTa.out (by have := HSA.out; omega) x).mono ?_
                rintro e w4 ⟨p', u, rfl, hP⟩
                have HT4 := Aside0.mk hP.tr
                have HS4 : Aside0 (u.size ≤ 100) := ⟨Int.le_trans hP.size HSA.out⟩
                have HB4 := Aside0.mk (below_step HB.out hP.below)
                have HD4 : Aside0 (∀ m : Nat, m < 1048576 → u.val m ≠ none → (m : Int) ∈ l ∧ (m : Int) ∉ l.take (k + 1)) := ⟨fun m hm h => by
                  rw [hP.val m hm] at h
                  by_cases e : (m : Int) = x
                  · rw [if_pos e] at h
                    exact absurd rfl h
                  · rw [if_neg e] at h
                    obtain ⟨a1, a2⟩ := HD.out m hm h
                    refine ⟨a1, ?_⟩
                    rw [HNA.out, List.mem_append, List.mem_singleton]
                    rintro (q | q)
                    · exact a2 q
                    · exact e q⟩
                clear hP
                go_wp2_with fail
                go_roundw
                case rel => exact ⟨k + 1, p', u, by go_num, rfl, hlt, HT4, HS4, HD4, HB4⟩
                case measure => simp [intOf]; omega
              · have hkl : k = l.length := by omega
                subst hkl
                have HK : Aside0 (Nd.Keys 4 ta []) := ⟨Nd.keys_of (fun x hx => by simp at hx) (fun m hm => ⟨fun h => by
                  obtain ⟨a1, a2⟩ := HD.out m hm h
                  rw [List.take_of_length_le (Nat.le_refl _)] at a2
                  exact absurd a1 a2, fun h => by simp at h⟩)⟩
                have HZ : Aside0 (ta.size = 0) := ⟨by rw [Nd.size_eq HTa.out.2.2.1 HK.out]; decide⟩
                have HN : Aside0 (Nd.frsh .nil ta = 1) := ⟨by rw [Nd.nodes_eq HTa.out.2.2.1 HTa.out.2.1 HK.out]; decide⟩
                clear HD
                go_wp2_with fail
                refine (I.len_c HTa.out).mono ?_
                rintro e w4 ⟨rfl, rfl⟩
                rw [HZ.out]
                go_wp2_with fail
                refine (I.nodes_c HTa.out).mono ?_
                rintro e w4 ⟨rfl, rfl⟩
                rw [HN.out]
                go_wp2_with fail
                refine (lives_c _).mono ?_
                rintro e w8 ⟨rfl, hB8⟩
                have HB8 := Aside0.mk (below_step HB.out hB8)
                clear hB8
                go_wp2_with fail
                go_ret
                exact ⟨rfl, HB8.out⟩
end Go.Proofs.Ytfehimoiccgahaa
