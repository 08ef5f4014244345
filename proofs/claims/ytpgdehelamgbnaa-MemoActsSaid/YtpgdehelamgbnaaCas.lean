/-
  What is in a cell; a clone of texts; an entry into an empty cell.
-/
import Derived.Test.YtpgdehelamgbnaaAt
import Derived.Maps.AppendAt
namespace Go.Proofs.Ytpgdehelamgbnaa
open Go.RowKit Go.Proofs.YtpgdehelamgbnaaW.PrintWords PMemoActs
set_option linter.unusedVariables false
set_option linter.unusedSimpArgs false
/-- What is in a cell; none beyond them. -/
def look (L : List (Option (Nat × S31))) (i : Int) : Option (Nat × S31) := if i < 0 then none else L.getD i.toNat none
theorem look_nat (L : List (Option (Nat × S31))) (k : Nat) (h : k < L.length) : look L (k : Int) = L[k] := by
  unfold look
  rw [if_neg (by omega), Int.toNat_natCast, List.getD_eq_getElem?_getD, List.getElem?_eq_getElem h]
  rfl
theorem look_neg (L : List (Option (Nat × S31))) (i : Int) (h : i < 0) : look L i = none := by unfold look; rw [if_pos h]
theorem look_out (L : List (Option (Nat × S31))) (i : Int) (h : (L.length : Int) ≤ i) : look L i = none := by
  unfold look
  split
  · rfl
  · rw [List.getD_eq_getElem?_getD, List.getElem?_eq_none (by omega)]
    rfl
section
variable {W : World} {F : Nat → Prop} {x : Option Addr} {q : Nat} {L : List (Option (Nat × S31))}
theorem Tb.leads (h : Tb W F x q L) {u : Option (Nat × S31)} (hu : u ∈ L) : Leads W (ptrv u) := by
  intro a ha
  cases u with
  | none => cases ha
  | some y =>
    obtain ⟨b, y⟩ := y
    cases ha
    obtain ⟨v, hb, _⟩ := h.2.1 b y hu
    exact ⟨rfl, rfl, _, _, _, hb⟩
set_option maxHeartbeats 1000000 in
theorem at_c (h : Tb W F x q L) (i : Int) : Calls Try.prog 32 #[.pointer x, .int .i64 i] W fun e w' => e = .returned (cellv (look L i)) ∧ W = w' := by
  have H := Aside0.mk h
  have hl : (L.length : Int) ≤ 65536 := by have := h.1; omega
  clear h
  rcases Int.lt_or_le i 0 with hi | hi
  · rw [look_neg L i hi]
    go_enter Try.func32, Try.ntmps32
    go_wp2_with fail
    go_ret
    exact ⟨rfl, rfl⟩
  · obtain ⟨k, rfl⟩ := Int.eq_ofNat_of_zero_le hi
    by_cases hk : k < L.length
    · have HV := Aside0.mk (look_nat L k hk)
      obtain ⟨p, c, rfl, hc, hF, h1, h2⟩ := H.out.open_ (by omega)
      have h3 := cells_at h2 k hk
      have HL := Aside0.mk (H.out.leads (List.getElem_mem hk))
      have hki : (k : Int) < (L.length : Int) := by omega
      generalize L[k] = u at *
      unfold cellv at h3
      have HC := Aside0.mk h3
      rw [HV.out]
      unfold cellv
      clear h2 h3 hc
      go_enter Try.func32, Try.ntmps32
      go_wp2_with fail
      refine (size_c H.out).mono ?_
      rintro e w1 ⟨rfl, rfl⟩
      go_wp2_with fail
      refine (pload_c HC.out HL.out).mono ?_
      rintro e w1 ⟨rfl, rfl⟩
      go_wp2_with fail
      go_ret
      exact ⟨rfl, rfl⟩
    · have HV := Aside0.mk (look_out L (k : Int) (by omega))
      have hki : ¬ (k : Int) < (L.length : Int) := by omega
      have hki2 : (L.length : Int) ≤ (k : Int) := by omega
      rw [HV.out]
      go_enter Try.func32, Try.ntmps32
      go_wp2_with fail
      refine (size_c H.out).mono ?_
      rintro e w1 ⟨rfl, rfl⟩
      go_wp2_with fail
      go_ret
      exact ⟨rfl, rfl⟩
end
section
variable {P : Program} {ops : Array Oper} {rest : List Oper} {o : Oper} {a : Act} {Q : Exit → Act → World → Prop}
/-- append(v, xs...), xs of elements of several cells, nil let in; behind 'at_builtin'. -/
theorem append_any {W : World} (base : Nat) (hgd : o.guard = none) (s x : Operand) (t e : TypeId) (z : Value) (size bytes : Nat)
    (ho : o.op = .call { callee := .builtin .append, args := #[s, x], argTypes := #[t, t] })
    (ht : P.underlying t = some (.slice e)) (hinfo : (P.info? e).map (fun i => (i.zero, i.size, i.bytes)) = some (some z, size, bytes)) (hz : z.cells.size = size) (hs0 : 0 < size) (hb0 : 0 < bytes)
    (v : Value) (n : Nat) (xs ys : List Value) (A : Option Addr) (m c : Nat) (hs : a.eval s = v) (hx : a.eval x = .slice A m c) (hys : ys.length = m * size) (h1 : ∀ u ∈ ys, u.oneCell' = true)
    (HO : W.ownsRow base e size v n xs) (HR : 0 < m → ∃ ad, A = some ad ∧ ∀ j u, ys[j]? = some u → W.cell? (ad.add j) = some u) (hnil : A = none → m = 0) (hbase : base ≤ W.heap.size) (hl : (n + m) * bytes ≤ 140737488355328)
    (h : ∀ v1 w1, w1.ownsRow base e size v1 (n + m) (xs ++ ys) → W.grownBy w1 v.ownBlock → (v1.ownBlock = v.ownBlock ∨ v1.ownBlock = some W.heap.size) → wpList P ops Q rest (a.put o.dst v1) w1) :
    wpList P ops Q (o :: rest) a W := by
  obtain ⟨i0, hi, hzz⟩ := Option.map_eq_some_iff.1 hinfo
  simp only [Prod.mk.injEq] at hzz
  obtain ⟨hz0, hz1, hz2⟩ := hzz
  have hlen : n + m ≤ 140737488355328 := Nat.le_trans (Nat.le_mul_of_pos_right _ hb0) hl
  have hrun : ∃ v1 w1, (Builtin.append_ #[t, t] o.type #[v, .slice A m c]).run P W = .ok v1 w1 ∧ w1.ownsRow base e size v1 (n + m) (xs ++ ys) ∧ W.grownBy w1 v.ownBlock ∧ (v1.ownBlock = v.ownBlock ∨ v1.ownBlock = some W.heap.size) := by
    rcases A with _ | ad
    · have h0 : m = 0 := hnil rfl
      subst h0
      obtain rfl : ys = [] := List.eq_nil_of_length_eq_zero (by omega)
      refine ⟨v, W, ?_, by simpa using HO, World.grownBy.refl W _, .inl rfl⟩
      rcases HO.2 with ⟨rfl, hn⟩ | ⟨g, cap, cur, rfl, _, _, hnc, _⟩
      · subst hn
        simp [Builtin.append_, run_underlying ht, sizeOf, typeInfo, hi, Builtin.lenOf, Builtin.firstCells]
      · simp [Builtin.append_, run_underlying ht, sizeOf, typeInfo, hi, Builtin.lenOf, Builtin.firstCells, hnc, storeCells]
    · have hcells : ∀ j u, ys[j]? = some u → W.cell? (ad.add j) = some u := by
        intro j u hu
        have hj : j < ys.length := (List.getElem?_eq_some_iff.1 hu).1
        have hm : 0 < m := by
          rcases Nat.eq_zero_or_pos m with e0 | e0
          · subst e0
            omega
          · exact e0
        obtain ⟨ad', h', hc⟩ := HR hm
        injection h' with h'
        subst h'
        exact hc j u hu
      obtain ⟨v1, w1, hr, h2, h3, _, h5⟩ := run_append_own_at (P := P) W base t o.type e i0 z size bytes ht hi hz0 hz1 hz2 hz hs0 v n xs HO ad m c ys hys hcells h1 (by simp only [maxLen]; omega) hl hbase
      exact ⟨v1, w1, hr, h2, h3, h5⟩
  obtain ⟨v1, w1, hr, hown, hg, hat⟩ := hrun
  refine wpList_plain hgd fun K hK => ?_
  unfold Oper.wp execOp
  simp only [ho, resolve, invoke, builtin, Sem.run_bind, Sem.run_pure, Result.andThen_ok, List.map_toArray, List.map_cons, List.map_nil, hs, hx, hr]
  exact hK _ _ (h v1 w1 hown hg hat)
end
theorem En.made {W w1 : World} {g : Nat} {y : S31} {v : Value} (hb : Below W.heap.size W w1) (hg : W.heap.size ≤ g) (h1 : w1.heap[g]? = some (.cells #[.int .i64 y.f0, .int .i64 y.f1, v] 31 (0, 0))) (h2 : w1.ownsRow W.heap.size 9 1 v y.f2.length (strs y.f2)) : En w1 (fun k => W.heap.size ≤ k) g y :=
  ⟨v, h1, hg, own_weaken h2 (Nat.zero_le _), fun k hk => own_base h2 k hk⟩
theorem info9z : ∃ z : Value, (Try.prog.info? 9).map (fun i => (i.zero, i.size, i.bytes)) = some (some z, 1, 16) ∧ z.cells.size = 1 := ⟨.string ⟨#[]⟩, by kernel_rfl, rfl⟩
set_option maxHeartbeats 1000000 in
theorem clone_c {W : World} {A : Option Addr} {c : Nat} {ss : List ByteArray} (h : Kd.C Kd.string W A ss.length ss) (hn : ss.length ≤ 8796093022200) :
    Calls Try.prog 31 #[.slice A ss.length c] W fun e w' => ∃ v1, e = .returned v1 ∧ w'.ownsRow W.heap.size 9 1 v1 ss.length (strs ss) ∧ Below W.heap.size W w' := by
  have HN := Aside0.mk hn
  have H := Aside0.mk h
  clear h hn
  have he := fun (w : World) (a : Option Addr) (n c : Nat) => Lib.run_eql_slice_nil (P := Try.prog) w 29 9 a n c 0 0 Try.underlying29
  cases A with
  | none =>
    have h0 : ss.length = 0 := by
      rcases Nat.eq_zero_or_pos ss.length with h0 | h0
      · exact h0
      · obtain ⟨ad, ha, _⟩ := H.out.2.2 h0
        cases ha
    obtain rfl : ss = [] := List.eq_nil_of_length_eq_zero h0
    clear h0 H HN
    go_enter Try.func31, Try.ntmps31
    go_wp2_with fail
    go_ret
    exact ⟨_, rfl, World.ownsRow_nil _ _ _ _, Below.refl _ _⟩
  | some ad =>
    have HR : Aside0 (∀ j u, (strs ss)[j]? = some u → (W.alloc (.cells #[] 9)).cell? (ad.add j) = some u) := ⟨by
      intro j u hu
      rw [strs_get] at hu
      obtain ⟨s, hs, rfl⟩ := Option.map_eq_some_iff.1 hu
      have hj := (List.getElem?_eq_some_iff.1 hs).1
      obtain ⟨ad', ha, hc⟩ := H.out.2.2 (by omega)
      cases ha
      obtain ⟨cs, hcl, hR, hcell⟩ := hc j s hs
      have hcs : cs = [Value.string s] := hR
      subst hcs
      have := hcell 0 _ rfl
      simp only [Kd.string, Kd.scalar, Nat.mul_one, Nat.add_zero] at this
      exact pw_cell_below ((Below.refl W.heap.size W).alloc (Nat.le_refl _) _) this⟩
    obtain ⟨z, hz, hzc⟩ := info9z
    have HZ := Aside0.mk hz
    clear hz H
    go_enter Try.func31, Try.ntmps31
    go_wp2_with (at_builtin; refine append_any W.heap.size rfl (.tmp 5) (.tmp 6) 29 9 z 1 16 rfl Try.underlying29 HZ.out hzc (by decide) (by decide) (.slice (some ⟨W.heap.size, 0, none⟩) 0 0) 0 [] (strs ss) (some ad) ss.length c rfl rfl (by rw [strs_length, Nat.mul_one]) (strs_one ss) ?a1 ?a2 (fun e => by cases e) ?a3 ?a4 ?_; (case a1 => exact World.ownsRow_made W #[] 0 (Nat.le_refl _) (by decide) rfl); (case a2 => exact fun _ => ⟨_, rfl, HR.out⟩); (case a3 => simp); (case a4 => have := HN.out; omega); intro v1 w1 ho hg hat; have HO := Aside0.mk ho; have HG := Aside0.mk hg; clear ho hg hat)
    go_ret
    refine ⟨_, rfl, ?_, ?_⟩
    · have := HO.out
      rw [Nat.zero_add, List.nil_append] at this
      exact this
    · exact ((Below.refl W.heap.size W).alloc (Nat.le_refl _) (.cells #[] 9)).grown HG.out (by simp) (fun k hk => by simp [Value.ownBlock] at hk; omega)
/-! ### Cas -/
/-- An entry by its cells. -/
def ecells (y : S31) (v : Value) : Array Value := #[.int .i64 y.f0, .int .i64 y.f1, v]
/-- What Cas leaves, the cell being one of the table's. -/
def CasIn (W : World) (q k : Nat) (free : Bool) (y : S31) (e : Ending) (w' : World) : Prop := ∃ g v w1, e = .returned (.bool free) ∧ Below W.heap.size W w1 ∧ W.heap.size ≤ g ∧
  w1.heap[g]? = some (.cells #[.int .i64 y.f0, .int .i64 y.f1, v] 31 (0, 0)) ∧ w1.ownsRow W.heap.size 9 1 v y.f2.length (strs y.f2) ∧ w' = if free = true then w1.setCell ⟨q, k, none⟩ (.pointer (some ⟨g, 0, none⟩)) else w1
section
variable {W : World} {F : Nat → Prop} {x : Option Addr} {q : Nat} {L : List (Option (Nat × S31))} {A : Option Addr} {c : Nat} {y : S31}
set_option maxHeartbeats 1000000 in
theorem cas_out (h : Tb W F x q L) (i : Int) (hi : i < 0 ∨ (L.length : Int) ≤ i) :
    Calls Try.prog 17 #[.pointer x, .int .i64 i, .agg #[.int .i64 y.f0, .int .i64 y.f1, .slice A y.f2.length c]] W fun e w' => e = .returned (.bool false) ∧ Below W.heap.size W w' := by
  have HB := Aside0.mk ((Below.refl W.heap.size W).alloc (Nat.le_refl _) (.cells #[.int .i64 y.f0, .int .i64 y.f1, .slice A y.f2.length c] 31))
  have H := Aside0.mk (h.below HB.out)
  have hl : (L.length : Int) ≤ 65536 := by have := h.1; omega
  clear h
  rcases Int.lt_or_le i 0 with hn | hn
  · clear hi
    go_enter Try.func17, Try.ntmps17
    go_wp2_with fail
    go_ret
    exact ⟨rfl, HB.out⟩
  · have hj : (L.length : Int) ≤ i := by omega
    clear hi
    go_enter Try.func17, Try.ntmps17
    go_wp2_with fail
    refine (size_c H.out).mono ?_
    rintro e w1 ⟨rfl, rfl⟩
    go_wp2_with fail
    go_ret
    exact ⟨rfl, HB.out⟩
set_option maxHeartbeats 1000000 in
theorem cas_in (h : Tb W F x q L) (k : Nat) (hk : k < L.length) (hs : Kd.C Kd.string W A y.f2.length y.f2) (hn : y.f2.length ≤ 8796093022200) :
    Calls Try.prog 17 #[.pointer x, .int .i64 (k : Int), .agg #[.int .i64 y.f0, .int .i64 y.f1, .slice A y.f2.length c]] W (CasIn W q k (ptrv L[k]).isNone y) := by
  have HN := Aside0.mk hn
  have hl : (L.length : Int) ≤ 65536 := by have := h.1; omega
  have hb1 := (Below.refl W.heap.size W).alloc (Nat.le_refl _) (.cells #[.int .i64 y.f0, .int .i64 y.f1, .slice A y.f2.length c] 31)
  have H := Aside0.mk (h.below hb1)
  have HS := Aside0.mk (Kd.C_below hs hb1)
  have HG := Aside0.mk (heap_alloc_new W (.cells #[.int .i64 y.f0, .int .i64 y.f1, .slice A y.f2.length c] 31))
  have HB := Aside0.mk hb1
  have hki : (k : Int) < (L.length : Int) := by omega
  have H0 := Aside0.mk h
  clear h hs hn hb1
  go_enter Try.func17, Try.ntmps17
  go_wp2_with fail
  refine (size_c H.out).mono ?_
  rintro e w1 ⟨rfl, rfl⟩
  go_wp2_with fail
  refine (clone_c HS.out HN.out).mono ?_
  rintro e w2 ⟨v1, rfl, ho, hb⟩
  obtain ⟨A1, c1, rfl, hc1, _⟩ := str_reads ho
  have hg2 := (hb.block W.heap.size (by simp)).trans HG.out
  have hBB := below_then HB.out (by simp) hb
  have H2 := H.out.below hb
  have HO := Aside0.mk (own_weaken ho (base' := W.heap.size) (by simp))
  have HG2 := Aside0.mk hg2
  have HB2 := Aside0.mk hBB
  have HT2 := Aside0.mk H2
  have c0 : w2.cell? ⟨W.heap.size, 2, none⟩ = some (.slice A y.f2.length c) := (blk_cell hg2 2).trans rfl
  have c0f : w2.frozen? ⟨W.heap.size, 2, none⟩ = false := blk_frozen hg2 2
  clear ho hb hg2 hBB H2 HS HG HB H
  go_upto_region 4 with fail
  clear c0 c0f
  have hg3 := blk_set HG2.out 2 (.slice A1 y.f2.length c1)
  have ho3 := own_setCell HO.out (p := ⟨W.heap.size, 2, none⟩) (own_ne HO.out HG2.out (by decide)) (.slice A1 y.f2.length c1)
  have hb3 := HB2.out.setCell (p := ⟨W.heap.size, 2, none⟩) (Nat.le_refl _) (.slice A1 y.f2.length c1)
  have ht3 : Tb (w2.setCell ⟨W.heap.size, 2, none⟩ (.slice A1 y.f2.length c1)) F x q L := H0.out.below hb3
  have HG3 := Aside0.mk hg3
  have HO3 := Aside0.mk ho3
  have HB3 := Aside0.mk hb3
  have HT3 := Aside0.mk ht3
  clear hg3 ho3 hb3 ht3 HG2 HO HB2 HT2
  generalize w2.setCell ⟨W.heap.size, 2, none⟩ (.slice A1 y.f2.length c1) = w3 at *
  obtain ⟨p, c, rfl, hc, hF, h1, h2⟩ := HT3.out.open_ (by omega)
  have h3 := cells_at h2 k hk
  have h3f := blk_frozen h2 k
  unfold cellv at h3
  have HC := Aside0.mk h3
  have HF := Aside0.mk h3f
  have g0 : w3.cell? ⟨W.heap.size, 0, none⟩ = some (.int .i64 y.f0) := (blk_cell HG3.out 0).trans rfl
  have HG0 := Aside0.mk g0
  clear h2 h3 h3f g0 hc
  go_wp2_with fail
  refine (pcas_c HC.out HF.out HG0.out).mono ?_
  rintro e w4 ⟨rfl, hw⟩
  obtain ⟨u, hu⟩ : ∃ u, ptrv L[k] = u := ⟨_, rfl⟩
  rw [hu] at hw HC
  have HU := Aside0.mk hu
  clear hu
  cases u with
  | none =>
    simp only [Option.isNone_none, if_true] at hw
    subst hw
    go_wp2_with fail
    go_ret
    exact ⟨W.heap.size, _, w3, by rw [HU.out]; rfl, HB3.out, Nat.le_refl _, HG3.out, HO3.out, by rw [HU.out]; rfl⟩
  | some z =>
    simp only [Option.isNone_some] at hw
    subst hw
    go_wp2_with fail
    go_ret
    exact ⟨W.heap.size, _, w4, by rw [HU.out]; rfl, HB3.out, Nat.le_refl _, HG3.out, HO3.out, by rw [HU.out]; rfl⟩
/-- The cell was empty: the entry is in it. -/
theorem CasIn.put {k : Nat} (hk : k < L.length) (h : Tb W F x q L) {e : Ending} {w' : World} (hc : CasIn W q k true y e w') :
    e = .returned (.bool true) ∧ (∃ g, Tb w' (fun k => F k ∨ W.heap.size ≤ k) x q (L.set k (some (g, y)))) ∧ Fr (fun k => k = q) W w' := by
  obtain ⟨g, v, w1, he, hb, hg, h1, h2, hw⟩ := hc
  rw [if_pos rfl] at hw
  subst hw
  refine ⟨he, ⟨g, ?_⟩, ?_⟩
  · have ht : Tb w1 (fun k => F k ∨ W.heap.size ≤ k) x q L := (h.below hb).mono (fun k hk => Or.inl hk)
    exact ht.set k hk (some (g, y)) (fun b z hz => by
      cases hz
      exact (En.made hb hg h1 h2).step (fun _ _ _ => rfl) (fun k hk => Or.inr hk))
  · exact (Fr.of_below hb (fun k => k = q)).setCell (p := ⟨q, k, none⟩) (Or.inl rfl) _
/-- The cell was not. -/
theorem CasIn.not {k : Nat} {e : Ending} {w' : World} (hc : CasIn W q k false y e w') : e = .returned (.bool false) ∧ Below W.heap.size W w' := by
  obtain ⟨g, v, w1, he, hb, hg, h1, h2, hw⟩ := hc
  rw [if_neg (by simp)] at hw
  subst hw
  exact ⟨he, hb⟩
end
end Go.Proofs.Ytpgdehelamgbnaa
