/-
  The document's Cas.
-/
import Derived.Test.YtpgdehelamgbnaaRefC
namespace Go.Proofs.Ytpgdehelamgbnaa
open Go.RowKit Go.Proofs.YtpgdehelamgbnaaW Go.Proofs.YtpgdehelamgbnaaW.PrintWords PMemoActs
set_option linter.unusedVariables false
set_option linter.unusedSimpArgs false
theorem str_cells {w : World} {A : Option Addr} {ss : List ByteArray} (h : Kd.C Kd.string w A ss.length ss) {ad : Addr} (ha : A = some ad) {j : Nat} {u : Value} (hu : (strs ss)[j]? = some u) : w.cell? (ad.add j) = some u := by
  rw [strs_get] at hu
  obtain ⟨s, hs, rfl⟩ := Option.map_eq_some_iff.1 hu
  have hj := (List.getElem?_eq_some_iff.1 hs).1
  obtain ⟨ad', ha', hc⟩ := h.2.2 (by omega)
  rw [ha] at ha'
  cases ha'
  obtain ⟨cs, hcl, hR, hcell⟩ := hc j s hs
  have hcs : cs = [Value.string s] := hR
  subst hcs
  have := hcell 0 _ rfl
  simpa only [Kd.string, Kd.scalar, Nat.mul_one, Nat.add_zero] using this
theorem info79z : ∃ z : Value, (Try.prog.info? 79).map (fun i => (i.zero, i.size, i.bytes)) = some (some z, 4, 48) ∧ z.cells.size = 4 := ⟨_, info79, rfl⟩
theorem size79 : (Try.prog.info? 79).map (fun i => i.size) = some 4 := by kernel_rfl
theorem size48 : (Try.prog.info? 48).map (fun i => i.size) = some 3 := by kernel_rfl
/-- A cell's four words are written. -/
theorem own_set4 {w : World} {b g cap n : Nat} {X : List CellR} {k : Nat} (hn : X.length = n) (h : w.ownsRow b 79 4 (.slice (some ⟨g, 0, none⟩) n cap) n (f4 X)) (hk : k < X.length) (u : CellR) :
    (w.setCells g (k * 4) (c4 u)).ownsRow b 79 4 (.slice (some ⟨g, 0, none⟩) n cap) n (f4 (X.set k u)) := by
  have h1 := (h.stored (k * 4) (cB u)).1
  have h2 := (h1.stored (k * 4 + 1) (cE u)).1
  have h3 := (h2.stored (k * 4 + 2) (cN u)).1
  have h4 := (h3.stored (k * 4 + 3) (cS u)).1
  rw [f4_set u X k hk] at h4
  exact h4
theorem own_pos {w : World} {b e s n : Nat} {v : Value} {xs : List Value} (h : w.ownsRow b e s v n xs) (hn : 0 < n) : ∃ g cap, v = .slice (some ⟨g, 0, none⟩) n cap := by
  rcases h.2 with ⟨h1, h2⟩ | ⟨g, cap, cur, h1, _⟩
  · omega
  · exact ⟨g, cap, h1⟩
theorem range3 {w : World} {b : Nat} {x y z : Value} {t : TypeId} (h : w.heap[b]? = some (.cells #[x, y, z] t (0, 0))) : w.rangeAt b 0 [x, y, z] := fun j v hj => by
  rw [Nat.zero_add, blk_cell h]
  simpa using hj
theorem own_there {w : World} {B g cap n k : Nat} {X : List CellR} (h : w.ownsRow B 79 4 (.slice (some ⟨g, 0, none⟩) n cap) n (f4 X)) (hk : k < X.length) : w.there g (k * 4) 4 := fun j hj => by
  have hl : X.length = n := by have := h.1; rw [f4_length] at this; omega
  refine ⟨?_, h.frozenAt _⟩
  rw [h.cellAt _ (by omega)]
  simp [f4_length]
  omega
/-- What Cas leaves behind it, the cell being one of the table's. -/
def RCasIn (W : World) (F : Nat → Prop) (p : Nat) (T : List (Option S31)) (i : Int) (y : S31) (e : Ending) (w' : World) : Prop :=
  e = .returned (.bool (casB T i)) ∧ Rm w' (fun k => F k ∨ W.heap.size ≤ k) p (casT T i y) ∧ Fr F W w'
/-- What the last region of Cas reads. -/
def CasS (w : World) (p b g n cap : Nat) (X : List CellR) (e : S31 × Option Addr × Nat) (B : Nat) : Prop :=
  w.heap[p]? = some (.cells #[.slice (some ⟨g, 0, none⟩) n cap] 56 (0, 0)) ∧ w.heap[b]? = some (.cells #[.int .i64 e.1.f0, .int .i64 e.1.f1, .slice e.2.1 e.1.f2.length e.2.2] 48 (0, 0)) ∧ w.ownsRow B 79 4 (.slice (some ⟨g, 0, none⟩) n cap) n (f4 X)
section
variable {W : World} {F : Nat → Prop} {p : Nat} {T : List (Option S31)} {y : S31} {A : Option Addr} {c : Nat}
theorem Rm.same {w' : World} (h : Rm W F p T) (hb : Below W.heap.size W w') : Rm w' (fun k => F k ∨ W.heap.size ≤ k) p T := (h.below hb).mono (fun k hk _ => Or.inl hk)
set_option maxHeartbeats 2000000 in
set_option maxRecDepth 100000 in
theorem Rm.cas_c (h : Rm W F p T) (i : Int) (hs : Kd.C Kd.string W A y.f2.length y.f2) (hn : y.f2.length ≤ 8796093022200) :
    Calls Try.prog 21 #[.pointer (some ⟨p, 0, none⟩), .int .i64 i, .agg #[.int .i64 y.f0, .int .i64 y.f1, .slice A y.f2.length c]] W (RCasIn W F p T i y) := by
  have HM := Aside0.mk h
  obtain ⟨g, cap, X, rfl, hR⟩ := h
  have hba := (Below.refl W.heap.size W).alloc (Nat.le_refl _) (.cells #[.int .i64 y.f0, .int .i64 y.f1, .slice A y.f2.length c] 48)
  have hg := heap_alloc_new W (.cells #[.int .i64 y.f0, .int .i64 y.f1, .slice A y.f2.length c] 48)
  have hs1 := Kd.C_below hs hba
  have hR1 : Rt (W.alloc (.cells #[.int .i64 y.f0, .int .i64 y.f1, .slice A y.f2.length c] 48)) (fun k => F k ∧ k < W.heap.size) p g cap X := hR.step (fun k hk hl => hba.block k hl) (fun _ h => h)
  have hl : (X.length : Int) ≤ 65536 := by have := hR.1; omega
  have hcap := own_le hR1.2.2.2.2.1
  have hp := hR1.2.2.2.1
  have c0 : (W.alloc (.cells #[.int .i64 y.f0, .int .i64 y.f1, .slice A y.f2.length c] 48)).cell? ⟨p, 0, none⟩ = some (.slice (some ⟨g, 0, none⟩) X.length cap) := (blk_cell hp 0).trans rfl
  have HR1 := Aside0.mk hR1
  have HR0 := Aside0.mk hR
  have HB := Aside0.mk hba
  have HG := Aside0.mk hg
  have HS1 := Aside0.mk hs1
  have HN := Aside0.mk hn
  have HX : Aside0 ((absR X).length = X.length) := ⟨absR_length X⟩
  clear hR hba hg hR1 hp hcap hs1 hs hn
  by_cases hin : 0 ≤ i ∧ i < (X.length : Int)
  · obtain ⟨h0, h1⟩ := hin
    obtain ⟨k, rfl⟩ := Int.eq_ofNat_of_zero_le h0
    have hk : k < X.length := by omega
    have hL := lookR k hk
    have HCB : Aside0 (casB (absR X) (k : Int) = !(X[k]).isSome) := ⟨by
      unfold casB
      rw [hL, HX.out, decide_eq_true h0, decide_eq_true h1]
      cases X[k] <;> rfl⟩
    obtain ⟨e0, -, -, -⟩ := HR1.out.cells k hk
    have HK := Aside0.mk hk
    obtain ⟨u, hu⟩ : ∃ u, X[k] = u := ⟨_, rfl⟩
    rw [hu] at HCB e0
    clear h0 hk hL hu
    cases u with
    | some e =>
      replace e0 : (W.alloc (.cells #[.int .i64 y.f0, .int .i64 y.f1, .slice A y.f2.length c] 48)).cell? ⟨g, k * 4, none⟩ = some (.bool true) := e0
      go_enter Try.func21, Try.ntmps21
      go_wp2_with fail
      go_ret
      have hcb : casB (absR X) (k : Int) = false := HCB.out
      refine ⟨by rw [hcb]; rfl, ?_, Fr.of_below HB.out _⟩
      unfold casT
      rw [hcb, if_neg (by simp)]
      exact HM.out.same HB.out
    | none =>
      replace e0 : (W.alloc (.cells #[.int .i64 y.f0, .int .i64 y.f1, .slice A y.f2.length c] 48)).cell? ⟨g, k * 4, none⟩ = some (.bool false) := e0
      have hb2 : (W.alloc (.cells #[.int .i64 y.f0, .int .i64 y.f1, .slice A y.f2.length c] 48)).cell? ⟨W.heap.size, 2, none⟩ = some (.slice A y.f2.length c) := (blk_cell HG.out 2).trans rfl
      have HA : Aside0 (0 < y.f2.length → ∃ ad, A = some ad) := ⟨fun h0 => by obtain ⟨ad, ha, _⟩ := HS1.out.2.2 h0; exact ⟨ad, ha⟩⟩
      have HNIL : Aside0 (A = none → y.f2.length = 0) := ⟨fun e => by
        rcases Nat.eq_zero_or_pos y.f2.length with h0 | h0
        · exact h0
        · obtain ⟨ad, ha⟩ := HA.out h0
          rw [e] at ha
          cases ha⟩
      obtain ⟨z, hz, hzc⟩ := info9z
      have HZI := Aside0.mk hz
      have HSZ : Aside0 (W.heap.size < (W.alloc (.cells #[.int .i64 y.f0, .int .i64 y.f1, .slice A y.f2.length c] 48)).heap.size) := ⟨by simp⟩
      clear hz
      go_enter Try.func21, Try.ntmps21
      go_upto_region 3 with fail
      change Code.wp Try.prog _ _ _ (W.alloc (.cells #[.int .i64 y.f0, .int .i64 y.f1, .slice A y.f2.length c] 48))
      clear c0 e0
      generalize W.alloc (.cells #[.int .i64 y.f0, .int .i64 y.f1, .slice A y.f2.length c] 48) = W1 at *
      have HR : Aside0 (∀ j u, (strs y.f2)[j]? = some u → ∀ ad, A = some ad → (W1.alloc (.cells #[] 9)).cell? (ad.add j) = some u) := ⟨fun j u hu ad ha => str_cells (Kd.C_below HS1.out ((Below.refl W1.heap.size W1).alloc (Nat.le_refl _) _)) ha hu⟩
      have hb3 := pw_cell_below ((Below.refl W1.heap.size W1).alloc (Nat.le_refl _) (.cells #[] 9)) hb2
      clear hb2
      go_upto_region 4 with (at_builtin; refine append_any W1.heap.size rfl (.tmp 28) (.tmp 30) 29 9 z 1 16 rfl Try.underlying29 HZI.out hzc (by decide) (by decide) (.slice (some ⟨W1.heap.size, 0, none⟩) 0 0) 0 [] (strs y.f2) A y.f2.length c rfl rfl (by rw [strs_length, Nat.mul_one]) (strs_one y.f2) ?a1 ?a2 HNIL.out ?a3 ?a4 ?_; (case a1 => exact World.ownsRow_made W1 #[] 0 (Nat.le_refl _) (by decide) rfl); (case a2 => exact fun h0 => by obtain ⟨ad, ha⟩ := HA.out h0; exact ⟨ad, ha, fun j u hu => HR.out j u hu ad ha⟩); (case a3 => simp); (case a4 => have := HN.out; omega); intro v1 w2 ho hg hat; have HO2 := Aside0.mk ho; have HG2 := Aside0.mk (((Below.refl W1.heap.size W1).alloc (Nat.le_refl _) (.cells #[] 9)).grown hg (by simp) (fun k hk => by simp [Value.ownBlock] at hk; omega)); clear ho hg hat; obtain ⟨A1, c1, rfl, hc1, hr1⟩ := str_reads (b := W1.heap.size) (ss := y.f2) (by have := HO2.out; rw [Nat.zero_add, List.nil_append] at this; exact this); clear hr1 hc1; have hgx := (HG2.out.block _ HSZ.out).trans HG.out; have HGX := Aside0.mk hgx; have hcx := blk_cell hgx 2; have hfx := blk_frozen hgx 2; clear hgx)
      have hgx := (HG2.out.block _ HSZ.out).trans HG.out
      have hg3 := blk_set hgx 2 (.slice A1 y.f2.length c1)
      have ho2 : w2.ownsRow W1.heap.size 9 1 (.slice A1 y.f2.length c1) y.f2.length (strs y.f2) := by have := HO2.out; rw [Nat.zero_add, List.nil_append] at this; exact this
      have ho3 := own_setCell ho2 (p := ⟨W.heap.size, 2, none⟩) (own_ne ho2 hgx (by decide)) (.slice A1 y.f2.length c1)
      have hb4 := (HB.out.trans (HG2.out.mono (Nat.le_of_lt HSZ.out))).setCell (p := ⟨W.heap.size, 2, none⟩) (Nat.le_refl _) (.slice A1 y.f2.length c1)
      have hR4 := HR0.out.step (fun k hk hl => hb4.block k hl) (fun _ h => h)
      have HG4 := Aside0.mk hg3
      have HO4 := Aside0.mk ho3
      have HB4 := Aside0.mk hb4
      have HR4 := Aside0.mk hR4
      have HW4 : Aside0 (W.heap.size < (w2.setCell ⟨W.heap.size, 2, none⟩ (.slice A1 y.f2.length c1)).heap.size) := ⟨by have := HG2.out.size; have := HSZ.out; simp; omega⟩
      have hp4 := hR4.2.2.2.1
      have HF4 : Aside0 (∀ j u, (f4 X)[j]? = some u → ((w2.setCell ⟨W.heap.size, 2, none⟩ (.slice A1 y.f2.length c1)).alloc (.cells #[] 79)).cell? ((⟨g, 0, none⟩ : Addr).add j) = some u) := ⟨(hR4.2.2.2.2.1.alloc _).cells rfl⟩
      have p4 := pw_cell_below ((Below.refl (w2.setCell ⟨W.heap.size, 2, none⟩ (.slice A1 y.f2.length c1)).heap.size _).alloc (Nat.le_refl _) (.cells #[] 79)) ((blk_cell hp4 0).trans rfl)
      clear hgx hg3 ho2 ho3 hb4 hR4 hb3 hp4 HO2 HG2 HR HB HR1 HG HS1
      generalize w2.setCell ⟨W.heap.size, 2, none⟩ (.slice A1 y.f2.length c1) = w4 at *
      obtain ⟨z2, hz2, hzc2⟩ := info79z
      have HZI2 := Aside0.mk hz2
      clear hz2
      go_upto_region 5 with (at_builtin; refine append_any w4.heap.size rfl (.tmp 34) (.tmp 38) 54 79 z2 4 48 rfl Try.underlying54 HZI2.out hzc2 (by decide) (by decide) (.slice (some ⟨w4.heap.size, 0, none⟩) 0 0) 0 [] (f4 X) (some ⟨g, 0, none⟩) X.length cap rfl rfl (f4_length X) (f4_one X) ?a1 ?a2 (fun e => by cases e) ?a3 ?a4 ?_; (case a1 => exact World.ownsRow_made w4 #[] 0 (Nat.le_refl _) (by decide) rfl); (case a2 => exact fun h0 => ⟨_, rfl, HF4.out⟩); (case a3 => simp); (case a4 => have := HR0.out.1; omega); intro v2 w5 ho hg hat; have HO5 := Aside0.mk ho; have HG5 := Aside0.mk (((Below.refl w4.heap.size w4).alloc (Nat.le_refl _) (.cells #[] 79)).grown hg (by simp) (fun k hk => by simp [Value.ownBlock] at hk; omega)); clear ho hg hat; obtain ⟨g2, cap2, rfl⟩ := own_pos HO5.out (by have := HK.out; omega); have hpx := (HG5.out.block p (blk_lt HR4.out.2.2.2.1)).trans HR4.out.2.2.2.1; have hcx := blk_cell hpx 0; have hfx := blk_frozen hpx 0; clear hpx)
      have hpx := (HG5.out.block p (blk_lt HR4.out.2.2.2.1)).trans HR4.out.2.2.2.1
      have hgx := (HG5.out.block _ HW4.out).trans HG4.out
      have hpb : p ≠ W.heap.size := blk_ne hpx hgx (by decide)
      have ho5 : w5.ownsRow w4.heap.size 79 4 (.slice (some ⟨g2, 0, none⟩) X.length cap2) X.length (f4 X) := by have := HO5.out; rw [Nat.zero_add, List.nil_append] at this; simpa using this
      have HC6 : Aside0 (CasS (w5.setCell ⟨p, 0, none⟩ (.slice (some ⟨g2, 0, none⟩) X.length cap2)) p W.heap.size g2 X.length cap2 X (y, A1, c1) w4.heap.size) :=
        ⟨⟨blk_set hpx 0 _, blk_far hgx (p := ⟨p, 0, none⟩) (fun e => hpb e.symm) _, own_setCell ho5 (p := ⟨p, 0, none⟩) (own_ne ho5 hpx (by decide)) _⟩⟩
      have HF6 : Aside0 (Fr F W (w5.setCell ⟨p, 0, none⟩ (.slice (some ⟨g2, 0, none⟩) X.length cap2))) := ⟨(Fr.of_below (HB4.out.trans (HG5.out.mono HB4.out.size)) F).setCell (p := ⟨p, 0, none⟩) (Or.inl HR0.out.2.1.1) _⟩
      have HS6 : Aside0 ((w5.setCell ⟨p, 0, none⟩ (.slice (some ⟨g2, 0, none⟩) X.length cap2)).ownsRow W1.heap.size 9 1 (.slice A1 y.f2.length c1) y.f2.length (strs y.f2)) := ⟨by
        have h1 := own_move HO4.out (fun k hk => HG5.out.block k (own_lt HO4.out k hk))
        exact own_setCell h1 (p := ⟨p, 0, none⟩) (own_ne h1 hpx (by decide)) _⟩
      have HE6 : Aside0 (∀ e, some e ∈ X → Sty (w5.setCell ⟨p, 0, none⟩ (.slice (some ⟨g2, 0, none⟩) X.length cap2)) (fun k => F k ∧ k < W.heap.size) e) := ⟨fun e he => by
        have h1 := HR0.out.2.2.2.2.2 e he
        refine ⟨?_, h1.2⟩
        have h2 := own_move h1.1 (fun k hk => (HB4.out.trans (HG5.out.mono HB4.out.size)).block k (h1.2 k hk).2)
        exact own_setCell h2 (p := ⟨p, 0, none⟩) (own_ne h2 hpx (by decide)) _⟩
      have HW6 : Aside0 (W.heap.size ≤ w4.heap.size ∧ W.heap.size ≤ W1.heap.size) := ⟨Nat.le_of_lt HW4.out, Nat.le_of_lt HSZ.out⟩
      clear hpx hgx hpb ho5 hcx hfx p4 HO5 HG5 HF4 HO4 HB4 HG4 HR4
      generalize w5.setCell ⟨p, 0, none⟩ (.slice (some ⟨g2, 0, none⟩) X.length cap2) = w6 at *
      refine PrintLast.start_ (n := 9) (S := fun w' => CasS w' p W.heap.size g2 X.length cap2 X (y, A1, c1) w4.heap.size) (ds := [8]) #[false, false, false, false, false, false, false, false, false] (by kernel_rfl) rfl rfl (HC6.out) (fun hHeld => ?_)
      have HF7 := Aside0.mk (HF6.out.drewN 1)
      clear HC6
      clear HF6
      have HF6 := HF7
      clear HF7
      change Aside0 (Fr F W w6.drew) at HF6
      change Aside0 (w6.drew.ownsRow W1.heap.size 9 1 (.slice A1 y.f2.length c1) y.f2.length (strs y.f2)) at HS6
      change Aside0 (∀ e, some e ∈ X → Sty w6.drew (fun k => F k ∧ k < W.heap.size) e) at HE6
      generalize w6.drew = w7 at *
      refine PrintLast.pure_ (i := 0) (N := some 42) (v := ?_) (a' := ?_) #[true, false, false, false, false, false, false, false, false] rfl rfl (by kernel_rfl) (fun _ _ _ h => h) (Or.inl ⟨by rfl, ?_⟩) ?_ ?_
      rotate_left
      · intro w'
        go_simp
        with_reducible rfl
      rotate_left
      · simp only [Act.put, List.setIfInBounds_toArray, List.set_cons_zero, List.set_cons_succ]
        rfl
      refine PrintLast.pure_ (i := 1) (N := some 43) (v := ?_) (a' := ?_) #[true, true, false, false, false, false, false, false, false] rfl rfl (by kernel_rfl) (fun _ _ _ h => h) (Or.inl ⟨by rfl, ?_⟩) ?_ ?_
      rotate_left
      · intro w'
        go_simp
        with_reducible rfl
      rotate_left
      · simp only [Act.put, List.setIfInBounds_toArray, List.set_cons_zero, List.set_cons_succ]
        rfl
      refine PrintLast.pure_ (i := 2) (N := some 44) (v := ?_) (a' := ?_) #[true, true, true, false, false, false, false, false, false] rfl rfl (by kernel_rfl) (fun _ _ _ h => h) (Or.inl ⟨by rfl, ?_⟩) ?_ ?_
      rotate_left
      · intro w'
        go_simp
        with_reducible rfl
      rotate_left
      · simp only [Act.put, List.setIfInBounds_toArray, List.set_cons_zero, List.set_cons_succ]
        rfl
      refine PrintLast.take_ (i := 3) (N := some 45) (v := .slice (some ⟨g2, 0, none⟩) X.length cap2) (a' := ?_) #[true, true, true, true, false, false, false, false, false] rfl rfl (by kernel_rfl) (fun _ _ _ h => h) (Or.inl ⟨by rfl, ?_⟩) hHeld ?_ ?_
      · intro w' hS
        have hc2 := (blk_cell hS.1 0).trans rfl
        go_simp
      rotate_left
      · simp only [Act.put, List.setIfInBounds_toArray, List.set_cons_zero, List.set_cons_succ]
        rfl
      refine PrintLast.pure_ (i := 4) (N := some 46) (v := ?_) (a' := ?_) #[true, true, true, true, true, false, false, false, false] rfl rfl (by kernel_rfl) (fun _ _ _ h => h) (Or.inl ⟨by rfl, ?_⟩) ?_ ?_
      rotate_left
      · intro w'
        go_simp
        with_reducible rfl
      rotate_left
      · simp only [Act.put, List.setIfInBounds_toArray, List.set_cons_zero, List.set_cons_succ]
        rfl
      refine PrintLast.take_ (i := 5) (N := some 47) (v := .agg #[.int .i64 y.f0, .int .i64 y.f1, .slice A1 y.f2.length c1]) (a' := ?_) #[true, true, true, true, true, true, false, false, false] rfl rfl (by kernel_rfl) (fun _ _ _ h => h) (yieldsIf_load_mid (by rfl) 48 (.tmp 5) rfl W.heap.size 0 rfl [.int .i64 y.f0, .int .i64 y.f1, .slice A1 y.f2.length c1] _ (fun w hS => range3 hS.2.1) Try.underlying48 rfl size48) hHeld ?_ ?_
      rotate_left
      · simp only [Act.put, List.setIfInBounds_toArray, List.set_cons_zero, List.set_cons_succ]
        rfl
      refine PrintLast.pure_ (i := 6) (N := some 48) (v := ?_) (a' := ?_) #[true, true, true, true, true, true, true, false, false] rfl rfl (by kernel_rfl) (fun _ _ _ h => h) (Or.inl ⟨by rfl, ?_⟩) ?_ ?_
      rotate_left
      · intro w'
        go_simp
        with_reducible rfl
      rotate_left
      · simp only [Act.put, List.setIfInBounds_toArray, List.set_cons_zero, List.set_cons_succ]
        rfl
      refine PrintLast.pure_ (i := 7) (N := some 49) (v := ?_) (a' := ?_) #[true, true, true, true, true, true, true, true, false] rfl rfl (by kernel_rfl) (fun _ _ _ h => h) (Or.inl ⟨by rfl, ?_⟩) ?_ ?_
      rotate_left
      · intro w'
        go_simp
        with_reducible rfl
      rotate_left
      · simp only [Act.put, List.setIfInBounds_toArray, List.set_cons_zero, List.set_cons_succ]
        rfl
      refine PrintLast.last_ (i := 8) (N := none) #[true, true, true, true, true, true, true, true, true] rfl rfl (by kernel_rfl) (by decide) (fun K hK => ?_)
      rw [if_pos (by rfl)]
      refine store_none 79 _ _ rfl rfl g2 (k * 4) (c4 (some (y, A1, c1))) rfl rfl (own_there hHeld.2.2 HK.out) (by kernel_rfl) (c4_one _) ?_
      refine hK.out _ _ ?_
      clear hK K
      refine PrintLast.done_ (by kernel_rfl) ?_
      have ho7 := own_set4 rfl hHeld.2.2 HK.out (some (y, A1, c1))
      have hp7 : (w7.setCells g2 (k * 4) (c4 (some (y, A1, c1)))).heap[p]? = some (.cells #[.slice (some ⟨g2, 0, none⟩) X.length cap2] 56 (0, 0)) := by
        have hne : p ≠ g2 := fun e => own_ne hHeld.2.2 hHeld.1 (by decide) (by rw [e]; rfl)
        exact blk_far (blk_far (blk_far (blk_far hHeld.1 (p := ⟨g2, k * 4, none⟩) hne _) (p := ⟨g2, k * 4 + 1, none⟩) hne _) (p := ⟨g2, k * 4 + 2, none⟩) hne _) (p := ⟨g2, k * 4 + 3, none⟩) hne _
      have hf7 : Fr F W (w7.setCells g2 (k * 4) (c4 (some (y, A1, c1)))) := setCells_fr (Or.inr (Nat.le_trans HW6.out.1 (own_base hHeld.2.2 g2 rfl))) _ _ HF6.out
      have keep7 : ∀ {b n : Nat} {v : Value} {xs : List Value}, w7.ownsRow b 9 1 v n xs → (w7.setCells g2 (k * 4) (c4 (some (y, A1, c1)))).ownsRow b 9 1 v n xs := fun {b n v xs} h => by
        obtain ⟨cs, hcs⟩ := own_typed hHeld.2.2 g2 rfl
        exact own_setCells _ _ h (own_ne h hcs (by decide))
      have hR7 : Rt (w7.setCells g2 (k * 4) (c4 (some (y, A1, c1)))) (fun k => F k ∨ W.heap.size ≤ k) p g2 cap2 (X.set k (some (y, A1, c1))) := by
        refine ⟨by rw [List.length_set]; exact HR0.out.1, Or.inl HR0.out.2.1.1, Or.inr (Nat.le_trans HW6.out.1 (own_base hHeld.2.2 g2 rfl)), by rw [List.length_set]; exact hp7, by rw [List.length_set]; exact own_weaken ho7 (Nat.zero_le _), fun e he => ?_⟩
        rcases List.mem_or_eq_of_mem_set he with he | he
        · have := HE6.out e he
          exact ⟨keep7 this.1, fun k hk => Or.inl (this.2 k hk).1⟩
        · cases he
          exact ⟨keep7 (own_weaken HS6.out (Nat.zero_le _)), fun k hk => Or.inr (Nat.le_trans HW6.out.2 (own_base HS6.out k hk))⟩
      have HR7 := Aside0.mk (Rm.of hR7)
      have HF7 := Aside0.mk hf7
      clear ho7 hp7 hf7 keep7 hR7
      generalize w7.setCells g2 (k * 4) (c4 (some (y, A1, c1))) = w8 at *
      go_wp2_with fail
      go_ret
      have hcb : casB (absR X) (k : Int) = true := HCB.out
      refine ⟨by rw [hcb]; rfl, ?_, HF7.out⟩
      unfold casT
      rw [hcb, if_pos rfl, Int.toNat_natCast]
      have := HR7.out
      rw [absR_set] at this
      exact this
  · have HCB : Aside0 (casB (absR X) i = false) := ⟨by
      unfold casB
      rw [HX.out]
      by_cases h0 : 0 ≤ i
      · rw [decide_eq_true h0, decide_eq_false (fun h1 => hin ⟨h0, h1⟩)]
        rfl
      · rw [decide_eq_false h0]
        rfl⟩
    have HEND : Aside0 (RCasIn W F p (absR X) i y (.returned (.bool false)) (W.alloc (.cells #[.int .i64 y.f0, .int .i64 y.f1, .slice A y.f2.length c] 48))) := ⟨⟨by rw [HCB.out], by unfold casT; rw [HCB.out, if_neg (by simp)]; exact HM.out.same HB.out, Fr.of_below HB.out _⟩⟩
    rcases Int.lt_or_le i 0 with hn | hn
    · clear hin
      go_enter Try.func21, Try.ntmps21
      go_wp2_with fail
      go_ret
      exact HEND.out
    · have hge : (X.length : Int) ≤ i := by omega
      clear hin
      go_enter Try.func21, Try.ntmps21
      go_wp2_with fail
      go_ret
      exact HEND.out
end
end Go.Proofs.Ytpgdehelamgbnaa
