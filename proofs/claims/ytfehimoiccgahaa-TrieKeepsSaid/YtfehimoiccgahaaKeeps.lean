/-
  TrieKeeps: the walk.
-/
import Derived.Test.YtfehimoiccgahaaKept
namespace Go.Proofs.Ytfehimoiccgahaa
open Go.RowKit Go.Proofs.YtfehimoiccgahaaW Go.Proofs.YtfehimoiccgahaaW.PrintWords PTrieActs
set_option linter.unusedVariables false
set_option linter.unusedSimpArgs false
attribute [local go_sem] Oper.semAt_some
theorem info36 : (Try.prog.info? 36).map (fun i => (i.zero, i.size, i.bytes)) = some (some (.pointer none), 1, 8) := by kernel_rfl
theorem info38 : (Try.prog.info? 38).map (fun i => (i.zero, i.size, i.bytes)) = some (some (.slice none 0 0), 1, 24) := by kernel_rfl
/-- What a round works on. -/
def Ro (W w : World) (va vl : Value) (xs : List En) (m : Int) (y : S40) (b10 : Nat) : Prop := Ks W w va vl xs m ∧ w.heap[b10]? = some (.cells (ac y) 40 (0, 0))
theorem Ro.below {W w w' : World} {va vl : Value} {xs : List En} {m : Int} {y : S40} {b10 : Nat} (h : Ro W w va vl xs m y b10) (hb : Below w.heap.size w w') : Ro W w' va vl xs m y b10 := ⟨h.1.below hb, S.obj_keep h.2 hb⟩
def Rh (W w : World) (va vl : Value) (xs : List En) (m : Int) (p : Nat) (u : Nd ByteArray) (y : S40) (b10 : Nat) : Prop := Kh W w va vl xs m p u ∧ w.heap[b10]? = some (.cells (ac y) 40 (0, 0))
theorem Rh.below {W w w' : World} {va vl : Value} {xs : List En} {m : Int} {p : Nat} {u : Nd ByteArray} {y : S40} {b10 : Nat} (h : Rh W w va vl xs m p u y b10) (hb : Below w.heap.size w w') : Rh W w' va vl xs m p u y b10 := ⟨h.1.below hb, S.obj_keep h.2 hb⟩
/-- A pointer of the row, a list of the row. -/
theorem Ks.at_p {W w : World} {va vl : Value} {xs : List En} {m : Int} (h : Ks W w va vl xs m) {k : Nat} (hk : k < xs.length) : ∃ ad c, va = .slice (some ad) xs.length c ∧ w.cell? (ad.add k) = some (.pointer (some ⟨xs[k].p, 0, none⟩)) := by
  obtain ⟨A, c, he, _, hC⟩ := Kd.R_reads h.ra
  obtain ⟨ad, rfl, hc⟩ := sc_at hC (k := k) (by simpa using hk) (by simpa using hk)
  rw [List.length_map] at he
  refine ⟨ad, c, he, ?_⟩
  rw [hc]
  simp
theorem at_l {w : World} {B : Nat} {vl : Value} {xs : List En} (h : kl.R 38 w B (fun _ => True) vl (xs.map En.v)) {k : Nat} (hk : k < xs.length) : ∃ ad c, vl = .slice (some ad) xs.length c ∧ w.cell? (ad.add k) = some (.slice xs[k].A xs[k].L.length xs[k].c) := by
  obtain ⟨A, c, he, _, hC⟩ := Kd.R_reads h
  obtain ⟨ad, rfl, hc⟩ := sc_at hC (k := k) (by simpa using hk) (by simpa using hk)
  rw [List.length_map] at he
  refine ⟨ad, c, he, ?_⟩
  rw [hc]
  simp [En.v]
theorem gd_len {B : Nat} {w : World} {x : En} {m : Int} (h : Gd B w x m) (hm : m ≤ 1000000) : x.L.length ≤ 1000000 := by
  have h1 := h.pr.length h.tr.1.2.2.1
  have h2 := h.sz
  omega
theorem rd_c {w : World} {B c : Nat} {A : Option Addr} {l : List S79} {ok : Nat → Prop} (h : Kd.R k79 79 w B ok (.slice A l.length c) l) : l.length ≤ c ∧ Kd.C k79 w A l.length l := by
  obtain ⟨A2, c2, he, hc, hC⟩ := Kd.R_reads h
  injection he with e1 e2 e3
  subst e1 e3
  exact ⟨hc, hC⟩
/-- Where a round's drawn region leaves it. -/
def OutA (W : World) (vl : Value) (xs : List En) (m : Int) (f : Nat → Option ByteArray) (s : Int) (y : S40) (b10 : Nat) (va' : Value) (w' : World) : Prop :=
  ∃ p u, Rh W w' va' vl xs m p u y b10 ∧ (∀ j, j < 1048576 → u.val j = f j) ∧ u.size ≤ s
theorem mod7 (i n : Nat) : ((i : Int) * 7) % (n : Int) = ((i * 7 % n : Nat) : Int) := by simp
set_option maxHeartbeats 1500000 in
set_option maxRecDepth 100000 in
theorem keeps_w {W : World} {A : Option Addr} {c : Nat} {l : List S40} (h : Kd.C k40 W A l.length l) (hc : l.length ≤ c) (hf : Fits l) (hn : l.length ≤ 1000000000000000) :
    Calls Try.prog 6 #[.slice A l.length c] W fun e w' => e = .returned (.bool true) ∧ Below W.heap.size W w' := by
  have H := Aside0.mk h
  have HL := Aside0.mk (light_c h hc hf hn)
  have gl : (l.length : Int) ≤ 1000000000000000 := by omega
  clear h hc hf hn
  by_cases h40 : 40 < l.length
  · have g40 : (40 : Int) < (l.length : Int) := by omega
    go_enter Try.func6, Try.ntmps6
    go_wp2_with fail
    refine HL.out.mono ?_
    rintro e w1 ⟨b, rfl, _, hb⟩
    have HW1 := Aside0.mk hb
    clear hb
    cases b with
    | false =>
      go_wp2_with fail
      refine (lives_c _).mono ?_
      rintro e w2 ⟨rfl, hb⟩
      have HW2 := Aside0.mk (below_step HW1.out hb)
      clear hb
      go_wp2_with fail
      go_ret
      exact ⟨rfl, HW2.out⟩
    | true =>
      go_wp2_with fail
      refine (lives_c _).mono ?_
      rintro e w2 ⟨rfl, hb⟩
      have HW2 := Aside0.mk (below_step HW1.out hb)
      clear hb
      go_wp2_with fail
      go_ret
      exact ⟨rfl, HW2.out⟩
  · have HN : Aside0 (l.length ≤ 40) := ⟨by omega⟩
    have g40 : (l.length : Int) ≤ 40 := by omega
    clear h40
    go_enter Try.func6, Try.ntmps6
    go_wp2_with fail
    refine HL.out.mono ?_
    rintro e w1 ⟨b, rfl, _, hb⟩
    have HW1 := Aside0.mk hb
    clear hb HL
    cases b with
    | false =>
      go_wp2_with fail
      refine (lives_c _).mono ?_
      rintro e w2 ⟨rfl, hb⟩
      have HW2 := Aside0.mk (below_step HW1.out hb)
      clear hb
      go_wp2_with fail
      go_ret
      exact ⟨rfl, HW2.out⟩
    | true =>
      go_wp2_with fail
      refine (S.new_ck w1).mono ?_
      rintro e w2 ⟨rfl, hT, hB⟩
      have HT := Aside0.mk hT
      have HB := Aside0.mk (below_step HW1.out hB)
      clear hT hB HW1
      generalize w1.heap.size + 1 = p0 at *
      go_upto_region 5 with fail
      have hk0 : Ks W ((w2.alloc (.cells #[.pointer (some ⟨p0, 0, none⟩)] 36)).alloc (.cells #[.slice none 0 0] 38)) (.slice (some ⟨w2.heap.size, 0, none⟩) 1 1) (.slice (some ⟨w2.heap.size + 1, 0, none⟩) 1 1) [⟨p0, .node w1.heap.size (fun _ => .nil) (fun _ => none) 0, none, 0, []⟩] ((0 : Nat) : Int) := by
        have hb0 : Below w2.heap.size w2 ((w2.alloc (.cells #[.pointer (some ⟨p0, 0, none⟩)] 36)).alloc (.cells #[.slice none 0 0] 38)) := ((Below.refl _ _).alloc (Nat.le_refl _) _).alloc (by simp) _
        refine ⟨below_step HB.out hb0, row_one HB.out.size (heap_alloc2_old w2 _ _), row_one (by have := HB.out.size; omega) (heap_alloc2_new w2 _ _), fun x hx => ?_⟩
        obtain rfl := List.mem_singleton.1 hx
        exact ⟨HT.out.below hb0, Kd.R_nil _ _ _ _ _, ⟨List.Pairwise.nil, fun x => ⟨fun h => (List.not_mem_nil h).elim, fun h => by rw [val_new] at h; cases h.2.2⟩⟩, Int.le_refl _⟩
      have HK0 := Aside0.mk hk0
      clear hk0 HT HB
      go_wp2_with fail
      go_loopw [3, 4, 23] (fun v3 v4 i wr => ∃ (k : Nat) (xs : List En), i = .int .i64 k ∧ xs.length = k + 1 ∧ k ≤ l.length ∧ Aside0 (Ks W wr v3 v4 xs (k : Int))) (fun _ _ i _ => l.length - (intOf i).toNat)
      case atStart => exact ⟨0, _, rfl, rfl, Nat.zero_le _, HK0⟩
      case round =>
        clear HK0
        obtain ⟨k, xs, rfl, hxl, hk, HKS⟩ := hrel
        have HXL := Aside0.mk hxl
        obtain ⟨ada, ca, hva⟩ : ∃ ad c, u3 = Value.slice (some ad) xs.length c := by
          obtain ⟨ad, c, h, _⟩ := HKS.out.at_p (k := 0) (by omega)
          exact ⟨ad, c, h⟩
        obtain ⟨adl, cl, hvl⟩ : ∃ ad c, u4 = Value.slice (some ad) xs.length c := by
          obtain ⟨ad, c, h, _⟩ := at_l HKS.out.rl (k := 0) (by omega)
          exact ⟨ad, c, h⟩
        subst hva hvl
        by_cases hlt : k < l.length
        · have g1 : (k : Int) < (l.length : Int) := by omega
          obtain ⟨ad, rfl, e0, e1, e2⟩ := act_at H.out k hlt
          have e0 := pw_cell_below HKS.out.bel e0
          have e1 := pw_cell_below HKS.out.bel e1
          have e2 := pw_cell_below HKS.out.bel e2
          have HK : Aside0 (k ≤ 40) := ⟨by have := HN.out; omega⟩
          have HLT := Aside0.mk hlt
          have hq : k * 7 % xs.length < xs.length := Nat.mod_lt _ (by omega)
          have hx7 := mod7 k xs.length
          have gx : (1 : Int) ≤ (xs.length : Int) := by omega
          have gk : (k : Int) ≤ 40 := by have := HK.out; omega
          have g41 : (xs.length : Int) ≤ 1000 := by have := HK.out; omega
          clear hk hxl
          generalize l[k] = y at *
          clear hlt
          have hal := heap_alloc_new wr (.cells (ac y) 40)
          have hab : Below wr.heap.size wr (wr.alloc (.cells (ac y) 40)) := (Below.refl _ _).alloc (Nat.le_refl _) _
          have HRO : Aside0 (Ro W (wr.alloc (.cells (ac y) 40)) (.slice (some ada) xs.length ca) (.slice (some adl) xs.length cl) xs (k : Int) y wr.heap.size) := ⟨HKS.out.below hab, hal⟩
          clear hal hab HKS
          have HX7 := Aside0.mk hx7
          have HQ := Aside0.mk hq
          clear hx7 hq
          go_upto_region 9 with fail
          rw [HX7.out]
          have hq := HQ.out
          change Code.wp Try.prog _ _ _ (wr.alloc (.cells (ac y) 40))
          generalize wr.alloc (.cells (ac y) 40) = w3 at *
          generalize wr.heap.size = b10 at *
          generalize k * 7 % xs.length = q at *
          have gq : (q : Int) < (xs.length : Int) := by omega
          obtain ⟨x, hx⟩ : ∃ x, xs[q] = x := ⟨_, rfl⟩
          have HXM : Aside0 (x ∈ xs) := ⟨by rw [← hx]; exact List.getElem_mem hq⟩
          have HAP : Aside0 (∀ w', Ks W w' (.slice (some ada) xs.length ca) (.slice (some adl) xs.length cl) xs (k : Int) → w'.cell? (ada.add q) = some (.pointer (some ⟨x.p, 0, none⟩))) := ⟨fun w' h => by
            obtain ⟨ad2, c2, he, hc⟩ := h.at_p hq
            injection he with h1
            injection h1 with h1
            subst h1
            rw [hc, hx]⟩
          have HAL : Aside0 (∀ w', kl.R 38 w' W.heap.size (fun _ => True) (.slice (some adl) xs.length cl) (xs.map En.v) → w'.cell? (adl.add q) = some (.slice x.A x.L.length x.c)) := ⟨fun w' h => by
            obtain ⟨ad2, c2, he, hc⟩ := at_l h hq
            injection he with h1
            injection h1 with h1
            subst h1
            rw [hc, hx]⟩
          have HTX : Aside0 (x.t.size ≤ 1000000) := ⟨by have := (HRO.out.1.gd x HXM.out).sz; omega⟩
          have HLX : Aside0 (x.L.length ≤ 1000000000) := ⟨by have := gd_len (HRO.out.1.gd x HXM.out) (by omega); omega⟩
          clear hx HX7 HQ e0 e1 e2 hq
          obtain ⟨x0, x1, x2⟩ := bx HRO.out.2
          cases hf0 : y.f0 with
          | true =>
            rw [hf0] at x0
            clear hf0
            go_upto_region 10 with fail
            clear x0 x1 x2
            refine S.region_calm ?_
            refine PrintLast.start_ (n := 11) (S := fun w' => Ro W w' (.slice (some ada) xs.length ca) (.slice (some adl) xs.length cl) xs (k : Int) y b10) (ds := [9]) #[false, false, false, false, false, false, false, false, false, false, false] (by kernel_rfl) rfl rfl (HRO.out.below (below_drew (Below.refl _ _))) (fun hHeld => ?_)
            clear HRO
            generalize w3.drew = w4 at *
            refine PrintLast.pure_ (i := 0) (N := some 35) (v := ?_) (a' := ?_) #[true, false, false, false, false, false, false, false, false, false, false] rfl rfl (by kernel_rfl) (fun _ _ _ h => h) (Or.inl ⟨by rfl, ?_⟩) ?_ ?_
            rotate_left
            · intro w'
              go_simp
              with_reducible rfl
            rotate_left
            · simp only [Act.put, List.setIfInBounds_toArray, List.set_cons_zero, List.set_cons_succ]
              rfl
            refine PrintLast.pure_ (i := 1) (N := some 36) (v := ?_) (a' := ?_) #[true, true, false, false, false, false, false, false, false, false, false] rfl rfl (by kernel_rfl) (fun _ _ _ h => h) (Or.inl ⟨by rfl, ?_⟩) ?_ ?_
            rotate_left
            · intro w'
              go_simp
              with_reducible rfl
            rotate_left
            · simp only [Act.put, List.setIfInBounds_toArray, List.set_cons_zero, List.set_cons_succ]
              rfl
            refine PrintLast.pure_ (i := 2) (N := some 37) (v := ?_) (a' := ?_) #[true, true, true, false, false, false, false, false, false, false, false] rfl rfl (by kernel_rfl) (fun _ _ _ h => h) (Or.inl ⟨by rfl, ?_⟩) ?_ ?_
            rotate_left
            · intro w'
              go_simp
              with_reducible rfl
            rotate_left
            · simp only [Act.put, List.setIfInBounds_toArray, List.set_cons_zero, List.set_cons_succ]
              rfl
            refine PrintLast.pure_ (i := 3) (N := some 38) (v := ?_) (a' := ?_) #[true, true, true, true, false, false, false, false, false, false, false] rfl rfl (by kernel_rfl) (fun _ _ _ h => h) (Or.inl ⟨by rfl, ?_⟩) ?_ ?_
            rotate_left
            · intro w'
              go_simp
              with_reducible rfl
            rotate_left
            · simp only [Act.put, List.setIfInBounds_toArray, List.set_cons_zero, List.set_cons_succ]
              rfl
            refine PrintLast.take_ (i := 4) (N := some 39) (v := .pointer (some ⟨x.p, 0, none⟩)) (a' := ?_) #[true, true, true, true, true, false, false, false, false, false, false] rfl rfl (by kernel_rfl) (fun _ _ _ h => h) (Or.inl ⟨by rfl, ?_⟩) hHeld ?_ ?_
            · intro w' hS
              have hc2 := HAP.out _ hS.1
              go_simp
            rotate_left
            · simp only [Act.put, List.setIfInBounds_toArray, List.set_cons_zero, List.set_cons_succ]
              rfl
            refine PrintLast.pure_ (i := 5) (N := some 40) (v := ?_) (a' := ?_) #[true, true, true, true, true, true, false, false, false, false, false] rfl rfl (by kernel_rfl) (fun _ _ _ h => h) (Or.inl ⟨by rfl, ?_⟩) ?_ ?_
            rotate_left
            · intro w'
              go_simp
              with_reducible rfl
            rotate_left
            · simp only [Act.put, List.setIfInBounds_toArray, List.set_cons_zero, List.set_cons_succ]
              rfl
            refine PrintLast.take_ (i := 6) (N := some 41) (v := .int .i64 y.f1) (a' := ?_) #[true, true, true, true, true, true, true, false, false, false, false] rfl rfl (by kernel_rfl) (fun _ _ _ h => h) (Or.inl ⟨by rfl, ?_⟩) hHeld ?_ ?_
            · intro w' hS
              have hc2 := (bx hS.2).2.1
              go_simp
            rotate_left
            · simp only [Act.put, List.setIfInBounds_toArray, List.set_cons_zero, List.set_cons_succ]
              rfl
            refine PrintLast.one_ (i := 7) (N := some 42) #[true, true, true, true, true, true, true, true, false, false, false] rfl rfl (by kernel_rfl) (by decide) (fun K hK => ?_)
            refine PrintLast.goes_ Try.func18 (by kernel_rfl) rfl #[.pointer (some ⟨x.p, 0, none⟩), .int .i64 y.f1] (by rfl) rfl rfl (by first | rfl | (simp only [List.map_toArray, List.map_cons, List.map_nil]; rfl)) ?_
            refine (S.drop_k (hHeld.1.gd x HXM.out).tr HTX.out y.f1).mono ?_
            rintro e w5 ⟨p', u, rfl, ht, hv, hsz, hb⟩
            refine ⟨_, rfl, ?_⟩
            have HTU := Aside0.mk (And.intro ht (And.intro hv hsz))
            clear ht hv hsz
            refine hK.out _ _ (hHeld.below hb) (fun hHeld => ?_)
            clear hK K
            refine PrintLast.norm_ (a' := ?_) ?_ ?_
            rotate_left
            · show Act.put _ (some 42) _ = _
              simp only [Act.put, List.setIfInBounds_toArray, List.set_cons_zero, List.set_cons_succ]
              rfl
            have HR5 := Aside0.mk hHeld
            refine PrintLast.one_ (i := 8) (N := some 43) #[true, true, true, true, true, true, true, true, true, false, false] rfl rfl (by kernel_rfl) (by decide) (fun K hK => ?_)
            refine PrintLast.value_ (v := .slice (some ⟨w5.heap.size, 0, none⟩) 1 1) (w1 := w5.alloc (.cells #[.pointer (some ⟨p', 0, none⟩)] 36)) (by rfl) rfl ?_ ?_
            · go_simp
            refine hK.out _ _ (hHeld.below ((Below.refl w5.heap.size w5).alloc (Nat.le_refl _) _)) (fun hHeld => ?_)
            clear hK K
            refine PrintLast.norm_ (a' := ?_) ?_ ?_
            rotate_left
            · simp only [Act.put, List.setIfInBounds_toArray, List.set_cons_zero, List.set_cons_succ]
              rfl
            refine PrintLast.last_ (i := 9) (N := some 44) #[true, true, true, true, true, true, true, true, true, true, false] rfl rfl (by kernel_rfl) (by decide) (fun K hK => ?_)
            refine Kd.R_append_step kp (w0 := W) W.heap.size (by rfl) (.tmp 35) (.tmp 43) 51 36 (.pointer none) 8 rfl Try.underlying51 info36 rfl (by decide) (by decide) (.slice (some ada) xs.length ca) (xs.map En.p) p' [.pointer (some ⟨p', 0, none⟩)] (fun _ => True) (fun _ => False) rfl rfl rfl (fun _ hk => hk.elim) (fun _ _ => trivial) HR5.out.1.ra HR5.out.1.bel HR5.out.1.bel.size (by rw [List.length_map]; have := HXL.out; omega) (fun v1 w8 hr hb8 hg hat => ?_)
            refine hK.out _ _ ?_
            clear hK K
            refine PrintLast.norm_ (a' := ?_) ?_ ?_
            rotate_left
            · show Act.put _ (some 44) _ = _
              simp only [Act.put, List.setIfInBounds_toArray, List.set_cons_zero, List.set_cons_succ]
              rfl
            refine PrintLast.pure_ (i := 10) (N := some 3) (v := ?_) (a' := ?_) #[true, true, true, true, true, true, true, true, true, true, true] rfl rfl (by kernel_rfl) (fun _ _ _ h => h) (Or.inl ⟨by rfl, ?_⟩) ?_ ?_
            rotate_left
            · intro w'
              go_simp
              with_reducible rfl
            rotate_left
            · simp only [Act.put, List.setIfInBounds_toArray, List.set_cons_zero, List.set_cons_succ]
              rfl
            refine PrintLast.done_ (by kernel_rfl) ?_
            simp only [S.Calm]
            have HRH : Aside0 (Rh W w8 v1 (.slice (some adl) xs.length cl) xs (k : Int) p' u y b10) := ⟨HR5.out.1.half HTU.out.1 hr hb8 hg hg.size, Stays.of_grown hg (fun k e => by obtain ⟨c, hc⟩ := row_typed HR5.out.1.ra k e; exact ⟨c, 36, hc, .inl rfl⟩) _ _ _ HR5.out.2 (by decide) (by decide)⟩
            have HUV : Aside0 ((∀ m, m < 1048576 → u.val m = (fun m : Nat => if (m : Int) = y.f1 then none else x.t.val m) m) ∧ u.size ≤ (k : Int) + 1) := ⟨HTU.out.2.1, by have := HTU.out.2.2; have := (HR5.out.1.gd x HXM.out).sz; omega⟩
            clear hr hb8 hg hat HR5 HTU hHeld
            go_upto_region 11 with fail
            refine S.region_calm ?_
            refine PrintLast.start_ (n := 11) (S := fun w' => Rh W w' v1 (.slice (some adl) xs.length cl) xs (k : Int) p' u y b10) (ds := [9]) #[false, false, false, false, false, false, false, false, false, false, false] (by kernel_rfl) rfl rfl (HRH.out.below (below_drew (Below.refl _ _))) (fun hHeld => ?_)
            clear HRH
            generalize w8.drew = w9 at *
            refine PrintLast.pure_ (i := 0) (N := some 45) (v := ?_) (a' := ?_) #[true, false, false, false, false, false, false, false, false, false, false] rfl rfl (by kernel_rfl) (fun _ _ _ h => h) (Or.inl ⟨by rfl, ?_⟩) ?_ ?_
            rotate_left
            · intro w'
              go_simp
              with_reducible rfl
            rotate_left
            · simp only [Act.put, List.setIfInBounds_toArray, List.set_cons_zero, List.set_cons_succ]
              rfl
            refine PrintLast.pure_ (i := 1) (N := some 46) (v := ?_) (a' := ?_) #[true, true, false, false, false, false, false, false, false, false, false] rfl rfl (by kernel_rfl) (fun _ _ _ h => h) (Or.inl ⟨by rfl, ?_⟩) ?_ ?_
            rotate_left
            · intro w'
              go_simp
              with_reducible rfl
            rotate_left
            · simp only [Act.put, List.setIfInBounds_toArray, List.set_cons_zero, List.set_cons_succ]
              rfl
            refine PrintLast.pure_ (i := 2) (N := some 47) (v := ?_) (a' := ?_) #[true, true, true, false, false, false, false, false, false, false, false] rfl rfl (by kernel_rfl) (fun _ _ _ h => h) (Or.inl ⟨by rfl, ?_⟩) ?_ ?_
            rotate_left
            · intro w'
              go_simp
              with_reducible rfl
            rotate_left
            · simp only [Act.put, List.setIfInBounds_toArray, List.set_cons_zero, List.set_cons_succ]
              rfl
            refine PrintLast.pure_ (i := 3) (N := some 48) (v := ?_) (a' := ?_) #[true, true, true, true, false, false, false, false, false, false, false] rfl rfl (by kernel_rfl) (fun _ _ _ h => h) (Or.inl ⟨by rfl, ?_⟩) ?_ ?_
            rotate_left
            · intro w'
              go_simp
              with_reducible rfl
            rotate_left
            · simp only [Act.put, List.setIfInBounds_toArray, List.set_cons_zero, List.set_cons_succ]
              rfl
            refine PrintLast.take_ (i := 4) (N := some 49) (v := .slice x.A x.L.length x.c) (a' := ?_) #[true, true, true, true, true, false, false, false, false, false, false] rfl rfl (by kernel_rfl) (fun _ _ _ h => h) (Or.inl ⟨by rfl, ?_⟩) hHeld ?_ ?_
            · intro w' hS
              have hc2 := HAL.out _ hS.1.rl
              go_simp
            rotate_left
            · simp only [Act.put, List.setIfInBounds_toArray, List.set_cons_zero, List.set_cons_succ]
              rfl
            refine PrintLast.pure_ (i := 5) (N := some 50) (v := ?_) (a' := ?_) #[true, true, true, true, true, true, false, false, false, false, false] rfl rfl (by kernel_rfl) (fun _ _ _ h => h) (Or.inl ⟨by rfl, ?_⟩) ?_ ?_
            rotate_left
            · intro w'
              go_simp
              with_reducible rfl
            rotate_left
            · simp only [Act.put, List.setIfInBounds_toArray, List.set_cons_zero, List.set_cons_succ]
              rfl
            refine PrintLast.take_ (i := 6) (N := some 51) (v := .int .i64 y.f1) (a' := ?_) #[true, true, true, true, true, true, true, false, false, false, false] rfl rfl (by kernel_rfl) (fun _ _ _ h => h) (Or.inl ⟨by rfl, ?_⟩) hHeld ?_ ?_
            · intro w' hS
              have hc2 := (bx hS.2).2.1
              go_simp
            rotate_left
            · simp only [Act.put, List.setIfInBounds_toArray, List.set_cons_zero, List.set_cons_succ]
              rfl
            refine PrintLast.one_ (i := 7) (N := some 52) #[true, true, true, true, true, true, true, true, false, false, false] rfl rfl (by kernel_rfl) (by decide) (fun K hK => ?_)
            refine PrintLast.goes_ Try.func19 (by kernel_rfl) rfl #[.slice x.A x.L.length x.c, .int .i64 y.f1] (by rfl) rfl rfl (by first | rfl | (simp only [List.map_toArray, List.map_cons, List.map_nil]; rfl)) ?_
            refine (drop_o y.f1 (hHeld.1.gd x HXM.out).rd hHeld.1.bel.size HLX.out).mono ?_
            rintro e w5 ⟨A2, c2, rfl, ho, hb⟩
            refine ⟨_, rfl, ?_⟩
            have HTL := Aside0.mk ho
            clear ho
            refine hK.out _ _ (hHeld.below hb) (fun hHeld => ?_)
            clear hK K
            refine PrintLast.norm_ (a' := ?_) ?_ ?_
            rotate_left
            · show Act.put _ (some 52) _ = _
              simp only [Act.put, List.setIfInBounds_toArray, List.set_cons_zero, List.set_cons_succ]
              rfl
            have HR5 := Aside0.mk hHeld
            refine PrintLast.one_ (i := 8) (N := some 53) #[true, true, true, true, true, true, true, true, true, false, false] rfl rfl (by kernel_rfl) (by decide) (fun K hK => ?_)
            refine PrintLast.value_ (v := .slice (some ⟨w5.heap.size, 0, none⟩) 1 1) (w1 := w5.alloc (.cells #[.slice A2 (dropL y.f1 x.L).length c2] 38)) (by rfl) rfl ?_ ?_
            · go_simp
            refine hK.out _ _ (hHeld.below ((Below.refl w5.heap.size w5).alloc (Nat.le_refl _) _)) (fun hHeld => ?_)
            clear hK K
            refine PrintLast.norm_ (a' := ?_) ?_ ?_
            rotate_left
            · simp only [Act.put, List.setIfInBounds_toArray, List.set_cons_zero, List.set_cons_succ]
              rfl
            refine PrintLast.last_ (i := 9) (N := some 54) #[true, true, true, true, true, true, true, true, true, true, false] rfl rfl (by kernel_rfl) (by decide) (fun K hK => ?_)
            refine Kd.R_append_step kl (w0 := W) W.heap.size (by rfl) (.tmp 45) (.tmp 53) 52 38 (.slice none 0 0) 24 rfl Try.underlying52 info38 rfl (by decide) (by decide) (.slice (some adl) xs.length cl) (xs.map En.v) (A2, (dropL y.f1 x.L).length, c2) [.slice A2 (dropL y.f1 x.L).length c2] (fun _ => True) (fun _ => False) rfl rfl rfl (fun _ hk => hk.elim) (fun _ _ => trivial) HR5.out.1.rl HR5.out.1.bel HR5.out.1.bel.size (by rw [List.length_map]; have := HXL.out; omega) (fun v2 w10 hr hb8 hg hat => ?_)
            refine hK.out _ _ ?_
            clear hK K
            refine PrintLast.norm_ (a' := ?_) ?_ ?_
            rotate_left
            · show Act.put _ (some 54) _ = _
              simp only [Act.put, List.setIfInBounds_toArray, List.set_cons_zero, List.set_cons_succ]
              rfl
            refine PrintLast.pure_ (i := 10) (N := some 4) (v := ?_) (a' := ?_) #[true, true, true, true, true, true, true, true, true, true, true] rfl rfl (by kernel_rfl) (fun _ _ _ h => h) (Or.inl ⟨by rfl, ?_⟩) ?_ ?_
            rotate_left
            · intro w'
              go_simp
              with_reducible rfl
            rotate_left
            · simp only [Act.put, List.setIfInBounds_toArray, List.set_cons_zero, List.set_cons_succ]
              rfl
            refine PrintLast.done_ (by kernel_rfl) ?_
            simp only [S.Calm]
            have HKS : Aside0 (Ks W w10 v1 v2 (xs ++ [⟨p', u, A2, c2, dropL y.f1 x.L⟩]) ((k + 1 : Nat) : Int)) := ⟨by
              have := HR5.out.1.whole HTL.out ((HR5.out.1.gd x HXM.out).pr.drop HUV.out.1) HUV.out.2 hr hb8 hg hg.size
              rwa [show ((k + 1 : Nat) : Int) = (k : Int) + 1 by omega]⟩
            clear hr hb8 hg hat HR5 HTL HUV hHeld
            go_wp2_with fail
            go_roundw
            case rel => exact ⟨k + 1, xs ++ [⟨p', u, A2, c2, dropL y.f1 x.L⟩], by go_num, by rw [List.length_append, HXL.out]; rfl, HLT.out, HKS⟩
            case measure => simp [intOf]; omega
          | false =>
            rw [hf0] at x0
            clear hf0
            go_upto_region 12 with fail
            clear x0 x1 x2
            refine S.region_calm ?_
            refine PrintLast.start_ (n := 13) (S := fun w' => Ro W w' (.slice (some ada) xs.length ca) (.slice (some adl) xs.length cl) xs (k : Int) y b10) (ds := [11]) #[false, false, false, false, false, false, false, false, false, false, false, false, false] (by kernel_rfl) rfl rfl (HRO.out.below (below_drew (Below.refl _ _))) (fun hHeld => ?_)
            clear HRO
            generalize w3.drew = w4 at *
            refine PrintLast.pure_ (i := 0) (N := some 55) (v := ?_) (a' := ?_) #[true, false, false, false, false, false, false, false, false, false, false, false, false] rfl rfl (by kernel_rfl) (fun _ _ _ h => h) (Or.inl ⟨by rfl, ?_⟩) ?_ ?_
            rotate_left
            · intro w'
              go_simp
              with_reducible rfl
            rotate_left
            · simp only [Act.put, List.setIfInBounds_toArray, List.set_cons_zero, List.set_cons_succ]
              rfl
            refine PrintLast.pure_ (i := 1) (N := some 56) (v := ?_) (a' := ?_) #[true, true, false, false, false, false, false, false, false, false, false, false, false] rfl rfl (by kernel_rfl) (fun _ _ _ h => h) (Or.inl ⟨by rfl, ?_⟩) ?_ ?_
            rotate_left
            · intro w'
              go_simp
              with_reducible rfl
            rotate_left
            · simp only [Act.put, List.setIfInBounds_toArray, List.set_cons_zero, List.set_cons_succ]
              rfl
            refine PrintLast.pure_ (i := 2) (N := some 57) (v := ?_) (a' := ?_) #[true, true, true, false, false, false, false, false, false, false, false, false, false] rfl rfl (by kernel_rfl) (fun _ _ _ h => h) (Or.inl ⟨by rfl, ?_⟩) ?_ ?_
            rotate_left
            · intro w'
              go_simp
              with_reducible rfl
            rotate_left
            · simp only [Act.put, List.setIfInBounds_toArray, List.set_cons_zero, List.set_cons_succ]
              rfl
            refine PrintLast.pure_ (i := 3) (N := some 58) (v := ?_) (a' := ?_) #[true, true, true, true, false, false, false, false, false, false, false, false, false] rfl rfl (by kernel_rfl) (fun _ _ _ h => h) (Or.inl ⟨by rfl, ?_⟩) ?_ ?_
            rotate_left
            · intro w'
              go_simp
              with_reducible rfl
            rotate_left
            · simp only [Act.put, List.setIfInBounds_toArray, List.set_cons_zero, List.set_cons_succ]
              rfl
            refine PrintLast.take_ (i := 4) (N := some 59) (v := .pointer (some ⟨x.p, 0, none⟩)) (a' := ?_) #[true, true, true, true, true, false, false, false, false, false, false, false, false] rfl rfl (by kernel_rfl) (fun _ _ _ h => h) (Or.inl ⟨by rfl, ?_⟩) hHeld ?_ ?_
            · intro w' hS
              have hc2 := HAP.out _ hS.1
              go_simp
            rotate_left
            · simp only [Act.put, List.setIfInBounds_toArray, List.set_cons_zero, List.set_cons_succ]
              rfl
            refine PrintLast.pure_ (i := 5) (N := some 60) (v := ?_) (a' := ?_) #[true, true, true, true, true, true, false, false, false, false, false, false, false] rfl rfl (by kernel_rfl) (fun _ _ _ h => h) (Or.inl ⟨by rfl, ?_⟩) ?_ ?_
            rotate_left
            · intro w'
              go_simp
              with_reducible rfl
            rotate_left
            · simp only [Act.put, List.setIfInBounds_toArray, List.set_cons_zero, List.set_cons_succ]
              rfl
            refine PrintLast.take_ (i := 6) (N := some 61) (v := .int .i64 y.f1) (a' := ?_) #[true, true, true, true, true, true, true, false, false, false, false, false, false] rfl rfl (by kernel_rfl) (fun _ _ _ h => h) (Or.inl ⟨by rfl, ?_⟩) hHeld ?_ ?_
            · intro w' hS
              have hc2 := (bx hS.2).2.1
              go_simp
            rotate_left
            · simp only [Act.put, List.setIfInBounds_toArray, List.set_cons_zero, List.set_cons_succ]
              rfl
            refine PrintLast.pure_ (i := 7) (N := some 62) (v := ?_) (a' := ?_) #[true, true, true, true, true, true, true, true, false, false, false, false, false] rfl rfl (by kernel_rfl) (fun _ _ _ h => h) (Or.inl ⟨by rfl, ?_⟩) ?_ ?_
            rotate_left
            · intro w'
              go_simp
              with_reducible rfl
            rotate_left
            · simp only [Act.put, List.setIfInBounds_toArray, List.set_cons_zero, List.set_cons_succ]
              rfl
            refine PrintLast.take_ (i := 8) (N := some 63) (v := .string y.f2) (a' := ?_) #[true, true, true, true, true, true, true, true, true, false, false, false, false] rfl rfl (by kernel_rfl) (fun _ _ _ h => h) (Or.inl ⟨by rfl, ?_⟩) hHeld ?_ ?_
            · intro w' hS
              have hc2 := (bx hS.2).2.2
              go_simp
            rotate_left
            · simp only [Act.put, List.setIfInBounds_toArray, List.set_cons_zero, List.set_cons_succ]
              rfl
            refine PrintLast.one_ (i := 9) (N := some 64) #[true, true, true, true, true, true, true, true, true, true, false, false, false] rfl rfl (by kernel_rfl) (by decide) (fun K hK => ?_)
            refine PrintLast.goes_ Try.func20 (by kernel_rfl) rfl #[.pointer (some ⟨x.p, 0, none⟩), .int .i64 y.f1, .string y.f2] (by rfl) rfl rfl (by first | rfl | (simp only [List.map_toArray, List.map_cons, List.map_nil]; rfl)) ?_
            refine (S.put_k (hHeld.1.gd x HXM.out).tr HTX.out y.f1 y.f2).mono ?_
            rintro e w5 ⟨p', u, rfl, ht, hv, hsz, hb⟩
            refine ⟨_, rfl, ?_⟩
            have HTU := Aside0.mk (And.intro ht (And.intro hv hsz))
            clear ht hv hsz
            refine hK.out _ _ (hHeld.below hb) (fun hHeld => ?_)
            clear hK K
            refine PrintLast.norm_ (a' := ?_) ?_ ?_
            rotate_left
            · show Act.put _ (some 64) _ = _
              simp only [Act.put, List.setIfInBounds_toArray, List.set_cons_zero, List.set_cons_succ]
              rfl
            have HR5 := Aside0.mk hHeld
            refine PrintLast.one_ (i := 10) (N := some 65) #[true, true, true, true, true, true, true, true, true, true, true, false, false] rfl rfl (by kernel_rfl) (by decide) (fun K hK => ?_)
            refine PrintLast.value_ (v := .slice (some ⟨w5.heap.size, 0, none⟩) 1 1) (w1 := w5.alloc (.cells #[.pointer (some ⟨p', 0, none⟩)] 36)) (by rfl) rfl ?_ ?_
            · go_simp
            refine hK.out _ _ (hHeld.below ((Below.refl w5.heap.size w5).alloc (Nat.le_refl _) _)) (fun hHeld => ?_)
            clear hK K
            refine PrintLast.norm_ (a' := ?_) ?_ ?_
            rotate_left
            · simp only [Act.put, List.setIfInBounds_toArray, List.set_cons_zero, List.set_cons_succ]
              rfl
            refine PrintLast.last_ (i := 11) (N := some 66) #[true, true, true, true, true, true, true, true, true, true, true, true, false] rfl rfl (by kernel_rfl) (by decide) (fun K hK => ?_)
            refine Kd.R_append_step kp (w0 := W) W.heap.size (by rfl) (.tmp 55) (.tmp 65) 51 36 (.pointer none) 8 rfl Try.underlying51 info36 rfl (by decide) (by decide) (.slice (some ada) xs.length ca) (xs.map En.p) p' [.pointer (some ⟨p', 0, none⟩)] (fun _ => True) (fun _ => False) rfl rfl rfl (fun _ hk => hk.elim) (fun _ _ => trivial) HR5.out.1.ra HR5.out.1.bel HR5.out.1.bel.size (by rw [List.length_map]; have := HXL.out; omega) (fun v1 w8 hr hb8 hg hat => ?_)
            refine hK.out _ _ ?_
            clear hK K
            refine PrintLast.norm_ (a' := ?_) ?_ ?_
            rotate_left
            · show Act.put _ (some 66) _ = _
              simp only [Act.put, List.setIfInBounds_toArray, List.set_cons_zero, List.set_cons_succ]
              rfl
            refine PrintLast.pure_ (i := 12) (N := some 3) (v := ?_) (a' := ?_) #[true, true, true, true, true, true, true, true, true, true, true, true, true] rfl rfl (by kernel_rfl) (fun _ _ _ h => h) (Or.inl ⟨by rfl, ?_⟩) ?_ ?_
            rotate_left
            · intro w'
              go_simp
              with_reducible rfl
            rotate_left
            · simp only [Act.put, List.setIfInBounds_toArray, List.set_cons_zero, List.set_cons_succ]
              rfl
            refine PrintLast.done_ (by kernel_rfl) ?_
            simp only [S.Calm]
            have HRH : Aside0 (Rh W w8 v1 (.slice (some adl) xs.length cl) xs (k : Int) p' u y b10) := ⟨HR5.out.1.half HTU.out.1 hr hb8 hg hg.size, Stays.of_grown hg (fun k e => by obtain ⟨c, hc⟩ := row_typed HR5.out.1.ra k e; exact ⟨c, 36, hc, .inl rfl⟩) _ _ _ HR5.out.2 (by decide) (by decide)⟩
            have HUV : Aside0 ((∀ m, m < 1048576 → u.val m = (fun m : Nat => if (m : Int) = y.f1 then some y.f2 else x.t.val m) m) ∧ u.size ≤ (k : Int) + 1) := ⟨HTU.out.2.1, by have := HTU.out.2.2; have := (HR5.out.1.gd x HXM.out).sz; omega⟩
            clear hr hb8 hg hat HR5 HTU hHeld
            go_upto_region 13 with fail
            refine S.region_calm ?_
            refine PrintLast.start_ (n := 13) (S := fun w' => Rh W w' v1 (.slice (some adl) xs.length cl) xs (k : Int) p' u y b10) (ds := [11]) #[false, false, false, false, false, false, false, false, false, false, false, false, false] (by kernel_rfl) rfl rfl (HRH.out.below (below_drew (Below.refl _ _))) (fun hHeld => ?_)
            clear HRH
            generalize w8.drew = w9 at *
            refine PrintLast.pure_ (i := 0) (N := some 67) (v := ?_) (a' := ?_) #[true, false, false, false, false, false, false, false, false, false, false, false, false] rfl rfl (by kernel_rfl) (fun _ _ _ h => h) (Or.inl ⟨by rfl, ?_⟩) ?_ ?_
            rotate_left
            · intro w'
              go_simp
              with_reducible rfl
            rotate_left
            · simp only [Act.put, List.setIfInBounds_toArray, List.set_cons_zero, List.set_cons_succ]
              rfl
            refine PrintLast.pure_ (i := 1) (N := some 68) (v := ?_) (a' := ?_) #[true, true, false, false, false, false, false, false, false, false, false, false, false] rfl rfl (by kernel_rfl) (fun _ _ _ h => h) (Or.inl ⟨by rfl, ?_⟩) ?_ ?_
            rotate_left
            · intro w'
              go_simp
              with_reducible rfl
            rotate_left
            · simp only [Act.put, List.setIfInBounds_toArray, List.set_cons_zero, List.set_cons_succ]
              rfl
            refine PrintLast.pure_ (i := 2) (N := some 69) (v := ?_) (a' := ?_) #[true, true, true, false, false, false, false, false, false, false, false, false, false] rfl rfl (by kernel_rfl) (fun _ _ _ h => h) (Or.inl ⟨by rfl, ?_⟩) ?_ ?_
            rotate_left
            · intro w'
              go_simp
              with_reducible rfl
            rotate_left
            · simp only [Act.put, List.setIfInBounds_toArray, List.set_cons_zero, List.set_cons_succ]
              rfl
            refine PrintLast.pure_ (i := 3) (N := some 70) (v := ?_) (a' := ?_) #[true, true, true, true, false, false, false, false, false, false, false, false, false] rfl rfl (by kernel_rfl) (fun _ _ _ h => h) (Or.inl ⟨by rfl, ?_⟩) ?_ ?_
            rotate_left
            · intro w'
              go_simp
              with_reducible rfl
            rotate_left
            · simp only [Act.put, List.setIfInBounds_toArray, List.set_cons_zero, List.set_cons_succ]
              rfl
            refine PrintLast.take_ (i := 4) (N := some 71) (v := .slice x.A x.L.length x.c) (a' := ?_) #[true, true, true, true, true, false, false, false, false, false, false, false, false] rfl rfl (by kernel_rfl) (fun _ _ _ h => h) (Or.inl ⟨by rfl, ?_⟩) hHeld ?_ ?_
            · intro w' hS
              have hc2 := HAL.out _ hS.1.rl
              go_simp
            rotate_left
            · simp only [Act.put, List.setIfInBounds_toArray, List.set_cons_zero, List.set_cons_succ]
              rfl
            refine PrintLast.pure_ (i := 5) (N := some 72) (v := ?_) (a' := ?_) #[true, true, true, true, true, true, false, false, false, false, false, false, false] rfl rfl (by kernel_rfl) (fun _ _ _ h => h) (Or.inl ⟨by rfl, ?_⟩) ?_ ?_
            rotate_left
            · intro w'
              go_simp
              with_reducible rfl
            rotate_left
            · simp only [Act.put, List.setIfInBounds_toArray, List.set_cons_zero, List.set_cons_succ]
              rfl
            refine PrintLast.take_ (i := 6) (N := some 73) (v := .int .i64 y.f1) (a' := ?_) #[true, true, true, true, true, true, true, false, false, false, false, false, false] rfl rfl (by kernel_rfl) (fun _ _ _ h => h) (Or.inl ⟨by rfl, ?_⟩) hHeld ?_ ?_
            · intro w' hS
              have hc2 := (bx hS.2).2.1
              go_simp
            rotate_left
            · simp only [Act.put, List.setIfInBounds_toArray, List.set_cons_zero, List.set_cons_succ]
              rfl
            refine PrintLast.pure_ (i := 7) (N := some 74) (v := ?_) (a' := ?_) #[true, true, true, true, true, true, true, true, false, false, false, false, false] rfl rfl (by kernel_rfl) (fun _ _ _ h => h) (Or.inl ⟨by rfl, ?_⟩) ?_ ?_
            rotate_left
            · intro w'
              go_simp
              with_reducible rfl
            rotate_left
            · simp only [Act.put, List.setIfInBounds_toArray, List.set_cons_zero, List.set_cons_succ]
              rfl
            refine PrintLast.take_ (i := 8) (N := some 75) (v := .string y.f2) (a' := ?_) #[true, true, true, true, true, true, true, true, true, false, false, false, false] rfl rfl (by kernel_rfl) (fun _ _ _ h => h) (Or.inl ⟨by rfl, ?_⟩) hHeld ?_ ?_
            · intro w' hS
              have hc2 := (bx hS.2).2.2
              go_simp
            rotate_left
            · simp only [Act.put, List.setIfInBounds_toArray, List.set_cons_zero, List.set_cons_succ]
              rfl
            refine PrintLast.one_ (i := 9) (N := some 76) #[true, true, true, true, true, true, true, true, true, true, false, false, false] rfl rfl (by kernel_rfl) (by decide) (fun K hK => ?_)
            refine PrintLast.goes_ Try.func21 (by kernel_rfl) rfl #[.slice x.A x.L.length x.c, .int .i64 y.f1, .string y.f2] (by rfl) rfl rfl (by first | rfl | (simp only [List.map_toArray, List.map_cons, List.map_nil]; rfl)) ?_
            refine (put_o y.f1 y.f2 (hHeld.1.gd x HXM.out).rd hHeld.1.bel.size HLX.out).mono ?_
            rintro e w5 ⟨A2, c2, rfl, ho, hb⟩
            refine ⟨_, rfl, ?_⟩
            have HTL := Aside0.mk ho
            clear ho
            refine hK.out _ _ (hHeld.below hb) (fun hHeld => ?_)
            clear hK K
            refine PrintLast.norm_ (a' := ?_) ?_ ?_
            rotate_left
            · show Act.put _ (some 76) _ = _
              simp only [Act.put, List.setIfInBounds_toArray, List.set_cons_zero, List.set_cons_succ]
              rfl
            have HR5 := Aside0.mk hHeld
            refine PrintLast.one_ (i := 10) (N := some 77) #[true, true, true, true, true, true, true, true, true, true, true, false, false] rfl rfl (by kernel_rfl) (by decide) (fun K hK => ?_)
            refine PrintLast.value_ (v := .slice (some ⟨w5.heap.size, 0, none⟩) 1 1) (w1 := w5.alloc (.cells #[.slice A2 (putL y.f1 y.f2 x.L).length c2] 38)) (by rfl) rfl ?_ ?_
            · go_simp
            refine hK.out _ _ (hHeld.below ((Below.refl w5.heap.size w5).alloc (Nat.le_refl _) _)) (fun hHeld => ?_)
            clear hK K
            refine PrintLast.norm_ (a' := ?_) ?_ ?_
            rotate_left
            · simp only [Act.put, List.setIfInBounds_toArray, List.set_cons_zero, List.set_cons_succ]
              rfl
            refine PrintLast.last_ (i := 11) (N := some 78) #[true, true, true, true, true, true, true, true, true, true, true, true, false] rfl rfl (by kernel_rfl) (by decide) (fun K hK => ?_)
            refine Kd.R_append_step kl (w0 := W) W.heap.size (by rfl) (.tmp 67) (.tmp 77) 52 38 (.slice none 0 0) 24 rfl Try.underlying52 info38 rfl (by decide) (by decide) (.slice (some adl) xs.length cl) (xs.map En.v) (A2, (putL y.f1 y.f2 x.L).length, c2) [.slice A2 (putL y.f1 y.f2 x.L).length c2] (fun _ => True) (fun _ => False) rfl rfl rfl (fun _ hk => hk.elim) (fun _ _ => trivial) HR5.out.1.rl HR5.out.1.bel HR5.out.1.bel.size (by rw [List.length_map]; have := HXL.out; omega) (fun v2 w10 hr hb8 hg hat => ?_)
            refine hK.out _ _ ?_
            clear hK K
            refine PrintLast.norm_ (a' := ?_) ?_ ?_
            rotate_left
            · show Act.put _ (some 78) _ = _
              simp only [Act.put, List.setIfInBounds_toArray, List.set_cons_zero, List.set_cons_succ]
              rfl
            refine PrintLast.pure_ (i := 12) (N := some 4) (v := ?_) (a' := ?_) #[true, true, true, true, true, true, true, true, true, true, true, true, true] rfl rfl (by kernel_rfl) (fun _ _ _ h => h) (Or.inl ⟨by rfl, ?_⟩) ?_ ?_
            rotate_left
            · intro w'
              go_simp
              with_reducible rfl
            rotate_left
            · simp only [Act.put, List.setIfInBounds_toArray, List.set_cons_zero, List.set_cons_succ]
              rfl
            refine PrintLast.done_ (by kernel_rfl) ?_
            simp only [S.Calm]
            have HKS : Aside0 (Ks W w10 v1 v2 (xs ++ [⟨p', u, A2, c2, putL y.f1 y.f2 x.L⟩]) ((k + 1 : Nat) : Int)) := ⟨by
              have := HR5.out.1.whole HTL.out ((HR5.out.1.gd x HXM.out).pr.put HUV.out.1) HUV.out.2 hr hb8 hg hg.size
              rwa [show ((k + 1 : Nat) : Int) = (k : Int) + 1 by omega]⟩
            clear hr hb8 hg hat HR5 HTL HUV hHeld
            go_wp2_with fail
            go_roundw
            case rel => exact ⟨k + 1, xs ++ [⟨p', u, A2, c2, putL y.f1 y.f2 x.L⟩], by go_num, by rw [List.length_append, HXL.out]; rfl, HLT.out, HKS⟩
            case measure => simp [intOf]; omega
        · have hkl : k = l.length := by omega
          subst hkl
          have gx : (xs.length : Int) ≤ 1000 := by have := HN.out; omega
          clear hk
          have HSZ : Aside0 (∀ x ∈ xs, x.t.size ≤ 1000000) := ⟨fun x hx => by have := (HKS.out.gd x hx).sz; have := HN.out; omega⟩
          generalize ((l.length : Nat) : Int) = m at HKS
          go_wp2_with fail
          go_loopw [82] (fun i wr2 => ∃ j : Nat, i = .int .i64 j ∧ j ≤ xs.length ∧ Aside0 (Ks W wr2 (.slice (some ada) xs.length ca) (.slice (some adl) xs.length cl) xs m)) (fun i _ => xs.length - (intOf i).toNat)
          case atStart => exact ⟨0, rfl, Nat.zero_le _, HKS⟩
          case round =>
            clear HKS
            obtain ⟨q, rfl, hj, HKS⟩ := hrel
            by_cases hlt : q < xs.length
            · have g1 : (q : Int) < (xs.length : Int) := by omega
              have HLT := Aside0.mk hlt
              obtain ⟨x, hx⟩ : ∃ x, xs[q] = x := ⟨_, rfl⟩
              have HXM : Aside0 (x ∈ xs) := ⟨by rw [← hx]; exact List.getElem_mem hlt⟩
              have HTX : Aside0 (x.t.size ≤ 1000000) := ⟨HSZ.out x HXM.out⟩
              have HAP : Aside0 (∀ w', Ks W w' (.slice (some ada) xs.length ca) (.slice (some adl) xs.length cl) xs m → w'.cell? (ada.add q) = some (.pointer (some ⟨x.p, 0, none⟩))) := ⟨fun w' h => by
                obtain ⟨ad2, c2, he, hc⟩ := h.at_p hlt
                injection he with h1
                injection h1 with h1
                subst h1
                rw [hc, hx]⟩
              have HAL : Aside0 (∀ w', kl.R 38 w' W.heap.size (fun _ => True) (.slice (some adl) xs.length cl) (xs.map En.v) → w'.cell? (adl.add q) = some (.slice x.A x.L.length x.c)) := ⟨fun w' h => by
                obtain ⟨ad2, c2, he, hc⟩ := at_l h hlt
                injection he with h1
                injection h1 with h1
                subst h1
                rw [hc, hx]⟩
              clear hx hlt hj
              go_upto_region 18 with fail
              refine S.region_calm ?_
              refine PrintLast.start_ (n := 17) (S := fun w' => Ks W w' (.slice (some ada) xs.length ca) (.slice (some adl) xs.length cl) xs m) (ds := []) #[false, false, false, false, false, false, false, false, false, false, false, false, false, false, false, false, false] (by kernel_rfl) rfl rfl (HKS.out.below (below_drew (Below.refl _ _))) (fun hHeld => ?_)
              clear HKS
              generalize wr.drew = w4 at *
              refine PrintLast.pure_ (i := 0) (N := some 85) (v := ?_) (a' := ?_) #[true, false, false, false, false, false, false, false, false, false, false, false, false, false, false, false, false] rfl rfl (by kernel_rfl) (fun _ _ _ h => h) (Or.inl ⟨by rfl, ?_⟩) ?_ ?_
              rotate_left
              · intro w'
                go_simp
                with_reducible rfl
              rotate_left
              · simp only [Act.put, List.setIfInBounds_toArray, List.set_cons_zero, List.set_cons_succ]
                rfl
              refine PrintLast.pure_ (i := 1) (N := some 86) (v := ?_) (a' := ?_) #[true, true, false, false, false, false, false, false, false, false, false, false, false, false, false, false, false] rfl rfl (by kernel_rfl) (fun _ _ _ h => h) (Or.inl ⟨by rfl, ?_⟩) ?_ ?_
              rotate_left
              · intro w'
                go_simp
                with_reducible rfl
              rotate_left
              · simp only [Act.put, List.setIfInBounds_toArray, List.set_cons_zero, List.set_cons_succ]
                rfl
              refine PrintLast.pure_ (i := 2) (N := some 87) (v := ?_) (a' := ?_) #[true, true, true, false, false, false, false, false, false, false, false, false, false, false, false, false, false] rfl rfl (by kernel_rfl) (fun _ _ _ h => h) (Or.inl ⟨by rfl, ?_⟩) ?_ ?_
              rotate_left
              · intro w'
                go_simp
                with_reducible rfl
              rotate_left
              · simp only [Act.put, List.setIfInBounds_toArray, List.set_cons_zero, List.set_cons_succ]
                rfl
              refine PrintLast.take_ (i := 3) (N := some 88) (v := .pointer (some ⟨x.p, 0, none⟩)) (a' := ?_) #[true, true, true, true, false, false, false, false, false, false, false, false, false, false, false, false, false] rfl rfl (by kernel_rfl) (fun _ _ _ h => h) (Or.inl ⟨by rfl, ?_⟩) hHeld ?_ ?_
              · intro w' hS
                have hc2 := HAP.out _ hS
                go_simp
              rotate_left
              · simp only [Act.put, List.setIfInBounds_toArray, List.set_cons_zero, List.set_cons_succ]
                rfl
              refine PrintLast.pure_ (i := 4) (N := some 89) (v := ?_) (a' := ?_) #[true, true, true, true, true, false, false, false, false, false, false, false, false, false, false, false, false] rfl rfl (by kernel_rfl) (fun _ _ _ h => h) (Or.inl ⟨by rfl, ?_⟩) ?_ ?_
              rotate_left
              · intro w'
                go_simp
                with_reducible rfl
              rotate_left
              · simp only [Act.put, List.setIfInBounds_toArray, List.set_cons_zero, List.set_cons_succ]
                rfl
              refine PrintLast.pure_ (i := 5) (N := some 90) (v := ?_) (a' := ?_) #[true, true, true, true, true, true, false, false, false, false, false, false, false, false, false, false, false] rfl rfl (by kernel_rfl) (fun _ _ _ h => h) (Or.inl ⟨by rfl, ?_⟩) ?_ ?_
              rotate_left
              · intro w'
                go_simp
                with_reducible rfl
              rotate_left
              · simp only [Act.put, List.setIfInBounds_toArray, List.set_cons_zero, List.set_cons_succ]
                rfl
              refine PrintLast.pure_ (i := 6) (N := some 91) (v := ?_) (a' := ?_) #[true, true, true, true, true, true, true, false, false, false, false, false, false, false, false, false, false] rfl rfl (by kernel_rfl) (fun _ _ _ h => h) (Or.inl ⟨by rfl, ?_⟩) ?_ ?_
              rotate_left
              · intro w'
                go_simp
                with_reducible rfl
              rotate_left
              · simp only [Act.put, List.setIfInBounds_toArray, List.set_cons_zero, List.set_cons_succ]
                rfl
              refine PrintLast.pure_ (i := 7) (N := some 92) (v := ?_) (a' := ?_) #[true, true, true, true, true, true, true, true, false, false, false, false, false, false, false, false, false] rfl rfl (by kernel_rfl) (fun _ _ _ h => h) (Or.inl ⟨by rfl, ?_⟩) ?_ ?_
              rotate_left
              · intro w'
                go_simp
                with_reducible rfl
              rotate_left
              · simp only [Act.put, List.setIfInBounds_toArray, List.set_cons_zero, List.set_cons_succ]
                rfl
              refine PrintLast.pure_ (i := 8) (N := some 93) (v := ?_) (a' := ?_) #[true, true, true, true, true, true, true, true, true, false, false, false, false, false, false, false, false] rfl rfl (by kernel_rfl) (fun _ _ _ h => h) (Or.inl ⟨by rfl, ?_⟩) ?_ ?_
              rotate_left
              · intro w'
                go_simp
                with_reducible rfl
              rotate_left
              · simp only [Act.put, List.setIfInBounds_toArray, List.set_cons_zero, List.set_cons_succ]
                rfl
              refine PrintLast.take_ (i := 9) (N := some 94) (v := .pointer (some ⟨x.p, 0, none⟩)) (a' := ?_) #[true, true, true, true, true, true, true, true, true, true, false, false, false, false, false, false, false] rfl rfl (by kernel_rfl) (fun _ _ _ h => h) (Or.inl ⟨by rfl, ?_⟩) hHeld ?_ ?_
              · intro w' hS
                have hc2 := HAP.out _ hS
                go_simp
              rotate_left
              · simp only [Act.put, List.setIfInBounds_toArray, List.set_cons_zero, List.set_cons_succ]
                rfl
              refine PrintLast.pure_ (i := 10) (N := some 95) (v := ?_) (a' := ?_) #[true, true, true, true, true, true, true, true, true, true, true, false, false, false, false, false, false] rfl rfl (by kernel_rfl) (fun _ _ _ h => h) (Or.inl ⟨by rfl, ?_⟩) ?_ ?_
              rotate_left
              · intro w'
                go_simp
                with_reducible rfl
              rotate_left
              · simp only [Act.put, List.setIfInBounds_toArray, List.set_cons_zero, List.set_cons_succ]
                rfl
              refine PrintLast.pure_ (i := 11) (N := some 96) (v := ?_) (a' := ?_) #[true, true, true, true, true, true, true, true, true, true, true, true, false, false, false, false, false] rfl rfl (by kernel_rfl) (fun _ _ _ h => h) (Or.inl ⟨by rfl, ?_⟩) ?_ ?_
              rotate_left
              · intro w'
                go_simp
                with_reducible rfl
              rotate_left
              · simp only [Act.put, List.setIfInBounds_toArray, List.set_cons_zero, List.set_cons_succ]
                rfl
              refine PrintLast.pure_ (i := 12) (N := some 97) (v := ?_) (a' := ?_) #[true, true, true, true, true, true, true, true, true, true, true, true, true, false, false, false, false] rfl rfl (by kernel_rfl) (fun _ _ _ h => h) (Or.inl ⟨by rfl, ?_⟩) ?_ ?_
              rotate_left
              · intro w'
                go_simp
                with_reducible rfl
              rotate_left
              · simp only [Act.put, List.setIfInBounds_toArray, List.set_cons_zero, List.set_cons_succ]
                rfl
              refine PrintLast.take_ (i := 13) (N := some 98) (v := .slice x.A x.L.length x.c) (a' := ?_) #[true, true, true, true, true, true, true, true, true, true, true, true, true, true, false, false, false] rfl rfl (by kernel_rfl) (fun _ _ _ h => h) (Or.inl ⟨by rfl, ?_⟩) hHeld ?_ ?_
              · intro w' hS
                have hc2 := HAL.out _ hS.rl
                go_simp
              rotate_left
              · simp only [Act.put, List.setIfInBounds_toArray, List.set_cons_zero, List.set_cons_succ]
                rfl
              refine PrintLast.one_ (i := 14) (N := some 99) #[true, true, true, true, true, true, true, true, true, true, true, true, true, true, true, false, false] rfl rfl (by kernel_rfl) (by decide) (fun K hK => ?_)
              refine PrintLast.goes_ Try.func24 (by kernel_rfl) rfl #[.pointer (some ⟨x.p, 0, none⟩), .slice x.A x.L.length x.c, .int .i64 (-1)] (by rfl) rfl rfl (by first | rfl | (simp only [List.map_toArray, List.map_cons, List.map_nil]; rfl)) ?_
              refine (S.same_c (-1) (hHeld.gd x HXM.out).tr.1 HTX.out (hHeld.gd x HXM.out).pr (rd_c (hHeld.gd x HXM.out).rd).2 (rd_c (hHeld.gd x HXM.out).rd).1).mono ?_
              rintro e w5 ⟨rfl, hb⟩
              refine ⟨_, rfl, ?_⟩
              skip
              refine hK.out _ _ (hHeld.below hb) (fun hHeld => ?_)
              clear hK K
              refine PrintLast.norm_ (a' := ?_) ?_ ?_
              rotate_left
              · show Act.put _ (some 99) _ = _
                simp only [Act.put, List.setIfInBounds_toArray, List.set_cons_zero, List.set_cons_succ]
                rfl
              refine PrintLast.pure_ (i := 15) (N := some 100) (v := ?_) (a' := ?_) #[true, true, true, true, true, true, true, true, true, true, true, true, true, true, true, true, false] rfl rfl (by kernel_rfl) (fun _ _ _ h => h) (Or.inl ⟨by rfl, ?_⟩) ?_ ?_
              rotate_left
              · intro w'
                go_simp
                with_reducible rfl
              rotate_left
              · simp only [Act.put, List.setIfInBounds_toArray, List.set_cons_zero, List.set_cons_succ]
                rfl
              refine PrintLast.pure_ (i := 16) (N := some 101) (v := ?_) (a' := ?_) #[true, true, true, true, true, true, true, true, true, true, true, true, true, true, true, true, true] rfl rfl (by kernel_rfl) (fun _ _ _ h => h) (Or.inl ⟨by rfl, ?_⟩) ?_ ?_
              rotate_left
              · intro w'
                go_simp
                with_reducible rfl
              rotate_left
              · simp only [Act.put, List.setIfInBounds_toArray, List.set_cons_zero, List.set_cons_succ]
                rfl
              refine PrintLast.done_ (by kernel_rfl) ?_
              simp only [S.Calm]
              have HKE := Aside0.mk hHeld
              clear hHeld
              go_wp2_with fail
              go_roundw
              case rel => exact ⟨q + 1, by go_num, HLT.out, HKE⟩
              case measure => have := HLT.out; simp [intOf]; omega
            · have hjl : q = xs.length := by omega
              subst hjl
              have HBE := Aside0.mk HKS.out.bel
              clear HKS hj hlt
              go_wp2_with fail
              refine (lives_c _).mono ?_
              rintro e w2 ⟨rfl, hb⟩
              have HW2 := Aside0.mk (below_step HBE.out hb)
              clear hb
              go_wp2_with fail
              go_ret
              exact ⟨rfl, HW2.out⟩
end Go.Proofs.Ytfehimoiccgahaa
