/-
  (*Table).Used: how many cells are.
-/
import Derived.Test.YtpgdehelamgbnaaPut
namespace Go.Proofs.Ytpgdehelamgbnaa
open Go.RowKit Go.Proofs.YtpgdehelamgbnaaW Go.Proofs.YtpgdehelamgbnaaW.PrintWords PMemoActs
set_option linter.unusedVariables false
set_option linter.unusedSimpArgs false
attribute [local go_sem] Oper.semAt_some
theorem fr_cell {S : Nat → Prop} {w w' : World} {b o : Nat} (h : Fr S w w') (hb : b < w.heap.size) (hs : ¬ S b) : w'.cell? ⟨b, o, none⟩ = w.cell? ⟨b, o, none⟩ := World.cell?_of_block (h.block b hb hs)
set_option maxHeartbeats 2000000 in
/-- The loop function over a table's cells; its rounds may write to the blocks of S. -/
theorem from_stops2 {w : World} {S : Nat → Prop} {F : Nat → Prop} {x : Option Addr} {q Bt Bh h m : Nat} {L : List (Option (Nat × S31))} (hT : Tb w F x q L) (hh : h < L.length ∨ L.length = 0) (hm : 1 ≤ m) (hS : ∀ (k : Nat) (cs : Array Value) (t : TypeId), tbT t = true → w.heap[k]? = some (.cells cs t (0, 0)) → ¬ S k) (hSt : ¬ S Bt) (hSh : ¬ S Bh)
    (ht : w.cell? ⟨Bt, 0, none⟩ = some (.pointer x)) (hc : w.cell? ⟨Bh, 0, none⟩ = some (.int .i64 (h : Int))) :
    SeqStopsK Fence.wide m Try.prog 35 #[.pointer (some ⟨Bt, 0, none⟩), .pointer (some ⟨Bh, 0, none⟩)] (encs2 L) (Fr S) (fun xs => xs = seqv L h) (fun pre => pre <+: seqv L h) L.length w := fun l J Jx W hW _ _ hY h0 => by
  have hl : (L.length : Int) ≤ 65536 := by have := hT.1; omega
  have HT := Aside0.mk hT
  have HC := Aside0.mk (And.intro ht hc)
  have HH := Aside0.mk hh
  have HY := Aside0.mk hY
  have lt : Aside0 (Bt < w.heap.size) := ⟨World.block_lt_of_cell? _ _ ht⟩
  have lh : Aside0 (Bh < w.heap.size) := ⟨World.block_lt_of_cell? _ _ hc⟩
  have cells : Aside0 (∀ W', Fr S w W' → W'.cell? ⟨Bt, 0, none⟩ = some (.pointer x) ∧ W'.cell? ⟨Bh, 0, none⟩ = some (.int .i64 (h : Int))) := ⟨fun W' hb => ⟨(fr_cell hb lt.out hSt).trans HC.out.1, (fr_cell hb lh.out hSh).trans HC.out.2⟩⟩
  have HB := Aside0.mk (Fr.of_below hW S)
  have HSS := Aside0.mk hS
  clear hT ht hc hh hY lt lh HC hW hS hSt hSh
  refine callsIn_of_wp Try.func35 rfl trivial ?_ rfl
  simp only [Try.ntmps35, List.size_toArray, List.length_cons, List.length_nil, Nat.reduceAdd, Nat.reduceSub, Array.replicate_succ, Array.replicate_zero, List.push_toArray, List.append_toArray, List.nil_append, List.cons_append]
  obtain ⟨c0, c1⟩ := cells.out W HB.out
  gi_wp2_with (refine ⟨trivial, ?_⟩; gi_at_call 27; refine (callsIn_wide.2 (size_c (HT.out.step2 (fun k cs t ht hk => HB.out.block k (blk_lt hk) (HSS.out k cs t ht hk))))).mono ?_; rintro e w1 ⟨rfl, rfl⟩)
  clear c0 c1
  have HJ0 := Aside0.mk h0
  clear h0
  gi_loopw [10] (fun v wr => ∃ k : Nat, v = .int .i64 k ∧ k ≤ L.length ∧ Aside0 (J ((seqv L h).take k) wr) ∧ Aside0 (Fr S w wr)) (fun v _ => L.length - (intOf v).toNat)
  case atStart => exact ⟨0, rfl, Nat.zero_le _, HJ0, HB⟩
  case round =>
    obtain ⟨k, rfl, hk, HJ, HBr⟩ := hrel
    by_cases hlt : k < L.length
    · have g1 : (k : Int) < (L.length : Int) := by omega
      have hhl : h < L.length := by rcases HH.out with h1 | h1 <;> omega
      have g2 : (h : Int) ≤ 65536 := by omega
      obtain ⟨c0, c1⟩ := cells.out wr HBr.out
      obtain ⟨j, hj⟩ : ∃ j : Nat, (h + k) % L.length = j := ⟨_, rfl⟩
      have hjl : j < L.length := by rw [← hj]; exact Nat.mod_lt _ (by omega)
      have hji : ((h : Int) + (k : Int)) % (L.length : Int) = (j : Int) := by rw [← hj]; push_cast; rfl
      have hn0 : ¬ L = [] := by rintro rfl; simp at hlt
      have g3 : (j : Int) < (L.length : Int) := by omega
      have HS : Aside0 ((seqv L h).take (k + 1) = (seqv L h).take k ++ [⟨j, hjl⟩]) := ⟨seqv_take L h k hlt ⟨j, hjl⟩ hj⟩
      obtain ⟨u, hu⟩ : ∃ u, L[j] = u := ⟨_, rfl⟩
      have HLk : Aside0 (look L (j : Int) = u) := ⟨by rw [look_nat L j hjl, hu]⟩
      obtain ⟨fn, tmps, assign, body, hy, hR⟩ := HY.out _ ⟨j, hjl⟩ wr HJ.out (by rw [List.length_take, seqv_length]; omega)
      dsimp only [encs2] at hy
      rw [hu] at hy
      have HR := Aside0.mk hR
      have HLt := Aside0.mk hlt
      clear hR hj hlt hu
      gi_wp2_with (refine ⟨trivial, ?_⟩; gi_at_call 32; refine (callsIn_wide.2 (at_c (HT.out.step2 (fun k cs t ht hk => HBr.out.block k (blk_lt hk) (HSS.out k cs t ht hk))) (j : Int))).mono ?_; rintro e w1 ⟨rfl, rfl⟩; rw [HLk.out]; unfold cellv)
      refine HR.out.mono ?_
      rintro e w3 (⟨rfl, hJ3, hb3⟩ | ⟨rfl, hJx3⟩)
      · have HJ3 : Aside0 (J ((seqv L h).take (k + 1)) w3) := ⟨by rw [HS.out]; exact hJ3⟩
        have HB3 : Aside0 (Fr S w w3) := ⟨HBr.out.trans hb3 (fun _ h => Or.inl h)⟩
        clear hJ3 hb3 hy c0 c1
        gi_wp2
        exact ⟨⟨k + 1, by go_num, HLt.out, HJ3, HB3⟩, by have := HLt.out; simp [intOf]; omega⟩
      · have HX3 : Aside0 (Jx ((seqv L h).take (k + 1)) w3) := ⟨by rw [HS.out]; exact hJx3⟩
        clear hJx3 hy c0 c1
        gi_wp2
        refine bodyPost_ret (results_none rfl _ _ _) rfl ?_
        exact ⟨⟨_, rfl⟩, .inr ⟨_, List.take_prefix _ _, HX3.out⟩⟩
    · have hkl : k = L.length := by omega
      subst hkl
      gi_wp2
      go_end0
      refine ⟨⟨_, rfl⟩, .inl ⟨_, rfl, ?_⟩⟩
      have := HJ.out
      rw [List.take_of_length_le (by rw [seqv_length]; exact Nat.le_refl _)] at this
      exact this
/-- How many of these cells are. -/
def cnt (L : List (Option (Nat × S31))) (pre : List (Fin L.length)) : Nat := (pre.filter fun i => (L[i.val]).isSome).length
theorem cnt_snoc (L : List (Option (Nat × S31))) (pre : List (Fin L.length)) (i : Fin L.length) : cnt L (pre ++ [i]) = cnt L pre + if (L[i.val]).isSome = true then 1 else 0 := by
  unfold cnt
  rw [List.filter_append, List.length_append]
  by_cases h : (L[i.val]).isSome = true <;> simp [List.filter_cons, h]
theorem cnt_le (L : List (Option (Nat × S31))) (pre : List (Fin L.length)) : cnt L pre ≤ pre.length := List.length_filter_le ..
def used (T : List (Option S31)) : Nat := (T.filter Option.isSome).length
theorem cnt_all (L : List (Option (Nat × S31))) : cnt L (seqv L 0) = used (absT L) := by
  unfold cnt used
  have h1 : (absT L) = (seqv L 0).map (fun i => (L[i.val]).map Prod.snd) := by
    apply List.ext_getElem
    · simp [absT, seqv]
    · intro k h1 h2
      have hk : k < L.length := by simpa [absT] using h1
      simp [absT, seqv, Nat.mod_eq_of_lt hk]
  rw [h1, List.filter_map, List.length_map]
  congr 1
  apply List.filter_congr
  intro i _
  simp
theorem ownFrom_blk2 {β : Type} (B g : Nat) (cs : β → Array Value) (t : TypeId) : OwnFrom B (fun (s : β) W => W.heap[g]? = some (.cells (cs s) t (0, 0))) := fun _ W W' row hs hg hr => by
  refine (hg.block g (blk_lt hs) (fun e => ?_)).trans hs
  obtain ⟨_, o, ho, hc⟩ := hr g e.symm
  rw [hs] at ho
  cases ho
  cases hc
section
variable {W : World} {F : Nat → Prop} {x : Option Addr} {q : Nat} {L : List (Option (Nat × S31))}
set_option maxHeartbeats 2000000 in
set_option maxRecDepth 100000 in
theorem used_c (h : Tb W F x q L) : Calls Try.prog 14 #[.pointer x] W fun e w' => e = .returned (.int .i64 (used (absT L) : Int)) ∧ Below W.heap.size W w' := by
  have hl : (L.length : Int) ≤ 65536 := by have := h.1; omega
  have H := Aside0.mk h
  clear h
  refine (callsIn_wide (n := 6)).1 ?_
  refine callsIn_of_wp_marks Try.func14 rfl trivial ?_ rfl
  simp only [Try.ntmps14, List.size_toArray, List.length_cons, List.length_nil, Nat.reduceAdd, Nat.reduceSub, Array.replicate_succ, Array.replicate_zero, List.push_toArray, List.append_toArray, List.nil_append, List.cons_append]
  gi_wp2_with (refine ⟨trivial, ?_⟩; gi_at_call 29; refine (callsIn_wide.2 (from_c x _)).mono ?_; rintro e w1 ⟨rfl, rfl⟩)
  have hA := allocs_get [.cells #[.int .i64 0] 3, .cells #[.pointer x] 24, .cells #[.int .i64 0] 3] W
  have hB0 := allocs_below [.cells #[.int .i64 0] 3, .cells #[.pointer x] 24, .cells #[.int .i64 0] 3] W
  obtain ⟨W0, hW0⟩ : ∃ W0, ((W.alloc (.cells #[.int .i64 0] 3)).alloc (.cells #[.pointer x] 24)).alloc (.cells #[.int .i64 0] 3) = W0 := ⟨_, rfl⟩
  change ∀ k, k < 3 → (((W.alloc (.cells #[.int .i64 0] 3)).alloc (.cells #[.pointer x] 24)).alloc (.cells #[.int .i64 0] 3)).heap[W.heap.size + k]? = _ at hA
  change Below W.heap.size W (((W.alloc (.cells #[.int .i64 0] 3)).alloc (.cells #[.pointer x] 24)).alloc (.cells #[.int .i64 0] 3)) at hB0
  rw [hW0] at hA hB0 ⊢
  have b0 : W0.heap[W.heap.size]? = some (.cells #[.int .i64 0] 3 (0, 0)) := hA 0 (by decide)
  have b1 : W0.heap[W.heap.size + 1]? = some (.cells #[.pointer x] 24 (0, 0)) := hA 1 (by decide)
  have b2 : W0.heap[W.heap.size + 2]? = some (.cells #[.int .i64 0] 3 (0, 0)) := hA 2 (by decide)
  have HT0 := Aside0.mk (H.out.below hB0)
  clear hA hW0 H
  refine wpIn_rangeFunc_ownF (F := Fence.wide) (n := 6) rfl (by decide) (gf := 35) (lb := #[.pointer (some ⟨W.heap.size + 1, 0, none⟩), .pointer (some ⟨W.heap.size + 2, 0, none⟩)]) rfl trivial (enters_of Try.func35 (by kernel_rfl) rfl)
    (from_stops2 (S := fun k => k = W.heap.size ∨ W0.heap.size ≤ k) (h := 0) HT0.out (by omega) (by decide) (fun k cs t ht hk hs => by
      rcases hs with e | e
      · subst e
        rw [b0] at hk
        cases hk
        cases ht
      · have := blk_lt hk
        omega) (by have := blk_lt b1; omega) (by have := blk_lt b2; omega) ((blk_cell b1 0).trans rfl) ((blk_cell b2 0).trans rfl)) (fun h k => h.trans k (fun _ hs => Or.inl hs))
    (fun W' l o o' hl ho hc _ => (Fr.refl _ W').grown (grownBy_putObj' W' l o') (fun k e => by cases e; exact Or.inl (Or.inr hl))) (Below.refl _ _) (fun _ => rfl)
    (fun pre W' => W'.heap[W.heap.size]? = some (.cells #[.int .i64 (cnt L pre : Int)] 3 (0, 0)) ∧ Fr (fun k => k = W.heap.size ∨ W0.heap.size ≤ k) W0 W')
    (fun _ _ _ => False)
    (OwnFrom.and (ownFrom_blk2 _ _ _ _) (ownFrom_fr _ (Nat.le_refl _)))
    (fun c => ownFrom_pure _ _)
    ⟨b0, Fr.refl _ _⟩
    (fun i => { tmps := #[.pointer x, undef, .int .i64 0, .pointer (some ⟨W.heap.size, 0, none⟩), undef, .pointer (ptrv L[i.val]), .pointer x, .func (.func 35) #[] #[.pointer (some ⟨W.heap.size + 1, 0, none⟩), .pointer (some ⟨W.heap.size + 1 + 1, 0, none⟩)], .int .i64 (i.val : Int), .pointer (ptrv L[i.val]), undef, undef, undef, undef, undef], defers := [] }) ?assign ?body ?done ?stop
  case assign =>
    intro l i W' K hK
    dsimp only [encs2]
    gi_wp2
    exact hK
  case body =>
    rintro l pre i W' ⟨hc, hf⟩ hpl
    have hle := cnt_le L pre
    have hsn := cnt_snoc L pre i
    obtain ⟨n, hn⟩ : ∃ n, cnt L pre = n := ⟨_, rfl⟩
    rw [hn] at hc hle hsn
    have hn1 : (n : Int) ≤ 65536 := by omega
    have cl0 : W'.cell? ⟨W.heap.size, 0, none⟩ = some (.int .i64 (n : Int)) := (blk_cell hc 0).trans rfl
    have fr0 := blk_frozen hc 0
    have HC := Aside0.mk hc
    have HF := Aside0.mk hf
    have HSN := Aside0.mk hsn
    obtain ⟨u, hu⟩ : ∃ u, L[i.val] = u := ⟨_, rfl⟩
    rw [hu] at hsn ⊢
    have HU := Aside0.mk hu
    have HS2 := Aside0.mk hsn
    clear hc hf hn hsn hu hle HSN
    cases u with
    | none =>
      simp only [ptrv]
      gi_wp2
      exact ⟨KeepsOthers.refl _, Fr.refl _ _, by rw [HS2.out]; exact HC.out, HF.out⟩
    | some z =>
      simp only [ptrv]
      gi_wp2
      refine ⟨KeepsOthers.setCell _ _ _, (Fr.refl _ _).setCell (p := ⟨W.heap.size, 0, none⟩) (Or.inl (Or.inl rfl)) _, ?_, HF.out.setCell (p := ⟨W.heap.size, 0, none⟩) (Or.inl (Or.inl rfl)) _⟩
      rw [HS2.out]
      exact blk_set HC.out 0 _
  case done =>
    rintro D xs W' hD rfl ⟨hc, hf⟩ hK
    rw [cnt_all] at hc
    have cl0 : W'.cell? ⟨W.heap.size, 0, none⟩ = some (.int .i64 (used (absT L) : Int)) := (blk_cell hc 0).trans rfl
    have HB := Aside0.mk (OwnFrom.putObj (I := fun (_ : Unit) W' => Below W.heap.size W W') (s := ()) (ownFrom_below (Nat.le_refl _) (Nat.le_trans hB0.size hD)) (.deferred none) (hB0.trans (hf.to_below (B := W.heap.size) hB0.size (fun k hk => by have := hB0.size; omega))) (Nat.le_refl _) hK rfl)
    have HKK := Aside0.mk hK
    clear hc hf hK hD
    gi_wp2
    refine ⟨by simp, .inl ⟨_, _, rfl, run_takeDeferred HKK.out, ?_⟩⟩
    exact ⟨_, results_tmp rfl _ _ _, rfl, HB.out⟩
  case stop =>
    rintro D c pre W' hD _ hx _
    exact hx.elim
end
end Go.Proofs.Ytpgdehelamgbnaa
