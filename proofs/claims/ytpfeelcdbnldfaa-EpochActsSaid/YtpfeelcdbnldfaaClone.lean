/-
  append(v, xs...) for elements of several cells; slices.Clone of items.
-/
import Derived.Test.YtpfeelcdbnldfaaLives
import Derived.WalkSpells
import Derived.Maps.AppendAt
namespace Go.Proofs.Ytpfeelcdbnldfaa
open Go.RowKit Go.Proofs.YtpfeelcdbnldfaaW.PrintWords
set_option linter.unusedVariables false
set_option linter.unusedSimpArgs false
section
variable {P : Program} {ops : Array Oper} {rest : List Oper} {o : Oper} {a : Act} {Q : Exit → Act → World → Prop}
/-- append(v, xs...), xs of elements of several cells, nil let in; behind 'at_builtin'. -/
theorem append_any {W : World} (base : Nat) (hgd : o.guard = none) (s x : Operand) (t e : TypeId) (z : Value) (size bytes : Nat)
    (ho : o.op = .call { callee := .builtin .append, args := #[s, x], argTypes := #[t, t] })
    (ht : P.underlying t = some (.slice e)) (hinfo : (P.info? e).map (fun i => (i.zero, i.size, i.bytes)) = some (some z, size, bytes)) (hz : z.cells.size = size) (hs0 : 0 < size) (hb0 : 0 < bytes)
    (v : Value) (n : Nat) (xs ys : List Value) (A : Option Addr) (m c : Nat) (hs : a.eval s = v) (hx : a.eval x = .slice A m c) (hys : ys.length = m * size) (h1 : ∀ u ∈ ys, u.oneCell' = true)
    (HO : W.ownsRow base e size v n xs) (HR : 0 < m → ∃ ad, A = some ad ∧ ∀ j u, ys[j]? = some u → W.cell? (ad.add j) = some u) (hnil : A = none → m = 0) (hbase : base ≤ W.heap.size) (hl : (n + m) * bytes ≤ 140737488355328)
    (h : ∀ v1 w1, w1.ownsRow base e size v1 (n + m) (xs ++ ys) → W.grownBy w1 v.ownBlock → (v1.ownBlock = v.ownBlock ∨ v1.ownBlock = some W.heap.size) → wpList P ops Q rest (a.put o.dst v1) w1) :
    wpList P ops Q (o :: rest) a W := by
  obtain ⟨i0, hi, hzz⟩ := Option.map_eq_some_iff.1 hinfo
  simp only [Prod.mk.injEq] at hzz
  obtain ⟨hz0, hz1, hz2⟩ := hzz
  have hlen : n + m ≤ 140737488355328 := Nat.le_trans (Nat.le_mul_of_pos_right _ hb0) hl
  have hrun : ∃ v1 w1, (Builtin.append_ #[t, t] o.type #[v, .slice A m c]).run P W = .ok v1 w1 ∧ w1.ownsRow base e size v1 (n + m) (xs ++ ys) ∧ W.grownBy w1 v.ownBlock ∧ (v1.ownBlock = v.ownBlock ∨ v1.ownBlock = some W.heap.size) := by
    rcases A with _ | ad
    · have h0 : m = 0 := hnil rfl
      subst h0
      obtain rfl : ys = [] := List.eq_nil_of_length_eq_zero (by omega)
      refine ⟨v, W, ?_, by simpa using HO, World.grownBy.refl W _, .inl rfl⟩
      rcases HO.2 with ⟨rfl, hn⟩ | ⟨g, cap, cur, rfl, _, _, hnc, _⟩
      · subst hn
        simp [Builtin.append_, run_underlying ht, sizeOf, typeInfo, hi, Builtin.lenOf, Builtin.firstCells]
      · simp [Builtin.append_, run_underlying ht, sizeOf, typeInfo, hi, Builtin.lenOf, Builtin.firstCells, hnc, storeCells]
    · have hcells : ∀ j u, ys[j]? = some u → W.cell? (ad.add j) = some u := by
        intro j u hu
        have hj : j < ys.length := (List.getElem?_eq_some_iff.1 hu).1
        have hm : 0 < m := by
          rcases Nat.eq_zero_or_pos m with e0 | e0
          · subst e0
            omega
          · exact e0
        obtain ⟨ad', h', hc⟩ := HR hm
        injection h' with h'
        subst h'
        exact hc j u hu
      obtain ⟨v1, w1, hr, h2, h3, _, h5⟩ := run_append_own_at (P := P) W base t o.type e i0 z size bytes ht hi hz0 hz1 hz2 hz hs0 v n xs HO ad m c ys hys hcells h1 (by simp only [maxLen]; omega) hl hbase
      exact ⟨v1, w1, hr, h2, h3, h5⟩
  obtain ⟨v1, w1, hr, hown, hg, hat⟩ := hrun
  refine wpList_plain hgd fun K hK => ?_
  unfold Oper.wp execOp
  simp only [ho, resolve, invoke, builtin, Sem.run_bind, Sem.run_pure, Result.andThen_ok, List.map_toArray, List.map_cons, List.map_nil, hs, hx, hr]
  exact hK _ _ (h v1 w1 hown hg hat)
end
theorem info63z : ∃ z : Value, (Try.prog.info? 63).map (fun i => (i.zero, i.size, i.bytes)) = some (some z, 2, 16) ∧ z.cells.size = 2 := by
  obtain ⟨i0, hi, hz⟩ := Option.map_eq_some_iff.1 info63
  simp only [Prod.mk.injEq] at hz
  obtain ⟨hz0, hz1, hz2⟩ := hz
  obtain ⟨z, hzz, hz3⟩ := Option.map_eq_some_iff.1 hz0
  exact ⟨z, by rw [hi, Option.map_some, hzz, hz1, hz2], hz3⟩
theorem flat_one : ∀ L : List It, ∀ u ∈ flat L, u.oneCell' = true
  | [], u, h => by simp [flat] at h
  | x :: L, u, h => by
    simp only [flat, List.mem_cons] at h
    rcases h with rfl | rfl | h
    · rfl
    · rfl
    · exact flat_one L u h
set_option maxHeartbeats 1000000 in
theorem clone_c {W : World} {b : Nat} {v : Value} {L : List It} (h : W.ownsRow b 63 2 v L.length (flat L)) (hn : L.length ≤ 1000000) :
    Calls Try.prog 36 #[v] W fun e w' => ∃ v1, e = .returned v1 ∧ w'.ownsRow W.heap.size 63 2 v1 L.length (flat L) ∧ Below W.heap.size W w' := by
  have HN := Aside0.mk hn
  rcases h.2 with ⟨rfl, h0⟩ | ⟨g, cap, cur, rfl, hb, hgg, h1, h2, h3, h4⟩
  · have hL : L = [] := List.eq_nil_of_length_eq_zero h0
    subst hL
    clear h h0 HN hn
    have he := fun (w : World) (a : Option Addr) (n c : Nat) => Lib.run_eql_slice_nil (P := Try.prog) w 38 63 a n c 0 0 Try.underlying38
    go_enter Try.func36, Try.ntmps36
    go_wp2_with fail
    go_ret
    exact ⟨_, rfl, World.ownsRow_nil _ _ _ _, Below.refl _ _⟩
  · have HH := Aside0.mk h
    clear h hn hgg h1 h2 h3 h4
    obtain ⟨z, hz, hzc⟩ := info63z
    have HZ := Aside0.mk hz
    clear hz
    have he := fun (w : World) (a : Option Addr) (n c : Nat) => Lib.run_eql_slice_nil (P := Try.prog) w 38 63 a n c 0 0 Try.underlying38
    go_enter Try.func36, Try.ntmps36
    go_wp2_with (at_builtin; refine append_any W.heap.size rfl (.tmp 5) (.tmp 6) 38 63 z 2 16 rfl Try.underlying38 HZ.out hzc (by decide) (by decide) (.slice (some ⟨W.heap.size, 0, none⟩) 0 0) 0 [] (flat L) (some ⟨g, 0, none⟩) L.length cap rfl rfl (by rw [flat_length, Nat.mul_comm]) (flat_one L) ?a1 ?a2 (fun e => by cases e) ?a3 ?a4 ?_; (case a1 => exact World.ownsRow_made W #[] 0 (Nat.le_refl _) (by decide) rfl); (case a2 => exact fun _ => ⟨_, rfl, (HH.out.alloc _).cells rfl⟩); (case a3 => simp); (case a4 => have := HN.out; omega); intro v1 w1 ho hg hat; have HO := Aside0.mk ho; have HG := Aside0.mk hg; clear ho hg hat)
    go_ret
    refine ⟨_, rfl, ?_, ?_⟩
    · have := HO.out
      rw [Nat.zero_add, List.nil_append] at this
      exact this
    · exact ((Below.refl W.heap.size W).alloc (Nat.le_refl _) (.cells #[] 63)).grown HG.out (by simp) (fun k hk => by simp [Value.ownBlock] at hk; omega)
end Go.Proofs.Ytpfeelcdbnldfaa
