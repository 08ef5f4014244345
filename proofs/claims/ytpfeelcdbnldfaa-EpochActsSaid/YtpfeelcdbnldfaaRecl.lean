/-
  What nobody sees any more is given up: (*Epochs).Reclaim.
-/
import Derived.Test.YtpfeelcdbnldfaaSt
namespace Go.Proofs.Ytpfeelcdbnldfaa
open Go.RowKit Go.Proofs.YtpfeelcdbnldfaaW.PrintWords
set_option linter.unusedVariables false
set_option linter.unusedSimpArgs false

/-- What is given up (I), what waits on (M), of what waited (L); the least that is held is m. -/
structure Rc (held : Bool) (m : Int) (L I M : List It) : Prop where
  perm : (I ++ M).Perm L
  sorted : I.Pairwise (fun a b => lessV b a = false)
  cross : ∀ a, a ∈ I → ∀ b, b ∈ M → lessV b a = false
  below : ∀ a, a ∈ I → held = false ∨ a.2 < m
theorem Rc.start (held : Bool) (m : Int) (L : List It) : Rc held m L [] L := ⟨.refl _, .nil, fun _ h => by simp at h, fun _ h => by simp at h⟩
theorem Rc.step {held : Bool} {m : Int} {L I M N : List It} {x : It} (h : Rc held m L I M) (hp : (x :: N).Perm M) (hl : ∀ y, y ∈ N → lessV y x = false) (hm : held = false ∨ x.2 < m) : Rc held m L (I ++ [x]) N := by
  refine ⟨?_, ?_, ?_, ?_⟩
  · rw [List.append_assoc]
    exact (List.Perm.append_left I hp).trans h.perm
  · rw [List.pairwise_append]
    refine ⟨h.sorted, List.pairwise_singleton _ _, fun a ha b hb => ?_⟩
    rw [List.mem_singleton] at hb
    subst hb
    exact h.cross a ha _ (hp.subset (List.mem_cons_self))
  · intro a ha b hb
    rw [List.mem_append, List.mem_singleton] at ha
    rcases ha with ha | rfl
    · exact h.cross a ha b (hp.subset (List.mem_cons_of_mem _ hb))
    · exact hl b hb
  · intro a ha
    rw [List.mem_append, List.mem_singleton] at ha
    rcases ha with ha | rfl
    · exact h.below a ha
    · exact hm
theorem top_first {M N : List It} {x y : It} (hx : x ∈ M) (hlx : ∀ z, z ∈ M → lessV z x = false) (hp : (y :: N).Perm M) (hly : ∀ z, z ∈ N → lessV z y = false) : y = x := by
  have h1 := hlx y (hp.subset List.mem_cons_self)
  have h2 : lessV x y = false := by
    have := hp.symm.subset hx
    rcases List.mem_cons.1 this with e | e
    · rw [e]
      exact lessV_self y
    · exact hly x e
  rw [lessV_not] at h1 h2
  exact Prod.ext (by omega) (by omega)
theorem info3 : (Try.prog.info? 3).map (fun i => (i.zero, i.size, i.bytes)) = some (some (.int .i64 0), 1, 8) := by kernel_rfl
/-- What a round of Reclaim hands on. -/
theorem Rcl.mk {W w2 w3 : World} {p n : Nat} {now : Int} {S : List Int} {L I N : List It} {held : Bool} {m : Int} {y : It} {u v1 : Value} (HR2 : Aside0 (Rc held m L (I ++ [y]) N)) (HX2 : Aside0 (Nx W p now S n N w2)) (HV2 : Aside0 (∀ (k : Nat), Ow w2 p k → Ow W p k))
    (HO4 : Aside0 (w3.ownsRow W.heap.size 3 1 v1 (I.map Prod.fst ++ [y.1]).length (nums .i64 (I.map Prod.fst ++ [y.1])))) (HG : Aside0 ((w2.alloc (.cells #[Value.int .i64 y.1, Value.int .i64 y.2] 63)).grownBy w3 u.ownBlock)) (HO2 : Aside0 (w2.ownsRow W.heap.size 3 1 u I.length (nums .i64 (I.map Prod.fst)))) (HOL : Aside0 (∀ (k : Nat), Ow W p k → k < W.heap.size)) :
    ∃ (J M : List It), Aside0 (N.length = M.length) ∧ Aside0 (Rc held m L J M) ∧ Aside0 (Nx W p now S n M w3) ∧ Aside0 (∀ k, Ow w3 p k → Ow W p k) ∧ Aside0 (w3.ownsRow W.heap.size 3 1 v1 J.length (nums .i64 (J.map Prod.fst))) := by
  have hf : Fr (fun k => u.ownBlock = some k) w2 w3 := ((Fr.refl _ _).alloc _).grown HG.out (fun k hk => Or.inl hk)
  have hs := HX2.out.st.fr hf (fun k hk e => by have h1 := (HO2.out.lt k e).1; have h2 := HOL.out k (HV2.out k hk); omega)
  have hv : ∀ k, Ow w3 p k → Ow W p k := fun k hk => HV2.out k ((hs.2 k).1 hk)
  refine ⟨I ++ [y], N, ⟨rfl⟩, HR2, ⟨hs.1, HX2.out.fr.trans hf (fun i hi => Or.inr (HO2.out.lt i hi).1), fun k hk => Or.inl (hv k hk)⟩, ⟨hv⟩, ⟨?_⟩⟩
  have := HO4.out
  rw [List.map_append]
  simpa using this
/-- What Reclaim leaves. -/
def Recl0 (ls : Int × Bool) (W : World) (p : Nat) (now : Int) (S : List Int) (n : Nat) (L : List It) (e : Ending) (w' : World) : Prop :=
  ∃ (I M : List It) (v : Value), e = .returned v ∧ Rc ls.2 ls.1 L I M ∧ (M = [] ∨ (ls.2 = true ∧ ∀ b, b ∈ M → ls.1 ≤ b.2)) ∧ Nx W p now S n M w' ∧ w'.ownsRow W.heap.size 3 1 v I.length (nums .i64 (I.map Prod.fst)) ∧ (∀ k, Ow w' p k → Ow W p k)
def Recl (W : World) (p : Nat) (now : Int) (S : List Int) (n : Nat) (L : List It) (e : Ending) (w' : World) : Prop := Recl0 (leastV S n 8) W p now S n L e w'
set_option maxHeartbeats 1000000 in
set_option maxRecDepth 100000 in
theorem reclaim_c {W : World} {p n : Nat} {now : Int} {S : List Int} {L : List It} (h : St W p now S n L) (hn : L.length ≤ 100000) :
    Calls Try.prog 16 #[.pointer (some ⟨p, 0, none⟩)] W (Recl W p now S n L) := by
  show Calls Try.prog 16 #[.pointer (some ⟨p, 0, none⟩)] W (Recl0 (leastV S n 8) W p now S n L)
  have HW := Aside0.mk (Nx.refl h)
  have HOL := Aside0.mk (fun k => h.ow_lt k)
  have HLS := Aside0.mk (fun W2 v (h2 : Ep W2 p now S n v) => least_c h2)
  generalize leastV S n 8 = ls at HLS ⊢
  obtain ⟨m, held⟩ := ls
  have HN := Aside0.mk hn
  clear h hn
  go_enter Try.func16, Try.ntmps16
  go_wp2_with fail
  go_loopg [3] L.length (fun k v wr => ∃ (I M : List It), Aside0 (k = M.length) ∧ Aside0 (Rc held m L I M) ∧ Aside0 (Nx W p now S n M wr) ∧ Aside0 (∀ k, Ow wr p k → Ow W p k) ∧ Aside0 (wr.ownsRow W.heap.size 3 1 v I.length (nums .i64 (I.map Prod.fst))))
  case atStart => exact ⟨[], L, ⟨rfl⟩, ⟨Rc.start _ _ _⟩, HW, ⟨fun k h => h⟩, ⟨World.ownsRow_nil _ _ _ _⟩⟩
  case round =>
    obtain ⟨I, M, HK, HR, HX, HO, HV⟩ := hrel
    have HML : Aside0 (M.length ≤ 100000) := ⟨by have := HR.out.perm.length_eq; rw [List.length_append] at this; have := HN.out; omega⟩
    by_cases h0 : M = []
    · subst h0
      obtain ⟨a, c, h10⟩ := HX.out.st.none
      obtain ⟨v, hE⟩ := HX.out.st.ep
      have HE := Aside0.mk hE
      clear hE
      go_wp2_with fail
      refine (made_c HE.out).mono ?_
      rintro e w1 ⟨rfl, rfl⟩
      go_wp2_with fail
      go_ret
      exact ⟨I, [], _, rfl, HR.out, Or.inl rfl, HX.out, HV.out, HO.out⟩
    · have hl0 : 0 < M.length := List.length_pos_iff.2 h0
      obtain ⟨g, c, _, x, h10, hx1, hx2, hxm, hxl⟩ := HX.out.st.top hl0
      have HXM := Aside0.mk hxm
      have HXL := Aside0.mk hxl
      have gl : (0 : Int) < (M.length : Int) := by omega
      have gg : (0 : Nat) < M.length := hl0
      obtain ⟨v, hE⟩ := HX.out.st.ep
      have HE := Aside0.mk hE
      clear hE h0 hl0 hxm hxl
      cases held with
      | true =>
        by_cases hb : m ≤ x.2
        · have HB : Aside0 (∀ b, b ∈ M → m ≤ b.2) := ⟨fun b hbm => by
            have := HXL.out b hbm
            rw [lessV_not] at this
            omega⟩
          go_wp2_with fail
          refine (made_c HE.out).mono ?_
          rintro e w1 ⟨rfl, rfl⟩
          go_wp2_with fail
          refine (HLS.out _ _ HE.out).mono ?_
          rintro e w1 ⟨rfl, rfl⟩
          go_wp2_with fail
          go_ret
          exact ⟨I, M, _, rfl, HR.out, Or.inr ⟨rfl, HB.out⟩, HX.out, HV.out, HO.out⟩
        · have hb2 : x.2 < m := by omega
          have HB : Aside0 (true = false ∨ x.2 < m) := ⟨Or.inr hb2⟩
          clear hb
          go_wp2_with fail
          refine (made_c HE.out).mono ?_
          rintro e w1 ⟨rfl, rfl⟩
          go_wp2_with fail
          refine (HLS.out _ _ HE.out).mono ?_
          rintro e w1 ⟨rfl, rfl⟩
          go_wp2_with fail
          refine (hpop_s HX.out.st HML.out gg).mono ?_
          rintro e w2 ⟨y, N, rfl, hP, hL, hX, hO⟩
          have HR2 := Aside0.mk (HR.out.step hP hL (by rw [top_first HXM.out HXL.out hP hL]; exact HB.out))
          have HX2 := Aside0.mk (HX.out.trans hX)
          have HV2 := Aside0.mk (fun k hk => HO.out k (hO k hk))
          have HO2 := Aside0.mk (own_fr HV.out hX.fr (fun k hk hk2 => by have h1 := (HV.out.lt k hk).1; have h2 := HOL.out k (HO.out k hk2); omega))
          have HK2 : Aside0 (N.length < gk) := ⟨by have := hP.length_eq; rw [List.length_cons] at this; have := HK.out; omega⟩
          have HSZ : Aside0 (W.heap.size ≤ w2.heap.size) := ⟨HX2.out.fr.size⟩
          have HIL : Aside0 ((I.map Prod.fst).length + 1 ≤ 200000) := ⟨by have h1 := HR2.out.perm.length_eq; rw [List.length_append, List.length_append, List.length_singleton] at h1; have h2 := HN.out; rw [List.length_map]; omega⟩
          clear hP hL hX hO
          have hta := is_it w2 y
          unfold itv at hta ⊢
          have hc := cell1 w2 #[Value.int .i64 y.1, Value.int .i64 y.2] 63 0
          simp only [List.getElem?_toArray, List.getElem?_cons_zero] at hc
          have HO3 := Aside0.mk (show (w2.alloc (.cells #[Value.int .i64 y.1, Value.int .i64 y.2] 63)).ownsRow W.heap.size 3 1 u3 (I.map Prod.fst).length (nums .i64 (I.map Prod.fst)) by rw [List.length_map]; exact HO2.out.alloc _)
          go_wp2_with (at_builtin; refine print_append_num (w0 := w2.alloc (.cells #[Value.int .i64 y.1, Value.int .i64 y.2] 63)) W.heap.size rfl (.tmp 45) (.tmp 48) 27 3 .i64 8 rfl Try.underlying27 info3 (by decide) u3 (I.map Prod.fst) y.1 rfl (by rw [World.size_alloc]; rfl) HO3.out (Below.refl _ _) (by have := HSZ.out; simp; omega) (by have := HIL.out; omega) ?_; intro v1 w3 ho hb hg _; have HO4 := Aside0.mk ho; have HG := Aside0.mk hg; clear ho hb hg)
          go_roundg N.length
          case rel => exact Rcl.mk HR2 HX2 HV2 HO4 HG HO2 HOL
          case measure => exact HK2.out
      | false =>
        have HB : Aside0 (false = false ∨ x.2 < m) := ⟨Or.inl rfl⟩
        go_wp2_with fail
        refine (made_c HE.out).mono ?_
        rintro e w1 ⟨rfl, rfl⟩
        go_wp2_with fail
        refine (HLS.out _ _ HE.out).mono ?_
        rintro e w1 ⟨rfl, rfl⟩
        go_wp2_with fail
        refine (hpop_s HX.out.st HML.out gg).mono ?_
        rintro e w2 ⟨y, N, rfl, hP, hL, hX, hO⟩
        have HR2 := Aside0.mk (HR.out.step hP hL (by exact Or.inl rfl))
        have HX2 := Aside0.mk (HX.out.trans hX)
        have HV2 := Aside0.mk (fun k hk => HO.out k (hO k hk))
        have HO2 := Aside0.mk (own_fr HV.out hX.fr (fun k hk hk2 => by have h1 := (HV.out.lt k hk).1; have h2 := HOL.out k (HO.out k hk2); omega))
        have HK2 : Aside0 (N.length < gk) := ⟨by have := hP.length_eq; rw [List.length_cons] at this; have := HK.out; omega⟩
        have HSZ : Aside0 (W.heap.size ≤ w2.heap.size) := ⟨HX2.out.fr.size⟩
        have HIL : Aside0 ((I.map Prod.fst).length + 1 ≤ 200000) := ⟨by have h1 := HR2.out.perm.length_eq; rw [List.length_append, List.length_append, List.length_singleton] at h1; have h2 := HN.out; rw [List.length_map]; omega⟩
        clear hP hL hX hO
        have hta := is_it w2 y
        unfold itv at hta ⊢
        have hc := cell1 w2 #[Value.int .i64 y.1, Value.int .i64 y.2] 63 0
        simp only [List.getElem?_toArray, List.getElem?_cons_zero] at hc
        have HO3 := Aside0.mk (show (w2.alloc (.cells #[Value.int .i64 y.1, Value.int .i64 y.2] 63)).ownsRow W.heap.size 3 1 u3 (I.map Prod.fst).length (nums .i64 (I.map Prod.fst)) by rw [List.length_map]; exact HO2.out.alloc _)
        go_wp2_with (at_builtin; refine print_append_num (w0 := w2.alloc (.cells #[Value.int .i64 y.1, Value.int .i64 y.2] 63)) W.heap.size rfl (.tmp 45) (.tmp 48) 27 3 .i64 8 rfl Try.underlying27 info3 (by decide) u3 (I.map Prod.fst) y.1 rfl (by rw [World.size_alloc]; rfl) HO3.out (Below.refl _ _) (by have := HSZ.out; simp; omega) (by have := HIL.out; omega) ?_; intro v1 w3 ho hb hg _; have HO4 := Aside0.mk ho; have HG := Aside0.mk hg; clear ho hb hg)
        go_roundg N.length
        case rel => exact Rcl.mk HR2 HX2 HV2 HO4 HG HO2 HOL
        case measure => exact HK2.out
end Go.Proofs.Ytpfeelcdbnldfaa
