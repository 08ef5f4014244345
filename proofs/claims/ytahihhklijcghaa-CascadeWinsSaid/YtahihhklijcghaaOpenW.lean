/-
  Arguments of nested kinds opened at once, their texts bounded by what a memory holds.
-/
import Derived.Test.YtahihhklijcghaaOpen
namespace Go.Proofs.Ytahihhklijcghaa.Opn
open Go.ChangeShapes Go.WideShapes Go.Deep Go.Proofs.YtahihhklijcghaaW.PrintWords
set_option linter.unusedVariables false
def OpensW {α : Type} (P : Program) (t : TypeId) (d : Kd α) (good : α → Prop) : Prop :=
  ∀ (H : Type) (enc : TypeId × Value → H) (w : World) (base : Nat) (spare : Nat → Bool) (held : Bool) (fuel : Nat) (cs : List Value) (x : DataW H × List MemPlace),
    DataW.trod enc P w base spare held fuel t cs = some x → (∀ n ∈ x.1.weights P t, n ≤ reachBytes) → ∃ y, d.K w y cs ∧ good y
theorem Opens.w {α : Type} {P : Program} {t : TypeId} {d : Kd α} {good : α → Prop} (h : Opens P t d good) : OpensW P t d good := fun H enc w base spare held fuel cs x hx _ => h H enc w base spare held fuel cs x hx
theorem opensW_string {P : Program} {t : TypeId} (ht : P.underlying t = some .string) : OpensW P t Kd.string (fun s => s.size ≤ 140737488351232) := by
  intro H enc w base spare held fuel cs x h hw
  obtain ⟨s, rfl, rfl, hs⟩ := DataW.trod_string ht h
  refine ⟨s, rfl, ?_⟩
  have := hw s.data.toList.length (by simp [DataW.weights])
  rw [Array.length_toList] at this
  exact this
def OpensFW {α : Type} (P : Program) (fs : List Field) (off total : Nat) (d : Kd α) (good : α → Prop) : Prop :=
  ∀ (H : Type) (enc : TypeId × Value → H) (w : World) (base : Nat) (spare : Nat → Bool) (held : Bool) (n : Nat) (cs : List Value) (xs : List (DataW H × List MemPlace)),
    cs.length = total → xs.length = fs.length → (∀ (i : Nat) (f : Field), fs[i]? = some f → DataW.trod enc P w base spare held n f.type ((cs.drop f.offset).take (P.cellsOf f.type)) = xs[i]?) →
    (∀ n ∈ DataW.weightsEach P (fs.map (·.type)) (xs.map (·.1)), n ≤ reachBytes) → ∃ y, d.K w y (cs.drop off) ∧ good y
theorem opensW_last {α : Type} {P : Program} {f : Field} {off total : Nat} {d : Kd α} {good : α → Prop} (h : OpensW P f.type d good) (ho : f.offset = off) (ht : total = off + P.cellsOf f.type) : OpensFW P [f] off total d good := by
  intro H enc w base spare held n cs xs hcs hxl hx hw
  have h0 := hx 0 f rfl
  match xs, hxl with
  | [x0], _ =>
    obtain ⟨y, hy, hg⟩ := h H enc w base spare held n _ _ h0 (fun n hn => hw n (by simpa [DataW.weightsEach] using hn))
    refine ⟨y, ?_, hg⟩
    rw [ho, List.take_of_length_le (by rw [List.length_drop]; omega)] at hy
    exact hy
theorem opensW_more {α β : Type} {P : Program} {f : Field} {fs : List Field} {off total : Nat} {a : Kd α} {b : Kd β} {g1 : α → Prop} {g2 : β → Prop} (h : OpensW P f.type a g1) (ho : f.offset = off)
    (hr : OpensFW P fs (off + P.cellsOf f.type) total b g2) : OpensFW P (f :: fs) off total (Kd.pair a b) (fun x => g1 x.1 ∧ g2 x.2) := by
  intro H enc w base spare held n cs xs hcs hxl hx hw
  match xs, hxl with
  | x0 :: xs, hxl =>
    obtain ⟨y, hy, hg⟩ := h H enc w base spare held n _ _ (hx 0 f rfl) (fun n hn => hw n (by simp only [List.map_cons, DataW.weightsEach, List.mem_append]; exact Or.inl hn))
    obtain ⟨z, hz, hg'⟩ := hr H enc w base spare held n cs xs hcs (by simpa using hxl) (fun i f hi => hx (i + 1) f hi) (fun n hn => hw n (by simp only [List.map_cons, DataW.weightsEach, List.mem_append]; exact Or.inr hn))
    refine ⟨(y, z), ⟨_, _, ?_, hy, hz⟩, hg, hg'⟩
    rw [ho, ← List.drop_drop, List.take_append_drop]
theorem opensW_struct {α β : Type} {P : Program} {t : TypeId} {fs : Array Field} {d : Kd α} {good : α → Prop} (ht : P.underlying t = some (.struct fs)) (f : β → α) (g : α → β) (hfg : ∀ x, f (g x) = x)
    (h : OpensFW P fs.toList 0 (P.cellsOf t) d good) : OpensW P t (Kd.iso d f) (fun x => good (f x)) := by
  intro H enc w base spare held fuel cs x hx hw
  obtain ⟨xs, n, _, rfl, hcl, hxl, hf⟩ := DataW.trod_struct ht hx
  obtain ⟨y, hy, hg⟩ := h H enc w base spare held n cs xs hcl (by simpa using hxl) (fun i f hi => hf i f (by simpa using hi)) (fun n hn => hw n (by simp only [DataW.weights, ht]; exact hn))
  refine ⟨g y, ?_, by show good (f (g y)); rw [hfg]; exact hg⟩
  rw [List.drop_zero] at hy
  show d.K w (f (g y)) cs
  rw [hfg]
  exact hy
theorem mem_all {H : Type} {P : Program} {e : TypeId} : ∀ {L : List (DataW H)} {d : DataW H} {n : Nat}, d ∈ L → n ∈ d.weights P e → n ∈ DataW.weightsAll P e L
  | _ :: L, d, n, h, hn => by
    simp only [DataW.weightsAll, List.mem_append]
    rcases List.mem_cons.1 h with rfl | h
    · exact Or.inl hn
    · exact Or.inr (mem_all h hn)
/-- A slice that came in, its elements' texts bounded. -/
theorem slice_inW {α H : Type} {enc : TypeId × Value → H} {P : Program} {W : World} {t e : TypeId} {d : Kd α} {good : α → Prop} (ht : P.underlying t = some (.slice e)) (hc : P.cellsOf e = d.sz) (he : OpensW P e d good)
    {a : Option Addr} {len cap : Nat} {dd : DataW H} {ps : List MemPlace} {ts : List TypeId} {ds : List (DataW H)} {j B : Nat} (h : DataW.Trod enc P W 0 (fun _ => true) true t (.slice a len cap) dd ps)
    (hsz : (DataW.weightsEach P ts ds).all (· ≤ reachBytes) = true) (hj : ts[j]? = some t) (hd : ds[j]? = some dd) (hB : P.bytesOf e = B) :
    ∃ xs : List α, len = xs.length ∧ xs.length ≤ cap ∧ d.C W a xs.length xs ∧ (∀ x ∈ xs, good x) ∧ xs.length * B ≤ 140737488351232 := by
  obtain ⟨fuel, hf⟩ := h
  rcases open_slice ht hf with ⟨hcs, _⟩ | ⟨a', len', cap', m, n, D, Pl, hcs, _, hl, hm, hmm, hx, hall⟩
  · simp [Value.cells] at hcs
    obtain ⟨rfl, rfl, rfl⟩ := hcs
    exact ⟨[], rfl, Nat.le_refl _, Kd.C_nil d W, fun x hx => by simp at hx, by simp⟩
  · simp [Value.cells] at hcs
    obtain ⟨rfl, rfl, rfl⟩ := hcs
    simp only [Prod.mk.injEq] at hx
    have hd2 := hd
    rw [hx.1] at hd2
    obtain ⟨xs, hlen, hxs⟩ := choose_list (n := len) (p := fun i y => ∃ c, c.length = d.sz ∧ d.K W y c ∧ good y ∧ ∀ j u, c[j]? = some u → W.cell? (a'.add (i * d.sz + j)) = some u) (fun i hi => by
      have hi' : i < m := by rw [hmm]; split <;> omega
      obtain ⟨c, h1, h2⟩ := hall i hi'
      obtain ⟨_, hcl, hat⟩ := World.cells?_some h1
      obtain ⟨y, hy, hg⟩ := he H enc W _ _ _ n c _ h2 (fun k hk => by
        have h3 := DataW.weights_mem_each (P := P) hj hd2 k (by
          simp only [DataW.weights, ht]
          refine List.mem_cons_of_mem _ (List.mem_append_left _ ?_)
          exact mem_all (List.mem_map.2 ⟨i, List.mem_range.2 hi, rfl⟩) hk)
        simpa using List.all_eq_true.1 hsz _ h3)
      refine ⟨y, c, d.K_len hy, hy, hg, fun j u hj => ?_⟩
      have hjl : j < P.cellsOf e := by rw [← hcl]; exact (List.getElem?_eq_some_iff.1 hj).1
      have := hat j hjl
      rw [Go.Deep.add_add, hj, hc] at this
      exact this)
    refine ⟨xs, hlen.symm, by rw [hlen]; exact hl, ⟨rfl, ?_, fun _ => ⟨a', rfl, fun j p hj => ?_⟩⟩, ?_, ?_⟩
    · rw [hlen]; simp only [maxLen] at hm; omega
    · obtain ⟨c, h1, h2, _, h4⟩ := hxs j p hj
      exact ⟨c, h1, h2, h4⟩
    · intro x hx
      obtain ⟨i, hi⟩ := List.getElem?_of_mem hx
      obtain ⟨c, _, _, h3, _⟩ := hxs i x hi
      exact h3
    · have z := sized_slice hsz hj hd2 ht
      rw [hB] at z
      simp only [List.length_map, List.length_range] at z
      rw [hlen]
      exact Nat.le_trans (Nat.mul_le_mul_right _ (by omega)) z
end Go.Proofs.Ytahihhklijcghaa.Opn
