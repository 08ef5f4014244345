/-
  Arguments of whatever nested kind (whole numbers, bools, strings, slices and structs of these) opened at once: what reads as data is of its kind.
-/
import Derived.Deep.Slices
import Derived.SizedLaws
import Derived.Test.YtahihhklijcghaaWWords
namespace Go.Proofs.Ytahihhklijcghaa.Opn
open Go.ChangeShapes Go.WideShapes Go.Deep Go.Proofs.YtahihhklijcghaaW.PrintWords

def Opens {α : Type} (P : Program) (t : TypeId) (d : Kd α) (good : α → Prop) : Prop :=
  ∀ (H : Type) (enc : TypeId × Value → H) (w : World) (base : Nat) (spare : Nat → Bool) (held : Bool) (fuel : Nat) (cs : List Value) (x : DataW H × List MemPlace),
    DataW.trod enc P w base spare held fuel t cs = some x → ∃ y, d.K w y cs ∧ good y

theorem opens_int {P : Program} {t : TypeId} {k : IntKind} (ht : P.underlying t = some (.int k)) : Opens P t (Kd.int k) (fun n => (Lit.int k n).wf = true) := by
  intro H enc w base spare held fuel cs x h
  obtain ⟨n, rfl, _, hw⟩ := DataW.trod_int ht h
  exact ⟨n, rfl, hw⟩
theorem opens_bool {P : Program} {t : TypeId} (ht : P.underlying t = some .bool) : Opens P t Kd.bool (fun _ => True) := by
  intro H enc w base spare held fuel cs x h
  obtain ⟨b, rfl, _⟩ := DataW.trod_bool ht h
  exact ⟨b, rfl, trivial⟩
theorem opens_string {P : Program} {t : TypeId} (ht : P.underlying t = some .string) : Opens P t Kd.string (fun s => s.size ≤ 9223372036854775807) := by
  intro H enc w base spare held fuel cs x h
  obtain ⟨s, rfl, _, hs⟩ := DataW.trod_string ht h
  exact ⟨s, rfl, hs⟩

theorem choose_list {α : Type} {n : Nat} {p : Nat → α → Prop} (h : ∀ i, i < n → ∃ x, p i x) : ∃ xs : List α, xs.length = n ∧ ∀ i x, xs[i]? = some x → p i x := by
  induction n with
  | zero => exact ⟨[], rfl, fun i x hx => by simp at hx⟩
  | succ n ih =>
    obtain ⟨xs, hl, hx⟩ := ih (fun i hi => h i (Nat.lt_succ_of_lt hi))
    obtain ⟨y, hy⟩ := h n (Nat.lt_succ_self n)
    refine ⟨xs ++ [y], by simp [hl], fun i x hi => ?_⟩
    rcases Nat.lt_or_ge i xs.length with hlt | hge
    · rw [List.getElem?_append_left hlt] at hi
      exact hx i x hi
    · rw [List.getElem?_append_right hge] at hi
      have : i - xs.length = 0 := by
        rcases Nat.eq_zero_or_pos (i - xs.length) with h0 | h0
        · exact h0
        · rw [List.getElem?_eq_none (by simp only [List.length_cons, List.length_nil]; omega)] at hi; simp at hi
      rw [this] at hi
      simp at hi
      subst hi
      have : i = n := by omega
      subst this
      exact hy

theorem opens_slice {α : Type} {P : Program} {t e : TypeId} {d : Kd α} {good : α → Prop} (ht : P.underlying t = some (.slice e)) (hc : P.cellsOf e = d.sz) (he : Opens P e d good) :
    Opens P t (Kd.slice e d) (fun xs => ∀ x ∈ xs, good x) := by
  intro H enc w base spare held fuel cs x h
  rcases open_slice ht h with ⟨rfl, _⟩ | ⟨a, len, cap, m, n, D, Pl, rfl, _, hl, hm, hmm, _, hx⟩
  · exact ⟨[], ⟨none, 0, rfl, Nat.le_refl _, Kd.C_nil d w⟩, fun x hx => by simp at hx⟩
  · obtain ⟨xs, hlen, hxs⟩ := choose_list (n := len) (p := fun i y => ∃ c, c.length = d.sz ∧ d.K w y c ∧ good y ∧ ∀ j u, c[j]? = some u → w.cell? (a.add (i * d.sz + j)) = some u) (fun i hi => by
      have hi' : i < m := by rw [hmm]; split <;> omega
      obtain ⟨c, h1, h2⟩ := hx i hi'
      obtain ⟨y, hy, hg⟩ := he H enc w base spare held n c _ h2
      obtain ⟨_, hcl, hat⟩ := World.cells?_some h1
      refine ⟨y, c, d.K_len hy, hy, hg, fun j u hj => ?_⟩
      have hjl : j < P.cellsOf e := by rw [← hcl]; exact (List.getElem?_eq_some_iff.1 hj).1
      have := hat j hjl
      rw [Go.Deep.add_add, hj, hc] at this
      exact this)
    refine ⟨xs, ⟨some a, cap, by rw [hlen], by rw [hlen]; exact hl, by rw [hlen], ?_, fun _ => ⟨a, rfl, fun j p hj => ?_⟩⟩, ?_⟩
    · rw [hlen]; simp only [maxLen] at hm; omega
    · obtain ⟨c, h1, h2, _, h4⟩ := hxs j p hj
      exact ⟨c, h1, h2, h4⟩
    · intro x hx
      obtain ⟨i, hi⟩ := List.getElem?_of_mem hx
      obtain ⟨c, _, _, h3, _⟩ := hxs i x hi
      exact h3

/-- The fields from a place on. -/
def OpensF {α : Type} (P : Program) (fs : List Field) (off total : Nat) (d : Kd α) (good : α → Prop) : Prop :=
  ∀ (H : Type) (enc : TypeId × Value → H) (w : World) (base : Nat) (spare : Nat → Bool) (held : Bool) (n : Nat) (cs : List Value) (xs : List (DataW H × List MemPlace)),
    cs.length = total → xs.length = fs.length → (∀ (i : Nat) (f : Field), fs[i]? = some f → DataW.trod enc P w base spare held n f.type ((cs.drop f.offset).take (P.cellsOf f.type)) = xs[i]?) → ∃ y, d.K w y (cs.drop off) ∧ good y

theorem opens_last {α : Type} {P : Program} {f : Field} {off total : Nat} {d : Kd α} {good : α → Prop} (h : Opens P f.type d good) (ho : f.offset = off) (ht : total = off + P.cellsOf f.type) : OpensF P [f] off total d good := by
  intro H enc w base spare held n cs xs hcs hxl hx
  have h0 := hx 0 f rfl
  match xs, hxl with
  | [x0], _ =>
    obtain ⟨y, hy, hg⟩ := h H enc w base spare held n _ _ h0
    refine ⟨y, ?_, hg⟩
    rw [ho, List.take_of_length_le (by rw [List.length_drop]; omega)] at hy
    exact hy
theorem opens_more {α β : Type} {P : Program} {f : Field} {fs : List Field} {off total : Nat} {a : Kd α} {b : Kd β} {g1 : α → Prop} {g2 : β → Prop} (h : Opens P f.type a g1) (ho : f.offset = off)
    (hr : OpensF P fs (off + P.cellsOf f.type) total b g2) : OpensF P (f :: fs) off total (Kd.pair a b) (fun x => g1 x.1 ∧ g2 x.2) := by
  intro H enc w base spare held n cs xs hcs hxl hx
  match xs, hxl with
  | x0 :: xs, hxl =>
    obtain ⟨y, hy, hg⟩ := h H enc w base spare held n _ _ (hx 0 f rfl)
    obtain ⟨z, hz, hg'⟩ := hr H enc w base spare held n cs xs hcs (by simpa using hxl) (fun i f hi => hx (i + 1) f hi)
    refine ⟨(y, z), ⟨_, _, ?_, hy, hz⟩, hg, hg'⟩
    rw [ho, ← List.drop_drop, List.take_append_drop]
theorem opens_struct {α β : Type} {P : Program} {t : TypeId} {fs : Array Field} {d : Kd α} {good : α → Prop} (ht : P.underlying t = some (.struct fs)) (f : β → α) (g : α → β) (hfg : ∀ x, f (g x) = x)
    (h : OpensF P fs.toList 0 (P.cellsOf t) d good) : Opens P t (Kd.iso d f) (fun x => good (f x)) := by
  intro H enc w base spare held fuel cs x hx
  obtain ⟨xs, n, _, _, hcl, hxl, hf⟩ := DataW.trod_struct ht hx
  obtain ⟨y, hy, hg⟩ := h H enc w base spare held n cs xs hcl (by simpa using hxl) (fun i f hi => hf i f (by simpa using hi))
  refine ⟨g y, ?_, by show good (f (g y)); rw [hfg]; exact hg⟩
  rw [List.drop_zero] at hy
  show d.K w (f (g y)) cs
  rw [hfg]
  exact hy

/-- A slice that came in: its elements, and that it takes no more room than a row allows. -/
theorem slice_in {α H : Type} {enc : TypeId × Value → H} {P : Program} {W : World} {t e : TypeId} {d : Kd α} {good : α → Prop} (ht : P.underlying t = some (.slice e)) (ho : Opens P t (Kd.slice e d) (fun xs => ∀ x ∈ xs, good x))
    {a : Option Addr} {len cap : Nat} {dd : DataW H} {ps : List MemPlace} {ts : List TypeId} {ds : List (DataW H)} {j B : Nat} (h : DataW.Trod enc P W 0 (fun _ => true) true t (.slice a len cap) dd ps)
    (hsz : (DataW.weightsEach P ts ds).all (· ≤ reachBytes) = true) (hj : ts[j]? = some t) (hd : ds[j]? = some dd) (hB : P.bytesOf e = B) :
    ∃ xs : List α, len = xs.length ∧ xs.length ≤ cap ∧ d.C W a xs.length xs ∧ (∀ x ∈ xs, good x) ∧ xs.length * B ≤ 140737488351232 := by
  obtain ⟨fuel, hf⟩ := h
  obtain ⟨xs, ⟨A, c, hcs, hlc, hC⟩, hg⟩ := ho H enc W _ _ _ fuel _ _ hf
  simp [Value.cells] at hcs
  obtain ⟨rfl, rfl, rfl⟩ := hcs
  refine ⟨xs, rfl, hlc, hC, hg, ?_⟩
  rcases open_slice ht hf with ⟨hcs, _⟩ | ⟨a', len', cap', m, n, D, Pl, hcs, _, hl, hm, hmm, hx, _⟩
  · simp [Value.cells] at hcs
    simp [hcs]
  · simp [Value.cells] at hcs
    obtain ⟨_, hl2, _⟩ := hcs
    simp only [Prod.mk.injEq] at hx
    rw [hx.1] at hd
    have z := sized_slice hsz hj hd ht
    rw [hB] at z
    simp only [List.length_map, List.length_range] at z
    rw [hl2]
    exact Nat.le_trans (Nat.mul_le_mul_right _ (by omega)) z
/-- A string that came in. -/
theorem string_in {H : Type} {enc : TypeId × Value → H} {P : Program} {W : World} {t : TypeId} (ht : P.underlying t = some .string)
    {s : ByteArray} {dd : DataW H} {ps : List MemPlace} {ts : List TypeId} {ds : List (DataW H)} {j : Nat} (h : DataW.Trod enc P W 0 (fun _ => true) true t (.string s) dd ps)
    (hsz : (DataW.weightsEach P ts ds).all (· ≤ reachBytes) = true) (hj : ts[j]? = some t) (hd : ds[j]? = some dd) : s.size ≤ 140737488351232 := by
  obtain ⟨fuel, hf⟩ := h
  obtain ⟨s', hcs, hx, _⟩ := DataW.trod_string ht hf
  simp [Value.cells] at hcs
  subst hcs
  simp only [Prod.mk.injEq] at hx
  rw [hx.1] at hd
  have h1 := sized_string hsz hj hd
  have h2 : reachBytes = 140737488351232 := by decide
  rw [h2, Array.length_toList] at h1
  exact h1
end Go.Proofs.Ytahihhklijcghaa.Opn
