/-
  MemoFirst's plain law: what is kept by Put alone, and what Get tells of it.
-/
import Derived.Test.YtpgdehelamgbnaaAroundP
namespace Go.Proofs.Ytpgdehelamgbnaa
open Go.RowKit Go.Proofs.YtpgdehelamgbnaaW Go.Proofs.YtpgdehelamgbnaaW.PrintWords PMemoActs
set_option linter.unusedVariables false
set_option linter.unusedSimpArgs false
/-- Every entry is found from its own cell on; no two are for the same. -/
structure Inv (T : List (Option S31)) : Prop where
  path : ∀ i y, i < T.length → T.getD i none = some y → ∃ d, d < T.length ∧ (homeN T.length y.f0 y.f1 + d) % T.length = i ∧ ∀ j, j < d → T.getD ((homeN T.length y.f0 y.f1 + j) % T.length) none ≠ none
  inj : ∀ i j y z, i < T.length → j < T.length → T.getD i none = some y → T.getD j none = some z → y.f0 = z.f0 → y.f1 = z.f1 → i = j
def Stored (T : List (Option S31)) (y : S31) : Prop := ∃ i, i < T.length ∧ T.getD i none = some y
def HasKey (T : List (Option S31)) (ep nd : Int) : Prop := ∃ y, Stored T y ∧ y.f0 = ep ∧ y.f1 = nd
theorem keyed_true {ep nd : Int} {y : S31} : keyed ep nd y = true ↔ y.f0 = ep ∧ y.f1 = nd := by simp [keyed]
theorem keyed_false {ep nd : Int} {y : S31} : keyed ep nd y = false ↔ ¬ (y.f0 = ep ∧ y.f1 = nd) := by
  rw [← keyed_true]
  simp
theorem scan_hit_mem {ep nd : Int} {i : Nat} {y : S31} : ∀ {l : List (Nat × Option S31)}, scan ep nd l = .hit i y → ∃ c ∈ l, c.2 = some y ∧ keyed ep nd y = true
  | [], h => by cases h
  | (m, none) :: r, h => by cases h
  | (m, some z) :: r, h => by
    unfold scan at h
    split at h
    · next hk =>
      cases h
      exact ⟨_, List.mem_cons_self .., rfl, hk⟩
    · obtain ⟨c, hc, h1, h2⟩ := scan_hit_mem h
      exact ⟨c, List.mem_cons_of_mem _ hc, h1, h2⟩
theorem scan_find {ep nd : Int} : ∀ (l : List (Nat × Option S31)), (∀ c ∈ l, ∀ y, c.2 = some y → keyed ep nd y = false) →
    (scan ep nd l = .full ∧ ∀ c ∈ l, c.2 ≠ none) ∨ ∃ (d : Nat) (hd : d < l.length), scan ep nd l = .free l[d].1 ∧ l[d].2 = none ∧ ∀ j (hj : j < d), (l[j]'(by omega)).2 ≠ none
  | [], _ => .inl ⟨rfl, fun c hc => by cases hc⟩
  | (m, none) :: r, _ => .inr ⟨0, by simp, rfl, rfl, fun j hj => by omega⟩
  | (m, some z) :: r, h => by
    have hk := h _ (List.mem_cons_self ..) z rfl
    have e : scan ep nd ((m, some z) :: r) = scan ep nd r := by
      rw [scan, hk]
    rcases scan_find r (fun c hc => h c (List.mem_cons_of_mem _ hc)) with ⟨h1, h2⟩ | ⟨d, hd, h1, h2, h3⟩
    · refine .inl ⟨by rw [e]; exact h1, fun c hc => ?_⟩
      rcases List.mem_cons.1 hc with rfl | hc
      · simp
      · exact h2 c hc
    · refine .inr ⟨d + 1, by simpa using hd, by rw [e, h1]; simp, by simpa using h2, fun j hj => ?_⟩
      match j, hj with
      | 0, _ => simp
      | j + 1, hj => simpa using h3 j (by omega)
theorem line_mem {T : List (Option S31)} {h : Nat} {c : Nat × Option S31} (hc : c ∈ line T h) : ∃ i, i < T.length ∧ c = (i, T.getD i none) := by
  obtain ⟨j, hj, rfl⟩ := List.getElem_of_mem hc
  rw [line_length] at hj
  rw [line_at T h j hj]
  exact ⟨_, Nat.mod_lt _ (by omega), rfl⟩
section
variable {T : List (Option S31)}
theorem scan_stored (hI : Inv T) (hn : T.length ≤ 65536) {y : S31} (hs : Stored T y) : ∃ i, scan y.f0 y.f1 (line T (homeN T.length y.f0 y.f1)) = .hit i y := by
  obtain ⟨i, hi, hy⟩ := hs
  obtain ⟨d, hd, hdi, hp⟩ := hI.path i y hi hy
  have hh : homeN T.length y.f0 y.f1 < T.length := by
    rcases (homeN_spec T.length y.f0 y.f1 hn).2 with h | h
    · exact h
    · omega
  refine ⟨_, scan_hit_at d (line T (homeN T.length y.f0 y.f1)) (by rw [line_length]; exact hd) y (fun j hj => ?_) ?_ (keyed_true.2 ⟨rfl, rfl⟩)⟩
  · rw [line_at T _ j (by omega)]
    cases hz : T.getD ((homeN T.length y.f0 y.f1 + j) % T.length) none with
    | none => exact absurd hz (hp j hj)
    | some z =>
      refine ⟨z, rfl, ?_⟩
      rw [keyed_false]
      rintro ⟨e1, e2⟩
      have := hI.inj _ i z y (Nat.mod_lt _ (by omega)) hi hz hy e1 e2
      rw [← hdi] at this
      have := mod_inj hh (show j < T.length by omega) hd this
      omega
  · rw [line_at T _ d hd, hdi]
    exact hy
theorem get_stored (hI : Inv T) (hn : T.length ≤ 65536) {y : S31} (hs : Stored T y) : getT T y.f0 y.f1 = some y := by
  obtain ⟨i, h⟩ := scan_stored hI hn hs
  unfold getT
  rw [h]
theorem get_none {ep nd : Int} (hk : ¬ HasKey T ep nd) : getT T ep nd = none := by
  unfold getT
  split
  · next i y h =>
    obtain ⟨c, hc, h1, h2⟩ := scan_hit_mem h
    obtain ⟨j, hj, rfl⟩ := line_mem hc
    have h3 := keyed_true.1 h2
    exact absurd ⟨y, ⟨j, hj, h1⟩, h3.1, h3.2⟩ hk
  · rfl
theorem used_set : ∀ (T : List (Option S31)) (i : Nat) (y : S31), i < T.length → T.getD i none = none → used (T.set i (some y)) = used T + 1
  | u :: T, 0, y, _, h => by
    have hu : u = none := by simpa using h
    subst hu
    simp [used]
  | u :: T, i + 1, y, hi, h => by
    have ih := used_set T i y (by simpa using hi) (by simpa using h)
    unfold used at ih ⊢
    rw [List.set_cons_succ]
    cases u with
    | none => simpa using ih
    | some z => simpa using ih
theorem used_full (h : ∀ i, i < T.length → T.getD i none ≠ none) : used T = T.length := by
  unfold used
  rw [List.filter_eq_self.2]
  intro u hu
  obtain ⟨i, hi, rfl⟩ := List.getElem_of_mem hu
  have := h i hi
  rw [List.getD_eq_getElem?_getD, List.getElem?_eq_getElem hi] at this
  exact Option.isSome_iff_ne_none.2 this
theorem used_lt {i : Nat} (hi : i < T.length) (h : T.getD i none = none) : used T < T.length := by
  unfold used
  refine List.length_filter_lt_length_iff_exists.2 ⟨T[i], List.getElem_mem hi, ?_⟩
  rw [List.getD_eq_getElem?_getD, List.getElem?_eq_getElem hi] at h
  simp only [Option.getD_some] at h
  rw [h]
  simp
theorem put_has (hI : Inv T) (hn : T.length ≤ 65536) {y : S31} (hk : HasKey T y.f0 y.f1) : putB T y = false ∧ putT T y = T := by
  obtain ⟨z, hz, e1, e2⟩ := hk
  obtain ⟨i, h⟩ := scan_stored hI hn hz
  rw [e1, e2] at h
  unfold putB putT
  rw [h]
  exact ⟨rfl, rfl⟩
theorem put_not (hI : Inv T) (hn : T.length ≤ 65536) {y : S31} (hk : ¬ HasKey T y.f0 y.f1) :
    (used T < T.length ∧ putB T y = true ∧ Inv (putT T y) ∧ (∀ z, Stored (putT T y) z ↔ Stored T z ∨ z = y) ∧ used (putT T y) = used T + 1) ∨ (used T = T.length ∧ putB T y = false ∧ putT T y = T) := by
  have hall : ∀ c ∈ line T (homeN T.length y.f0 y.f1), ∀ z, c.2 = some z → keyed y.f0 y.f1 z = false := fun c hc z hz => by
    obtain ⟨j, hj, rfl⟩ := line_mem hc
    rw [keyed_false]
    rintro ⟨e1, e2⟩
    exact hk ⟨z, ⟨j, hj, hz⟩, e1, e2⟩
  rcases scan_find _ hall with ⟨h1, h2⟩ | ⟨d, hd, h1, h2, h3⟩
  · refine .inr ⟨used_full fun i hi => ?_, by unfold putB; rw [h1], by unfold putT; rw [h1]⟩
    have hh : homeN T.length y.f0 y.f1 < T.length := by
      rcases (homeN_spec T.length y.f0 y.f1 hn).2 with h | h
      · exact h
      · omega
    obtain ⟨j, hj, rfl⟩ := mod_surj hh hi
    have := h2 ((line T (homeN T.length y.f0 y.f1))[j]'(by rw [line_length]; exact hj)) (List.getElem_mem _)
    rw [line_at T _ j hj] at this
    exact this
  · rw [line_length] at hd
    rw [line_at T _ d hd] at h1 h2
    simp only at h1 h2
    have hlt : (homeN T.length y.f0 y.f1 + d) % T.length < T.length := Nat.mod_lt _ (by omega)
    have hp : ∀ j, j < d → T.getD ((homeN T.length y.f0 y.f1 + j) % T.length) none ≠ none := fun j hj => by
      have := h3 j hj
      rw [line_at T _ j (by omega)] at this
      exact this
    have hT : putT T y = T.set ((homeN T.length y.f0 y.f1 + d) % T.length) (some y) := by unfold putT; rw [h1]
    generalize hm : (homeN T.length y.f0 y.f1 + d) % T.length = m at *
    have hget : ∀ i, (T.set m (some y)).getD i none = if m = i then some y else T.getD i none := fun i => by
      rw [List.getD_eq_getElem?_getD, List.getElem?_set]
      by_cases e : m = i
      · subst e
        rw [if_pos rfl, if_pos hlt, if_pos rfl]
        rfl
      · rw [if_neg e, if_neg e, List.getD_eq_getElem?_getD]
    have hst : ∀ z, Stored (T.set m (some y)) z ↔ Stored T z ∨ z = y := fun z => by
      constructor
      · rintro ⟨i, hi, hz⟩
        rw [List.length_set] at hi
        rw [hget] at hz
        split at hz
        · cases hz
          exact .inr rfl
        · exact .inl ⟨i, hi, hz⟩
      · rintro (⟨i, hi, hz⟩ | rfl)
        · refine ⟨i, by rw [List.length_set]; exact hi, ?_⟩
          rw [hget, if_neg (fun e => by subst e; rw [h2] at hz; cases hz)]
          exact hz
        · exact ⟨m, by rw [List.length_set]; exact hlt, by rw [hget, if_pos rfl]⟩
    refine .inl ⟨used_lt hlt h2, by unfold putB; rw [h1], ?_, by rw [hT]; exact hst, by rw [hT]; exact used_set T m y hlt h2⟩
    rw [hT]
    refine ⟨fun i z hi hz => ?_, fun i j u v hi hj hu hv e1 e2 => ?_⟩
    · rw [List.length_set] at hi ⊢
      rw [hget] at hz
      split at hz
      · next e =>
        cases hz
        subst e
        exact ⟨d, hd, hm, fun j hj => by
          rw [hget]
          split
          · simp
          · exact hp j hj⟩
      · obtain ⟨d2, hd2, e2, hp2⟩ := hI.path i z hi hz
        exact ⟨d2, hd2, e2, fun j hj => by
          rw [hget]
          split
          · simp
          · exact hp2 j hj⟩
    · rw [List.length_set] at hi hj
      rw [hget] at hu hv
      split at hu <;> split at hv
      · omega
      · cases hu
        exact absurd ⟨v, ⟨j, hj, hv⟩, e1.symm, e2.symm⟩ hk
      · cases hv
        exact absurd ⟨u, ⟨i, hi, hu⟩, e1, e2⟩ hk
      · exact hI.inj i j u v hi hj hu hv e1 e2
end
/-- The table, and what was put into it. -/
def Ins (T : List (Option S31)) (n : Nat) (ins : List S31) : Prop := T.length = n ∧ Inv T ∧ (∀ y, Stored T y ↔ y ∈ ins) ∧ used T = ins.length
theorem ins_0 (n : Nat) : Ins (List.replicate n none) n [] := by
  have hg : ∀ i, (List.replicate n (none : Option S31)).getD i none = none := fun i => by
    rw [List.getD_eq_getElem?_getD, List.getElem?_replicate]
    split <;> rfl
  refine ⟨by simp, ⟨(fun i y _ h => by rw [hg] at h; cases h), (fun i j y z _ _ h => by rw [hg] at h; cases h)⟩, fun y => ⟨?_, fun h => by cases h⟩, ?_⟩
  · rintro ⟨i, _, h⟩
    rw [hg] at h
    cases h
  · simp [used]
def hasK (ins : List S31) (y : S31) : Bool := ins.any (keyed y.f0 y.f1)
theorem ins_has {T : List (Option S31)} {n : Nat} {ins : List S31} (h : Ins T n ins) (y : S31) : HasKey T y.f0 y.f1 ↔ hasK ins y = true := by
  unfold hasK
  rw [List.any_eq_true]
  constructor
  · rintro ⟨z, hz, e1, e2⟩
    exact ⟨z, (h.2.2.1 z).1 hz, keyed_true.2 ⟨e1, e2⟩⟩
  · rintro ⟨z, hz, hk⟩
    have := keyed_true.1 hk
    exact ⟨z, (h.2.2.1 z).2 hz, this.1, this.2⟩
/-- One act: what Put answers, and what was put behind it. -/
def insN (ins : List S31) (n : Nat) (y : S31) : List S31 := if hasK ins y = false ∧ ins.length < n then ins ++ [y] else ins
theorem ins_step {T : List (Option S31)} {n : Nat} {ins : List S31} (h : Ins T n ins) (hn : n ≤ 65536) (y : S31) :
    putB T y = (!hasK ins y && decide (ins.length < n)) ∧ Ins (putT T y) n (insN ins n y) := by
  have hl := h.1
  subst hl
  unfold insN
  by_cases hk : hasK ins y = true
  · obtain ⟨h1, h2⟩ := put_has h.2.1 hn ((ins_has h y).2 hk)
    rw [h1, h2, hk, if_neg (by simp)]
    exact ⟨rfl, h⟩
  · have hk2 : hasK ins y = false := by simpa using hk
    rcases put_not h.2.1 hn (fun e => hk ((ins_has h y).1 e)) with ⟨h1, h2, h3, h4, h5⟩ | ⟨h1, h2, h3⟩
    · rw [h.2.2.2] at h1
      rw [h2, hk2, decide_eq_true h1, if_pos ⟨rfl, h1⟩]
      refine ⟨rfl, putT_length T y, h3, fun z => ?_, ?_⟩
      · rw [h4, h.2.2.1, List.mem_append, List.mem_singleton]
      · rw [h5, h.2.2.2, List.length_append]
        rfl
    · rw [h.2.2.2] at h1
      rw [h2, h3, hk2, decide_eq_false (by omega), if_neg (by omega)]
      exact ⟨rfl, h⟩
theorem ins_get {T : List (Option S31)} {n : Nat} {ins : List S31} (h : Ins T n ins) (hn : n ≤ 65536) {y : S31} (hy : y ∈ ins) : getT T y.f0 y.f1 = some y :=
  get_stored h.2.1 (by rw [h.1]; exact hn) ((h.2.2.1 y).2 hy)
theorem ins_get_any {T : List (Option S31)} {n : Nat} {ins : List S31} (h : Ins T n ins) (hn : n ≤ 65536) (y : S31) : (getT T y.f0 y.f1).isSome = hasK ins y := by
  by_cases hk : hasK ins y = true
  · rw [hk]
    obtain ⟨z, hz, e1, e2⟩ := (ins_has h y).2 hk
    have := ins_get h hn ((h.2.2.1 z).1 hz)
    rw [e1, e2] at this
    rw [this]
    rfl
  · rw [get_none (fun e => hk ((ins_has h y).1 e))]
    simpa using hk
end Go.Proofs.Ytpgdehelamgbnaa
