/-
  What is found from a cell on, around; the first cell's number.
-/
import Derived.Test.YtpgdehelamgbnaaFrom
namespace Go.Proofs.Ytpgdehelamgbnaa
open Go.RowKit Go.Proofs.YtpgdehelamgbnaaW Go.Proofs.YtpgdehelamgbnaaW.PrintWords PMemoActs
set_option linter.unusedVariables false
set_option linter.unusedSimpArgs false
inductive Hit where
  | full
  | free (i : Nat)
  | hit (i : Nat) (y : S31)
/-- Is an entry one's? -/
def keyed (ep nd : Int) (y : S31) : Bool := y.f0 == ep && y.f1 == nd
def scan (ep nd : Int) : List (Nat × Option S31) → Hit
  | [] => .full
  | (i, none) :: _ => .free i
  | (i, some y) :: r => match keyed ep nd y with
    | true => .hit i y
    | false => scan ep nd r
/-- The cells from h on, around. -/
def line (T : List (Option S31)) (h : Nat) : List (Nat × Option S31) := (List.range T.length).map fun k => ((h + k) % T.length, T.getD ((h + k) % T.length) none)
def absT (L : List (Option (Nat × S31))) : List (Option S31) := L.map (Option.map Prod.snd)
theorem absT_length (L : List (Option (Nat × S31))) : (absT L).length = L.length := by simp [absT]
theorem absT_set (L : List (Option (Nat × S31))) (i : Nat) (u : Option (Nat × S31)) : absT (L.set i u) = (absT L).set i (u.map Prod.snd) := by simp [absT, List.map_set]
theorem absT_none (n : Nat) : absT (List.replicate n none) = List.replicate n none := by simp [absT]
/-- A cell of the line. -/
def cellOf (L : List (Option (Nat × S31))) (i : Fin L.length) : Nat × Option S31 := (i.val, (L[i.val]).map Prod.snd)
theorem line_seqv (L : List (Option (Nat × S31))) (h : Nat) : (seqv L h).map (cellOf L) = line (absT L) h := by
  apply List.ext_getElem
  · simp [seqv, line, absT_length]
  · intro k h1 h2
    have hk : k < L.length := by simpa [seqv] using h1
    have hn : 0 < L.length := by omega
    have hm : (h + k) % L.length < L.length := Nat.mod_lt _ hn
    simp [seqv, line, cellOf, absT, hm]
/-- Passed over. -/
def Passed (ep nd : Int) (L : List (Option (Nat × S31))) (i : Fin L.length) : Prop := ∃ b y, L[i.val] = some (b, y) ∧ keyed ep nd y = false
theorem scan_pass {ep nd : Int} {L : List (Option (Nat × S31))} : ∀ (pre r : List (Fin L.length)), (∀ i ∈ pre, Passed ep nd L i) → scan ep nd ((pre ++ r).map (cellOf L)) = scan ep nd (r.map (cellOf L))
  | [], r, _ => rfl
  | i :: pre, r, h => by
    obtain ⟨b, y, hy, hk⟩ := h i (List.mem_cons_self ..)
    have ih := scan_pass pre r (fun j hj => h j (List.mem_cons_of_mem _ hj))
    rw [List.cons_append, List.map_cons, ← ih]
    simp only [cellOf, hy, Option.map_some, scan, hk]
theorem scan_all {ep nd : Int} {L : List (Option (Nat × S31))} {h : Nat} (hp : ∀ i ∈ seqv L h, Passed ep nd L i) : scan ep nd (line (absT L) h) = .full := by
  have := scan_pass (seqv L h) [] hp
  rw [List.append_nil, line_seqv] at this
  rw [this]
  rfl
theorem scan_free {ep nd : Int} {L : List (Option (Nat × S31))} {h : Nat} {pre : List (Fin L.length)} {i : Fin L.length} (hs : pre ++ [i] <+: seqv L h) (hp : ∀ j ∈ pre, Passed ep nd L j) (hi : L[i.val] = none) : scan ep nd (line (absT L) h) = .free i.val := by
  obtain ⟨r, hr⟩ := hs
  rw [← line_seqv, ← hr, List.append_assoc, scan_pass pre _ hp]
  simp [cellOf, hi, scan]
theorem scan_hit {ep nd : Int} {L : List (Option (Nat × S31))} {h : Nat} {pre : List (Fin L.length)} {i : Fin L.length} {b : Nat} {y : S31} (hs : pre ++ [i] <+: seqv L h) (hp : ∀ j ∈ pre, Passed ep nd L j) (hi : L[i.val] = some (b, y)) (hk : keyed ep nd y = true) :
    scan ep nd (line (absT L) h) = .hit i.val y := by
  obtain ⟨r, hr⟩ := hs
  rw [← line_seqv, ← hr, List.append_assoc, scan_pass pre _ hp]
  simp [cellOf, hi, scan, hk]
def homeN (n : Nat) (ep nd : Int) : Nat := (homeI n ep nd).toNat
theorem homeN_spec (n : Nat) (ep nd : Int) (hn : n ≤ 65536) : homeI n ep nd = (homeN n ep nd : Int) ∧ (homeN n ep nd < n ∨ n = 0) := by
  unfold homeN homeI
  by_cases h0 : n = 0
  · subst h0
    simp
  · rw [if_neg h0]
    have hu : 0 ≤ IntKind.u64.wrap (IntKind.u64.wrap (IntKind.u64.wrap ep * 31) + IntKind.u64.wrap nd) := by
      generalize IntKind.u64.wrap (IntKind.u64.wrap ep * 31) + IntKind.u64.wrap nd = z
      unfold IntKind.wrap
      simp [IntKind.bits, IntKind.signed]
      omega
    generalize IntKind.u64.wrap (IntKind.u64.wrap (IntKind.u64.wrap ep * 31) + IntKind.u64.wrap nd) = z at *
    rw [Int.tmod_eq_emod_of_nonneg hu]
    have h1 := Int.emod_nonneg z (show (n : Int) ≠ 0 by omega)
    have h2 := Int.emod_lt_of_pos z (show (0 : Int) < n by omega)
    generalize z % (n : Int) = r at *
    have hw : wrap64 r = r := by unfold wrap64; omega
    rw [hw]
    omega
end Go.Proofs.Ytpgdehelamgbnaa
