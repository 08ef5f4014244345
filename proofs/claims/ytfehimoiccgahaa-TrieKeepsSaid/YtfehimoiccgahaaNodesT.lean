/-
  The document's Nodes of a trie's pairs (plain).
-/
import Derived.Test.YtfehimoiccgahaaRuns
namespace Go.Proofs.Ytfehimoiccgahaa
open Go.RowKit Go.Proofs.YtfehimoiccgahaaW.PrintWords Go.Proofs.YtfehimoiccgahaaW.PrintMore PTrieActs Nd
set_option linter.unusedVariables false
set_option linter.unusedSimpArgs false
abbrev pr79 (x : Nat × ByteArray) : S79 := ⟨(x.1 : Int), x.2⟩
theorem shr4 (m : Nat) : shr .i64 (m : Int) 16 = ((m / 16 ^ 4 : Nat) : Int) := by
  have : (2 : Int) ^ min (Int.toNat 16) (IntKind.bits .i64) = 65536 := by decide
  unfold shr
  rw [this]
  show _ = ((m / 65536 : Nat) : Int)
  omega
theorem shr3 (m : Nat) : shr .i64 (m : Int) 12 = ((m / 16 ^ 3 : Nat) : Int) := by
  have : (2 : Int) ^ min (Int.toNat 12) (IntKind.bits .i64) = 4096 := by decide
  unfold shr
  rw [this]
  show _ = ((m / 4096 : Nat) : Int)
  omega
theorem shr2 (m : Nat) : shr .i64 (m : Int) 8 = ((m / 16 ^ 2 : Nat) : Int) := by
  have : (2 : Int) ^ min (Int.toNat 8) (IntKind.bits .i64) = 256 := by decide
  unfold shr
  rw [this]
  show _ = ((m / 256 : Nat) : Int)
  omega
theorem shr1 (m : Nat) : shr .i64 (m : Int) 4 = ((m / 16 ^ 1 : Nat) : Int) := by
  have : (2 : Int) ^ min (Int.toNat 4) (IntKind.bits .i64) = 16 := by decide
  unfold shr
  rw [this]
  show _ = ((m / 16 : Nat) : Int)
  omega
theorem runs_le (q : Nat) : ∀ (F : List (Nat × ByteArray)) (last : Int), 0 ≤ runs q last F ∧ runs q last F ≤ F.length
  | [], last => ⟨Int.le_refl _, Int.le_refl _⟩
  | x :: F, last => by
    have h1 := runs_le q F last
    have h2 := runs_le q F ((x.1 / 16 ^ q : Nat) : Int)
    rw [runs, List.length_cons]
    generalize ((x.1 / 16 ^ q : Nat) : Int) = y at *
    split
    · omega
    · omega
theorem l1_stop {k : Nat} {l : List S79} {c p last i : Int} {R : Int} (h1 : ¬ i < (l.length : Int)) (hk : gouacheref06_Nodes.l0 k l c (wrap64 (p + 1)) = some R) : gouacheref06_Nodes.l1 (k + 1) l c p last l (l.length : Int) i = some R := by
  rw [gouacheref06_Nodes.l1, if_neg h1]
  exact hk
theorem l1_same {k : Nat} {l : List S79} {c p last i sh : Int} {R : Int} (h1 : i < (l.length : Int)) (h0 : 0 ≤ i) (hs : IntKind.u64.wrap (wrap64 (4 * (wrap64 (5 - p)))) = sh) (hs0 : 0 ≤ sh) (he : shr .i64 ((rd_T79 l i).f0) sh = last)
    (hk : gouacheref06_Nodes.l1 k l c p last l (l.length : Int) (wrap64 (i + 1)) = some R) : gouacheref06_Nodes.l1 (k + 1) l c p last l (l.length : Int) i = some R := by
  rw [gouacheref06_Nodes.l1, if_pos h1, if_pos h0, if_pos h1, hs, if_pos hs0, if_pos he]
  exact hk
theorem l1_other {k : Nat} {l : List S79} {c p last i sh y : Int} {R : Int} (h1 : i < (l.length : Int)) (h0 : 0 ≤ i) (hs : IntKind.u64.wrap (wrap64 (4 * (wrap64 (5 - p)))) = sh) (hs0 : 0 ≤ sh) (hy : shr .i64 ((rd_T79 l i).f0) sh = y) (he : ¬ y = last)
    (hk : gouacheref06_Nodes.l1 k l (wrap64 (c + 1)) p y l (l.length : Int) (wrap64 (i + 1)) = some R) : gouacheref06_Nodes.l1 (k + 1) l c p last l (l.length : Int) i = some R := by
  rw [gouacheref06_Nodes.l1, if_pos h1, if_pos h0, if_pos h1, hs, if_pos hs0, hy, if_neg he]
  exact hk
theorem nodes_l1 (F : List (Nat × ByteArray)) (hn : F.length ≤ 1000000000) (p sh : Int) (q : Nat) (R : Int) (hs : IntKind.u64.wrap (wrap64 (4 * (wrap64 (5 - p)))) = sh) (h0 : 0 ≤ sh) (hq : ∀ m : Nat, shr .i64 (m : Int) sh = ((m / 16 ^ q : Nat) : Int)) (hp : wrap64 (p + 1) = p + 1) :
    ∀ (d i : Nat) (c last : Int), i + d = F.length → 0 ≤ c → c ≤ 10000000000 + i → (∃ k, gouacheref06_Nodes.l0 k (F.map pr79) (c + runs q last (F.drop i)) (p + 1) = some R) →
      ∃ k, gouacheref06_Nodes.l1 k (F.map pr79) c p last (F.map pr79) ((F.map pr79).length : Int) (i : Int) = some R := by
  have hlen : (F.map pr79).length = F.length := List.length_map _
  have hrd : ∀ i (hi : i < F.length), (rd_T79 (F.map pr79) (i : Int)).f0 = ((F[i]).1 : Int) := fun i hi => by
    rw [rd79_at _ i (by rw [hlen]; exact hi), List.getElem_map]
  intro d
  induction d with
  | zero =>
    intro i c last h hc0 hc ⟨k, hk⟩
    refine ⟨k + 1, l1_stop (by omega) ?_⟩
    rw [List.drop_of_length_le (by omega)] at hk
    rw [hp]
    rw [runs, Int.add_zero] at hk
    exact hk
  | succ d ih =>
    intro i c last h hc0 hc ⟨k, hk⟩
    have hi : i < F.length := by omega
    have i1 : (i : Int) < ((F.map pr79).length : Int) := by omega
    have i0 : (0 : Int) ≤ (i : Int) := by omega
    have hnx : wrap64 ((i : Int) + 1) = ((i + 1 : Nat) : Int) := nx hi (by omega)
    have hw : wrap64 (c + 1) = c + 1 := IntWalk.wrap64_in _ (by omega)
    have a1 : i + 1 + d = F.length := by omega
    have a2 : c ≤ 10000000000 + ((i + 1 : Nat) : Int) := by omega
    have a3 : c + 1 ≤ 10000000000 + ((i + 1 : Nat) : Int) := by omega
    have a4 : 0 ≤ c + 1 := by omega
    have hx := hq (F[i]).1
    rw [← hrd i hi] at hx
    rw [List.drop_eq_getElem_cons hi, runs] at hk
    generalize (((F[i]).1 / 16 ^ q : Nat) : Int) = y at hx hk
    by_cases he : y = last
    · rw [if_pos he] at hk
      obtain ⟨k2, hk2⟩ := ih (i + 1) c last a1 hc0 a2 ⟨k, hk⟩
      exact ⟨k2 + 1, l1_same i1 i0 hs h0 (hx.trans he) (by rw [hnx]; exact hk2)⟩
    · rw [if_neg he, ← Int.add_assoc] at hk
      obtain ⟨k2, hk2⟩ := ih (i + 1) (c + 1) y a1 a4 a3 ⟨k, hk⟩
      exact ⟨k2 + 1, l1_other i1 i0 hs h0 hx he (by rw [hnx, hw]; exact hk2)⟩
theorem nodes_l0 (F : List (Nat × ByteArray)) (hn : F.length ≤ 1000000000) (p sh : Int) (q : Nat) (R : Int) (hs : IntKind.u64.wrap (wrap64 (4 * (wrap64 (5 - p)))) = sh) (h0 : 0 ≤ sh) (hq : ∀ m : Nat, shr .i64 (m : Int) sh = ((m / 16 ^ q : Nat) : Int)) (hp : wrap64 (p + 1) = p + 1) (hp4 : p ≤ 4) (c : Int) (hc0 : 0 ≤ c) (hc : c ≤ 10000000000)
    (h : ∃ k, gouacheref06_Nodes.l0 k (F.map pr79) (c + runs q (-1) F) (p + 1) = some R) : ∃ k, gouacheref06_Nodes.l0 k (F.map pr79) c p = some R := by
  obtain ⟨k, hk⟩ := nodes_l1 F hn p sh q R hs h0 hq hp F.length 0 c (-1) (by omega) hc0 (by omega) (by simpa using h)
  refine ⟨k + 1, ?_⟩
  simp only [gouacheref06_Nodes.l0]
  rw [if_pos hp4]
  exact hk
theorem nodes_f {t : Nd ByteArray} (hg : Nd.Good 4 t) (h0 : t ≠ .nil) (hn : t.size ≤ 1000000000) : ∃ k, gouacheref06_Nodes.f k (prs t) = some (frsh .nil t) := by
  have hl : (flat t 0).length ≤ 1000000000 := by have := flat_length (f := 0) hg; omega
  have hs := runs_sum 4 t 0 (fun _ => -1) hg h0 (fun q _ x _ e => by have h1 := Int.natCast_nonneg (x.1 / 16 ^ (q + 1)); rw [e] at h1; exact absurd h1 (by decide))
  simp only [sum] at hs
  unfold prs
  show ∃ k, gouacheref06_Nodes.f k ((flat t 0).map pr79) = _
  unfold gouacheref06_Nodes.f
  generalize flat t 0 = F at *
  have b1 := runs_le 1 F (-1)
  have b2 := runs_le 2 F (-1)
  have b3 := runs_le 3 F (-1)
  have b4 := runs_le 4 F (-1)
  refine nodes_l0 F hl 1 16 4 _ (by decide +kernel) (by decide) shr4 (by decide +kernel) (by decide) 1 (by decide) (by decide) ?_
  refine nodes_l0 F hl 2 12 3 _ (by decide +kernel) (by decide) shr3 (by decide +kernel) (by decide) _ (by omega) (by omega) ?_
  refine nodes_l0 F hl 3 8 2 _ (by decide +kernel) (by decide) shr2 (by decide +kernel) (by decide) _ (by omega) (by omega) ?_
  refine nodes_l0 F hl 4 4 1 _ (by decide +kernel) (by decide) shr1 (by decide +kernel) (by decide) _ (by omega) (by omega) ?_
  refine ⟨1, ?_⟩
  simp only [gouacheref06_Nodes.l0]
  rw [if_neg (by decide)]
  congr 1
  simp only [Nat.zero_add, Nat.reduceAdd] at hs
  omega
end Go.Proofs.Ytfehimoiccgahaa
