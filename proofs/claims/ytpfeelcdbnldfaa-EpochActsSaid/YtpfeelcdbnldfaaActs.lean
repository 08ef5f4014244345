/-
  What is done, as it came in: pairs of numbers in a slice.
-/
import Derived.Test.YtpfeelcdbnldfaaBusy
import Derived.Test.YtpfeelcdbnldfaaOpen
import Derived.Deep.CutRange
import Derived.Deep.DeepCutAuto
namespace Go.Proofs.Ytpfeelcdbnldfaa
open Go.RowKit Go.Proofs.YtpfeelcdbnldfaaW.PrintWords
set_option linter.unusedVariables false
set_option linter.unusedSimpArgs false

structure Ac where
  kind : Int
  n : Int
instance : Inhabited Ac := ⟨⟨0, 0⟩⟩
def kAc : Kd Ac := Kd.iso (Kd.pair (Kd.int .i64) (Kd.int .i64)) (fun x : Ac => (x.kind, x.n))
theorem kAc_open {w : World} {x : Ac} {cs : List Value} (h : kAc.K w x cs) : cs = [.int .i64 x.kind, .int .i64 x.n] := by
  obtain ⟨_, _, rfl, rfl, rfl⟩ := h
  exact rfl
/-- An act's cells. -/
theorem at_act {w : World} {A : Option Addr} {n : Nat} {xs : List Ac} (h : Kd.C kAc w A n xs) (i : Nat) (h1 : i < n) (hx : i < xs.length) : ∃ ad, A = some ad ∧ w.cell? (ad.add (i * 2)) = some (.int .i64 xs[i].kind) ∧ w.cell? ((ad.add (i * 2)).add 1) = some (.int .i64 xs[i].n) ∧
    w.cell? ⟨(ad.add (i * 2)).block, (ad.add (i * 2)).off + 1, none⟩ = some (.int .i64 xs[i].n) := by
  obtain ⟨ad, c, e, _, hK, hc0⟩ := Kd.C_get h ⟨0, 0⟩ i (by omega) (by omega)
  have hx2 : xs.getD (Int.toNat (i : Int)) ⟨0, 0⟩ = xs[i] := by
    rw [Int.toNat_natCast, List.getD_eq_getElem?_getD, List.getElem?_eq_getElem hx]
    rfl
  rw [hx2] at hK
  have hc : ∀ j u, c[j]? = some u → w.cell? (ad.add (i * 2 + j)) = some u := fun j u hj => by
    have := hc0 j u hj
    rw [Int.toNat_natCast] at this
    exact this
  obtain rfl := kAc_open hK
  refine ⟨ad, e, hc 0 _ rfl, ?_, ?_⟩
  · rw [Go.Deep.add_add]
    exact hc 1 _ rfl
  · rw [← add_field _ _ 1 (by omega)]
    exact hc 1 _ rfl
end Go.Proofs.Ytpfeelcdbnldfaa
