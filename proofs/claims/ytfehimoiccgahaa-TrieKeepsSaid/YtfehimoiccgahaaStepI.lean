/-
  Tries of numbers: what Put, Drop and Get do to what is there.
-/
import Derived.Test.YtfehimoiccgahaaLives
namespace Go.Proofs.Ytfehimoiccgahaa.I
open Go.RowKit Go.Proofs.YtfehimoiccgahaaW.PrintWords Go.Proofs.Ytfehimoiccgahaa
set_option linter.unusedVariables false
set_option linter.unusedSimpArgs false
section
variable {W : World} {p : Nat} {t : Nd Int}
theorem getV_val (t : Nd Int) (n : Int) : getV t n = if 0 ≤ n ∧ n < 1048576 then t.val n.toNat else none := rfl
/-- What Put leaves. -/
structure Ptd (W : World) (p : Nat) (t : Nd Int) (x : Int) (v : Int) (p' : Nat) (u : Nd Int) (w' : World) : Prop where
  tr : Tr w' p' u
  val : ∀ m, m < 1048576 → u.val m = if (m : Int) = x then some v else t.val m
  size : u.size ≤ t.size + 1
  below : Below W.heap.size W w'
  five : 0 ≤ x ∧ x < 1048576 → Nd.frsh t u = 5 ∧ u.size = t.size + (if t.val x.toNat = none then 1 else 0)
  few : Nd.frsh t u ≤ 5
  out : ¬ (0 ≤ x ∧ x < 1048576) → p' = p ∧ u = t
theorem put_s (h : Tr W p t) (hs : t.size ≤ 1000000) (x : Int) (v : Int) : Calls Try.prog 10 #[.pointer (some ⟨p, 0, none⟩), .int .i64 x, (Value.int .i64) v] W fun e w' => ∃ p' u, e = .returned (.pointer (some ⟨p', 0, none⟩)) ∧ Ptd W p t x v p' u w' := by
  by_cases hx : 0 ≤ x ∧ x < 1048576
  · obtain ⟨n, rfl⟩ : ∃ n : Nat, x = n := ⟨x.toNat, by omega⟩
    have hn : n < 1048576 := by omega
    refine (put_c h hs n hn v).mono ?_
    rintro e w' ⟨p', u, b, rfl, hT, hB⟩
    obtain ⟨_, _, h3, _, _⟩ := hT.2.spec h.2.2.1 (Nat.le_refl _) rfl
    have h5 := hT.2.five h.under h.2.2.1 (Nat.le_refl _) rfl rfl
    have h1 : (Nd.one (some (b, v)) : Int) = 1 := rfl
    have h0 := Nd.one_nonneg (Nd.look 4 t n)
    refine ⟨p', u, rfl, hT.1, fun m hm => ?_, by rw [h3, h1]; omega, hB, fun _ => ⟨h5, ?_⟩, by rw [h5]; decide, fun k => absurd hx k⟩
    · rw [hT.2.val h.2.2.1 hn hm]
      by_cases e : m = n
      · subst e
        rw [if_pos rfl, if_pos rfl]
        rfl
      · rw [if_neg e, if_neg (by omega)]
    · rw [h3, h1, Int.toNat_natCast]
      by_cases e : t.val n = none
      · rw [if_pos e, Nd.val_none.1 e]
        rfl
      · rw [if_neg e]
        rw [Nd.val_none] at e
        cases hl : Nd.look 4 t n with
        | none => exact absurd hl e
        | some y => rfl
  · refine (put_out h x (by omega) v).mono ?_
    rintro e w' ⟨rfl, hB⟩
    refine ⟨p, t, rfl, h.below hB, fun m hm => ?_, by omega, hB, fun k => absurd k hx, by rw [Nd.frsh_self]; decide, fun _ => ⟨rfl, rfl⟩⟩
    rw [if_neg (by omega)]
/-- What Drop leaves. -/
structure Dpd (W : World) (p : Nat) (t : Nd Int) (x : Int) (p' : Nat) (u : Nd Int) (w' : World) : Prop where
  tr : Tr w' p' u
  val : ∀ m, m < 1048576 → u.val m = if (m : Int) = x then none else t.val m
  size : u.size ≤ t.size
  size' : u.size = t.size - (if getV t x = none then 0 else 1)
  below : Below W.heap.size W w'
  few : Nd.frsh t u ≤ 5
  out : getV t x = none → p' = p ∧ u = t
theorem drop_s (h : Tr W p t) (hs : t.size ≤ 1000000) (x : Int) : Calls Try.prog 14 #[.pointer (some ⟨p, 0, none⟩), .int .i64 x] W fun e w' => ∃ p' u, e = .returned (.pointer (some ⟨p', 0, none⟩)) ∧ Dpd W p t x p' u w' := by
  refine (drop_c h hs x).mono ?_
  rintro e w' (⟨hg, rfl, hB⟩ | ⟨hg, p', u, rfl, hT, hB⟩)
  · refine ⟨p, t, rfl, h.below hB, fun m hm => ?_, Int.le_refl _, by rw [if_pos hg]; omega, hB, by rw [Nd.frsh_self]; decide, fun _ => ⟨rfl, rfl⟩⟩
    by_cases e : (m : Int) = x
    · subst e
      rw [getV_val, if_pos ⟨by omega, by omega⟩, Int.toNat_natCast] at hg
      rw [if_pos rfl, hg]
    · rw [if_neg e]
  · have hx : 0 ≤ x ∧ x < 1048576 := by
      rw [getV_val] at hg
      by_cases k : 0 ≤ x ∧ x < 1048576
      · exact k
      · rw [if_neg k] at hg
        exact absurd rfl hg
    obtain ⟨n, rfl⟩ : ∃ n : Nat, x = n := ⟨x.toNat, by omega⟩
    have hn : n < 1048576 := by omega
    rw [Int.toNat_natCast] at hT
    obtain ⟨_, _, h3, _, _⟩ := hT.2.spec h.2.2.1 (Nat.le_refl _) rfl
    have h1 : (Nd.one (none : Option (Nat × Int)) : Int) = 0 := rfl
    have h0 := Nd.one_nonneg (Nd.look 4 t n)
    have hl : Nd.one (Nd.look 4 t n) = 1 := by
      rw [getV_val, if_pos hx, Int.toNat_natCast, Ne, Nd.val_none] at hg
      cases hl : Nd.look 4 t n with
      | none => exact absurd hl hg
      | some y => rfl
    refine ⟨p', u, rfl, hT.1, fun m hm => ?_, by rw [h3, h1]; omega, by rw [h3, h1, if_neg hg, hl]; omega, hB, hT.2.fresh h.under h.2.2.1, fun k => absurd k hg⟩
    rw [hT.2.val h.2.2.1 hn hm]
    by_cases e : m = n
    · subst e
      rw [if_pos rfl, if_pos rfl]
      rfl
    · rw [if_neg e, if_neg (by omega)]
theorem new_size (a : Nat) : (Nd.node a (fun _ => (Nd.nil : Nd Int)) (fun _ => none) 0).size = 0 := rfl
end
end Go.Proofs.Ytfehimoiccgahaa.I
