/-
  What is there in a trie, told by its numbers; the document's examples are as it says.
-/
import Derived.Test.YtfehimoiccgahaaKeys
import Derived.Test.YtfehimoiccgahaaTrieS
import Derived.Test.YtfehimoiccgahaaTrieI
namespace Go.Proofs.Ytfehimoiccgahaa
open Go.RowKit Go.Proofs.YtfehimoiccgahaaW.PrintWords
set_option linter.unusedVariables false
set_option linter.unusedSimpArgs false
namespace Nd
variable {V : Type}
/-- What is there for a number. -/
def val (t : Nd V) (m : Nat) : Option V := (look 4 t m).map Prod.snd
theorem val_none {t : Nd V} {m : Nat} : val t m = none ↔ look 4 t m = none := by
  unfold val
  cases look 4 t m with
  | none => simp
  | some x => simp
theorem With.val {B n : Nat} {hv : Option (Nat × V)} {t u : Nd V} (h : With B n hv (one hv - one (look 4 t n)) 4 t u) (hg : Good 4 t) (hn : n < 1048576) {m : Nat} (hm : m < 1048576) : u.val m = if m = n then hv.map Prod.snd else t.val m := by
  obtain ⟨_, _, _, h4, _⟩ := h.spec hg (Nat.le_refl _) rfl
  unfold Nd.val
  rw [h4]
  by_cases e : m = n
  · subst e
    rw [if_pos (same_refl _ _), if_pos rfl]
  · rw [if_neg (fun k => e (same_eq hm hn k)), if_neg e]
theorem same_mod (m : Nat) : same 4 m (m % 1048576) := fun i hi => by
  have := dig_mod (r := 4) (i := i) (m := m) hi
  rw [show 16 ^ (4 + 1) = 1048576 by decide] at this
  exact this.symm
theorem keys_of {t : Nd V} {L : List Nat} (hL : ∀ x, x ∈ L → x < 1048576) (h : ∀ m, m < 1048576 → (t.val m ≠ none ↔ m ∈ L)) : Keys 4 t L := by
  intro m
  have hs := same_mod m
  have hlt : m % 1048576 < 1048576 := Nat.mod_lt _ (by decide)
  have h1 := h (m % 1048576) hlt
  rw [Ne, val_none] at h1
  rw [look_same hs]
  refine h1.trans ⟨fun h2 => ⟨_, h2, hs⟩, fun ⟨x, hx, h2⟩ => ?_⟩
  have : m % 1048576 = x := same_eq hlt (hL x hx) (same_trans (same_symm hs) h2)
  rw [this]
  exact hx
end Nd
open Nd
/-- The empty trie. -/
theorem val_new {V : Type} (a : Nat) (m : Nat) : (Nd.node a (fun _ => (Nd.nil : Nd V)) (fun _ => none) 0).val m = none := by
  rw [Nd.val_none]
  exact look_nil 3 m
set_option maxHeartbeats 1000000 in
set_option maxRecDepth 100000 in
theorem lives_c (w : World) : Calls Try.prog 8 #[] w fun e w' => e = .returned (.bool true) ∧ Below w.heap.size w w' := by
  go_enter Try.func8, Try.ntmps8
  go_wp2_with fail
  refine (S.new_c w).mono ?_
  rintro e w1 ⟨rfl, hT, hB⟩
  have HT0 := Aside0.mk hT
  have HB := Aside0.mk hB
  clear hT hB
  go_wp2_with fail
  refine (S.put_c HT0.out (show (0 : Int) ≤ 1000000 by decide) 1 (by decide) ⟨#[97]⟩).mono ?_
  rintro e w2 ⟨p1, u1, b1, rfl, hT, hB⟩
  have hs1 : u1.size = 1 := by
    obtain ⟨_, _, h3, _⟩ := hT.2.spec HT0.out.2.2.1 (Nat.le_refl _) rfl
    rw [h3, Nd.val_none.1 (val_new _ _)]
    rfl
  have HV1 : Aside0 (∀ m, m < 1048576 → u1.val m = if m = 1 then some ⟨#[97]⟩ else none) := ⟨fun m hm => by
    rw [hT.2.val HT0.out.2.2.1 (by decide) hm, val_new]
    rfl⟩
  have HT1 := Aside0.mk hT.1
  have HB1 := Aside0.mk (below_step HB.out hB)
  have HS1 := Aside0.mk hs1
  clear hT hB hs1
  go_wp2_with fail
  refine (S.put_c HT1.out (by rw [HS1.out]; decide) 2 (by decide) ⟨#[98]⟩).mono ?_
  rintro e w3 ⟨p2, u2, b2, rfl, hT, hB⟩
  have hl2 : Nd.look 4 u1 2 = none := Nd.val_none.1 (by rw [HV1.out 2 (by decide)]; rfl)
  have hs2 : u2.size = 2 := by
    obtain ⟨_, _, h3, _⟩ := hT.2.spec HT1.out.2.2.1 (Nat.le_refl _) rfl
    rw [h3, hl2, HS1.out]
    rfl
  have HV2 : Aside0 (∀ m, m < 1048576 → u2.val m = if m = 2 then some ⟨#[98]⟩ else u1.val m) := ⟨fun m hm => by
    rw [hT.2.val HT1.out.2.2.1 (by decide) hm]
    rfl⟩
  have HF : Aside0 (Nd.frsh u1 u2 = 5) := ⟨by
    have := hT.2.five (HT1.out.under) HT1.out.2.2.1 (Nat.le_refl _) rfl rfl
    rw [this]
    rfl⟩
  have HT2 := Aside0.mk hT.1
  have HT1' := Aside0.mk (HT1.out.below hB)
  have HB2 := Aside0.mk (below_step HB1.out hB)
  have HS2 := Aside0.mk hs2
  have HN : Aside0 (Nd.frsh .nil u2 = 5) := ⟨by
    rw [Nd.nodes_eq HT2.out.2.2.1 HT2.out.2.1 (Nd.keys_of (L := [1, 2]) (fun x hx => by simp at hx; omega) (fun m hm => by
      rw [HV2.out m hm, HV1.out m hm]
      by_cases e1 : m = 1
      · subst e1; simp
      · by_cases e2 : m = 2
        · subst e2; simp
        · simp [e1, e2]))]
    decide⟩
  have HG : Aside0 (S.retG (S.getV u2 1) = .tuple #[.string ⟨#[97]⟩, .bool true]) := ⟨by
    have h1 : S.getV u2 1 = u2.val 1 := rfl
    rw [h1, HV2.out 1 (by decide), if_neg (by decide), HV1.out 1 (by decide), if_pos rfl]
    rfl⟩
  clear hT hB hs2 hl2
  go_wp2_with fail
  refine (S.get_c HT2.out 1).mono ?_
  rintro e w4 ⟨rfl, hB⟩
  have HT3 := Aside0.mk (HT2.out.below hB)
  have HT13 := Aside0.mk (HT1'.out.below hB)
  have HB3 := Aside0.mk (below_step HB2.out hB)
  clear hB
  rw [HG.out]
  go_wp2_with fail
  refine (S.len_c HT3.out).mono ?_
  rintro e w5 ⟨rfl, rfl⟩
  rw [HS2.out]
  go_wp2_with fail
  refine (S.nodes_c HT3.out).mono ?_
  rintro e w5 ⟨rfl, rfl⟩
  rw [HN.out]
  go_wp2_with fail
  refine (S.Fresh_c HT13.out HT3.out).mono ?_
  rintro e w6 ⟨rfl, hB⟩
  have HT14 := Aside0.mk (HT13.out.below hB)
  have HB4 := Aside0.mk (below_step HB3.out hB)
  clear hB
  rw [HF.out]
  go_wp2_with fail
  refine (S.len_c HT14.out).mono ?_
  rintro e w7 ⟨rfl, rfl⟩
  rw [HS1.out]
  go_wp2_with fail
  go_ret
  exact ⟨rfl, HB4.out⟩
end Go.Proofs.Ytfehimoiccgahaa
