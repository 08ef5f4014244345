/-
  The document's functions at lists that are read, in one form; what is light is short.
-/
import Derived.Test.YtfehimoiccgahaaPutR
import Derived.Test.YtfehimoiccgahaaSame
namespace Go.Proofs.Ytfehimoiccgahaa
open Go.RowKit Go.Proofs.YtfehimoiccgahaaW.PrintWords PTrieActs
set_option linter.unusedVariables false
set_option linter.unusedSimpArgs false
/-- What is told is a list that is read. -/
def Told (W : World) (r : List S79) (e : Ending) (w' : World) : Prop := ∃ A c, e = .returned (.slice A r.length c) ∧ r.length ≤ c ∧ Kd.C k79 w' A r.length r ∧ Below W.heap.size W w'
section
variable {W : World} {A : Option Addr} {c : Nat} {l : List S79}
theorem dropL_length (n : Int) (l : List S79) : (dropL n l).length ≤ l.length := List.length_filter_le _ _
theorem drop_r (n : Int) (hC : Kd.C k79 W A l.length l) (hc : l.length ≤ c) (hn : l.length ≤ 1000000000) : Calls Try.prog 19 #[.slice A l.length c, .int .i64 n] W (Told W (dropL n l)) := by
  obtain ⟨k, hk⟩ := drop_f n l (by omega)
  refine (gouacheref06_Drop.calls k A c l n _ W hC hc hk).mono ?_
  rintro e w' ⟨v, rfl, hR, hB⟩
  obtain ⟨A', c', rfl, hc', hr⟩ := Kd.R_reads hR
  exact ⟨A', c', rfl, hc', hr, hB⟩
def putL (n : Int) (v : ByteArray) (l : List S79) : List S79 := if 0 ≤ n ∧ n < 1048576 then insL n v false l else l
theorem put_r (n : Int) (v : ByteArray) (hC : Kd.C k79 W A l.length l) (hc : l.length ≤ c) (hn : l.length ≤ 1000000000) : Calls Try.prog 21 #[.slice A l.length c, .int .i64 n, .string v] W (Told W (putL n v l)) := by
  by_cases hin : 0 ≤ n ∧ n < 1048576
  · obtain ⟨k, hk⟩ := put_f n v l (by omega)
    refine (put_in k (fun _ => False) A c l n v _ W hC hc hin.1 hin.2 hk).mono ?_
    rintro e w' ⟨v, rfl, hR, hB, _⟩
    obtain ⟨A', c', rfl, hc', hr⟩ := Kd.R_reads hR
    exact ⟨A', c', rfl, hc', hr, hB⟩
  · have hp : putL n v l = l := if_neg hin
    have HP := Aside0.mk hp
    have HC := Aside0.mk hC
    have HL := Aside0.mk hc
    clear hp hC hc
    by_cases h0 : n < 0
    · clear hin
      go_enter Try.func21, Try.ntmps21
      go_wp2_with fail
      go_ret
      rw [HP.out]
      exact ⟨A, c, rfl, HL.out, HC.out, Below.refl _ _⟩
    · have h1 : 1048576 ≤ n := by omega
      clear hin
      go_enter Try.func21, Try.ntmps21
      go_wp2_with fail
      go_ret
      rw [HP.out]
      exact ⟨A, c, rfl, HL.out, HC.out, Below.refl _ _⟩
theorem get_r (n : Int) (hC : Kd.C k79 W A l.length l) (hc : l.length ≤ c) (hn : l.length ≤ 1000000000) : Calls Try.prog 23 #[.slice A l.length c, .int .i64 n] W fun e w' => e = .returned (.tuple #[.string (getR (getL n l)).1, .bool (getR (getL n l)).2]) ∧ Below W.heap.size W w' := by
  obtain ⟨k, hk⟩ := get_f n l (by omega)
  exact gouacheref06_Get.calls k A c l n _ _ W hC hc hk
end
/-- Texts that fit into a memory. -/
def Fits (l : List S40) : Prop := ∀ x ∈ l, x.f2.size ≤ 140737488351232
theorem weight {a : Nat} (ha : a ≤ 140737488351232) {n : Int} (h0 : 0 ≤ n) (h1 : n ≤ 150) : n + 1 ≤ wrap64 (n + (wrap64 (1 + (wrap64 (((a : Int)) / 50))))) := by
  have e2 : (a : Int) / 50 = ((a / 50 : Nat) : Int) := by omega
  rw [e2]
  have hq : a / 50 ≤ 2814749767025 := by omega
  generalize a / 50 = q at *
  have e3 : wrap64 (q : Int) = (q : Int) := by unfold wrap64; omega
  rw [e3]
  have e4 : wrap64 (1 + (q : Int)) = 1 + (q : Int) := by unfold wrap64; omega
  rw [e4]
  unfold wrap64
  omega
theorem rd40_at (l : List S40) (i : Nat) (h : i < l.length) : rd_T40 l (i : Int) = l[i] := by
  unfold rd_T40
  rw [Int.toNat_natCast, List.getD_eq_getElem?_getD, List.getElem?_eq_getElem h]
  rfl
theorem nx40 {i n : Nat} (h : i < n) (hn : n ≤ 1000000000000000) : wrap64 ((i : Int) + 1) = ((i + 1 : Nat) : Int) := by
  rw [IntWalk.wrap64_in _ (by omega)]
  omega
theorem light_l0 {l : List S40} (hf : Fits l) (hn : l.length ≤ 1000000000000000) : ∀ (d : Nat) (n : Int) (i : Nat), i + d = l.length → 0 ≤ n → n ≤ 150 → ∃ k b, gouachelaw06_light.l0 k n l (l.length : Int) (i : Int) = some b ∧ (b = true → n + ((l.length : Int) - (i : Int)) ≤ 150)
  | 0, n, i, hi, h0, h1 => ⟨1, true, by
    simp only [gouachelaw06_light.l0]
    rw [if_neg (by omega)], fun _ => by omega⟩
  | d + 1, n, i, hi, h0, h1 => by
    have hlt : i < l.length := by omega
    have hw := weight (hf l[i] (List.getElem_mem hlt)) h0 h1
    by_cases hm : wrap64 (n + (wrap64 (1 + (wrap64 (((l[i].f2.size : Int)) / 50))))) > 150
    · refine ⟨1, false, ?_, fun e => by cases e⟩
      simp only [gouachelaw06_light.l0]
      rw [if_pos (by omega), if_pos (by omega), if_pos (by omega), rd40_at l i hlt, if_pos hm]
    · obtain ⟨k, b, hk, hb⟩ := light_l0 hf hn d (wrap64 (n + (wrap64 (1 + (wrap64 (((l[i].f2.size : Int)) / 50)))))) (i + 1) (by omega) (by omega) (by omega)
      refine ⟨k + 1, b, ?_, fun e => by have := hb e; omega⟩
      simp only [gouachelaw06_light.l0]
      rw [if_pos (by omega), if_pos (by omega), if_pos (by omega), rd40_at l i hlt, if_neg hm, nx40 hlt hn, hk]
theorem light_c {W : World} {A : Option Addr} {c : Nat} {l : List S40} (h : Kd.C k40 W A l.length l) (hc : l.length ≤ c) (hf : Fits l) (hn : l.length ≤ 1000000000000000) :
    Calls Try.prog 16 #[.slice A l.length c] W fun e w' => ∃ b : Bool, e = .returned (.bool b) ∧ Aside0 (b = true → l.length ≤ 150) ∧ Below W.heap.size W w' := by
  obtain ⟨k, b, hk, hb⟩ := light_l0 hf hn l.length 0 0 (by omega) (Int.le_refl _) (by decide)
  refine (gouachelaw06_light.calls k A c l b W h hc hk).mono ?_
  rintro e w' ⟨he, hB⟩
  exact ⟨b, he, ⟨fun e => by have := hb e; omega⟩, hB⟩
end Go.Proofs.Ytfehimoiccgahaa
