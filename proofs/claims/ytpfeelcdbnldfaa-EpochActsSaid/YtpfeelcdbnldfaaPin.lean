/-
  A slot is held: (*Epochs).Pin.
-/
import Derived.Test.YtpfeelcdbnldfaaEp
namespace Go.Proofs.Ytpfeelcdbnldfaa
open Go.RowKit Go.Proofs.YtpfeelcdbnldfaaW.PrintWords
set_option linter.unusedVariables false
set_option linter.unusedSimpArgs false
theorem Ep.drewN {W : World} {p n : Nat} {now : Int} {S : List Int} {v : Value} (h : Ep W p now S n v) (m : Nat) : Ep (W.drewN m) p now S n v := h

/-- What Pin leaves. -/
def Pinned (W : World) (p : Nat) (now : Int) (S : List Int) (n : Nat) (v : Value) (e : Ending) (w' : World) : Prop :=
  ((∃ i : Nat, i < n ∧ S.getD i 0 = 0 ∧ (∀ j, j < i → S.getD j 0 ≠ 0) ∧ e = .returned (.tuple #[.int .i64 i, .int .i64 0]) ∧ Ep w' p now (S.set i now) n v) ∨
    ((∀ j, j < n → S.getD j 0 ≠ 0) ∧ e = .returned (.tuple #[.int .i64 0, .int .i64 6]) ∧ Ep w' p now S n v)) ∧ Fr (fun k => k = p) W w'
set_option maxHeartbeats 1000000 in
set_option maxRecDepth 100000 in
theorem pin_c {W : World} {p n : Nat} {now : Int} {S : List Int} {v : Value} (h : Ep W p now S n v) :
    Calls Try.prog 12 #[.pointer (some ⟨p, 0, none⟩)] W (Pinned W p now S n v) := by
  have H := Aside0.mk h
  have h9 := h.cpins
  have h8 := h.1
  have hn8 := h.2.2.1
  have hn1 := h.2.1
  have hq : (n : Int) ≤ 8 := by omega
  clear h
  go_enter Try.func12, Try.ntmps12
  go_wp2_with fail
  refine (made_c H.out).mono ?_
  rintro e w1 ⟨rfl, rfl⟩
  go_wp2_with fail
  refine (load_c H.out.cnow).mono ?_
  rintro e w1 ⟨rfl, rfl⟩
  go_wp2_with fail
  go_quiet (fail)
  go_wp2_with fail
  have H2 := Aside0.mk (H.out.drewN nq)
  have HF := Aside0.mk ((Fr.refl (fun k => k = p) w1).drewN nq)
  generalize w1.drewN nq = w2 at H2 HF ⊢
  go_loop [22] (fun i => ∃ k : Nat, i = .int .i64 k ∧ k ≤ n ∧ Aside0 (∀ j, j < k → S.getD j 0 ≠ 0)) (fun i => n - (intOf i).toNat)
  case atStart => exact ⟨0, rfl, Nat.zero_le _, ⟨fun j hj => by omega⟩⟩
  case round =>
    obtain ⟨k, rfl, hk, HN⟩ := hrel
    by_cases hlt : k < n
    · have g1 : (k : Int) < (n : Int) := by omega
      have hk8 : k < 8 := by omega
      have hks : k < S.length := by omega
      have HC := Aside0.mk (H2.out.cslot k hks)
      have HS := Aside0.mk (H2.out.set_slot k hks now)
      have HG : Aside0 (S.getD k 0 = S[k]) := ⟨by rw [List.getD_eq_getElem?_getD, List.getElem?_eq_getElem hks]; rfl⟩
      generalize S[k] = x at HC HG
      by_cases hx : x = 0
      · subst hx
        go_wp2_with fail
        refine (cas_hit HC.out (H2.out.frozen _) now).mono ?_
        rintro e w3 ⟨rfl, rfl⟩
        go_wp2_with fail
        go_ret2
        exact ⟨Or.inl ⟨k, hlt, HG.out, HN.out, rfl, HS.out⟩, HF.out.setCell (Or.inl rfl) _⟩
      · have HX := Aside0.mk hx
        clear hx
        go_wp2_with fail
        refine (cas_miss HC.out (H2.out.frozen _) HX.out now).mono ?_
        rintro e w3 ⟨rfl, rfl⟩
        go_wp2_with fail
        go_round
        case rel => exact ⟨k + 1, by go_num, hlt, ⟨fun j hj => by
          rcases Nat.lt_or_ge j k with g | g
          · exact HN.out j g
          · have : j = k := by omega
            subst this
            rw [HG.out]
            exact HX.out⟩⟩
        case measure => simp [intOf]; omega
    · have hkl : k = n := by omega
      subst hkl
      go_wp2_with fail
      go_ret2
      exact ⟨Or.inr ⟨HN.out, rfl, H2.out⟩, HF.out⟩
end Go.Proofs.Ytpfeelcdbnldfaa
