/-
  Chain of package cascade: the walk.
-/
import Derived.Test.YtahihhklijcghaaChn
import Derived.Test.YtahihhklijcghaaLaid
namespace Go.Proofs.Ytahihhklijcghaa
open Go.RowKit Go.Proofs.YtahihhklijcghaaW Go.Proofs.YtahihhklijcghaaW.PrintWords PCascadeSorts
open Go.Sort (Holds HoldsK flatK putRow putRowK)
set_option linter.unusedVariables false
set_option linter.unusedSimpArgs false
instance inh26 : Inhabited S26 := ⟨z26⟩
theorem cells_arr (L : List S26) (q : Nat) (hq : q < L.length) : L.toArray[q]! = L[q] := by
  rw [getElem!_pos _ q (by simpa using hq)]
  simp
theorem holds_row {W : World} {g c : Nat} {L : List S26} (h : Row8 26 W g c L) : HoldsK pe 8 W g 0 L.toArray := by
  intro j hj
  have hj2 : j < L.length * 8 := by simpa using hj
  have hq : j / 8 < L.length := by omega
  have hr : j % 8 < 8 := by omega
  have hg := Go.Sort.get_flatK pe 8 L.toArray j (by simpa using hj2)
  rw [hg, cells_arr L _ hq, Nat.zero_add]
  refine ⟨?_, h.frozen j⟩
  have hc := h.cell (j / 8) hq (j % 8) hr
  rw [show j / 8 * 8 + j % 8 = j by omega] at hc
  rw [hc, getElem!_pos _ (j % 8) hr]
  exact List.getElem?_eq_getElem hr
theorem C_of_holds {W : World} {g : Nat} {L : List S26} (hl : L.length ≤ 1000000) (h : HoldsK pe 8 W g 0 L.toArray) : Kd.C k26 W (some ⟨g, 0, none⟩) L.length L := by
  refine ⟨rfl, by first | omega | (unfold maxLen; omega), fun _ => ⟨_, rfl, fun j p hj => ⟨pe p, rfl, k26_mk W p, fun i u hu => ?_⟩⟩⟩
  obtain ⟨hjl, hjp⟩ := List.getElem?_eq_some_iff.1 hj
  have hi : i < 8 := (List.getElem?_eq_some_iff.1 hu).1
  have hc := (h.cell (i := j) (c := i) (by simpa using hjl) hi).1
  rw [cells_arr L j hjl, hjp, getElem!_pos _ i hi] at hc
  rw [List.getElem?_eq_getElem hi] at hu
  show W.cell? ((⟨g, 0, none⟩ : Addr).add (j * 8 + i)) = some u
  rw [Addr.add_lit, ← Nat.add_assoc, hc]
  exact hu
theorem agg26 : ∀ w, (isAgg 26).run Try.prog w = .ok true w := Try.isAgg26
theorem so26 : ∀ w, (Go.sizeOf 26).run Try.prog w = .ok 8 w := Try.sizeOf26
/-- What Reverse leaves. -/
theorem reverse_c {W : World} {g c : Nat} {L : List S26} (h : Row8 26 W g c L) (hl : L.length ≤ 1000000) :
    Calls Try.prog 33 #[.slice (some ⟨g, 0, none⟩) L.length c] W fun e w' => e = .returned (.tuple #[]) ∧ Kd.C k26 w' (some ⟨g, 0, none⟩) L.length L.reverse ∧ Below g W w' := by
  have hz : L.toArray.size = L.length := by simp
  have hh := holds_row h
  have hr := AnyQ.slices_Reverse revL 8 agg26 so26 pe (fun _ => rfl) (fun x v hv => pe_one x v hv) g 0 c L.toArray W hh (by rw [hz]; omega)
  rw [hz] at hr
  refine hr.mono ?_
  rintro e w' ⟨rfl, n, rfl⟩
  have hs : (flatK pe 8 L.toArray.reverse).size = (flatK pe 8 L.toArray).size := by simp
  have h0 : HoldsK pe 8 (Go.Sort.ahead W n) g 0 L.toArray := hh
  have h2 : HoldsK pe 8 (putRowK pe 8 (Go.Sort.ahead W n) g 0 L.toArray.reverse) g 0 L.toArray.reverse := Go.Sort.holds_putRow id _ g 0 _ _ h0 hs
  refine ⟨rfl, ?_, ?_⟩
  · have := C_of_holds (L := L.reverse) (by simpa using hl) (by simpa using h2)
    rw [List.length_reverse] at this
    simpa using this
  · refine ⟨rfl, rfl, rfl, by simp [putRowK, Go.Sort.ahead], fun k hk => ?_⟩
    show (W.heap.modify g _)[k]? = W.heap[k]?
    rw [Array.getElem?_modify, if_neg (by omega)]
theorem reverse_nil (A : Option Addr) (c : Nat) (W : World) : Calls Try.prog 33 #[.slice A 0 c] W fun e w' => e = .returned (.tuple #[]) ∧ w' = W := AnyQ.slices_Reverse_empty revL A c W
/-- All of a name, the winner first. -/
def chainE (l : List S26) (name : ByteArray) : List S26 := (sortE (l.filter (ofN name))).reverse
/-- What Chain leaves. -/
def Ch (W : World) (R : List S26) (e : Ending) (w' : World) : Prop := ∃ A c, e = .returned (.slice A R.length c) ∧ R.length ≤ c ∧ Kd.C k26 w' A R.length R ∧ Below W.heap.size W w' ∧ (R ≠ [] → ∃ g, A = some ⟨g, 0, none⟩)
set_option maxHeartbeats 2000000 in
set_option maxRecDepth 100000 in
theorem chain_c {W : World} {A : Option Addr} {c : Nat} {l : List S26} (name : ByteArray) (h : Kd.C k26 W A l.length l) (hc : l.length ≤ c) (hn : l.length ≤ 100) :
    Calls Try.prog 19 #[.slice A l.length c, .string name] W (Ch W (chainE l name)) := by
  have hb0 : Below W.heap.size W (W.alloc (.cells #[.string name] 9)) := (Below.refl _ _).alloc (Nat.le_refl _) _
  have hbx := heap_alloc_new W (.cells #[.string name] 9)
  have HCL := Aside0.mk (clone_c (Kd.C_below h hb0) hc (by omega))
  have HBX := Aside0.mk hbx
  have HB0 := Aside0.mk hb0
  have HN := Aside0.mk hn
  have HFN : Aside0 ((l.filter (ofN name)).length ≤ 100) := ⟨Nat.le_trans (List.length_filter_le _ _) hn⟩
  clear h hc hn hbx hb0
  go_enter Try.func19, Try.ntmps19
  go_wp2_with fail
  generalize W.alloc (.cells #[.string name] 9) = w1 at *
  refine HCL.out.mono ?_
  rintro e w2 ⟨v, rfl, hrw, hb⟩
  have HB2 := Aside0.mk (below_step HB0.out hb)
  have HBX2 := Aside0.mk (blk_below HBX.out hb)
  have HZ : Aside0 (W.heap.size ≤ w1.heap.size) := ⟨HB0.out.size⟩
  rcases hrw.cases with ⟨rfl, rfl⟩ | ⟨g, c2, rfl, hg, hrow⟩
  · clear hrw hb HCL
    have hce : chainE [] name = [] := rfl
    rw [hce]
    clear hce
    go_wp2_with fail
    refine (delete_nil w2 W.heap.size).mono ?_
    rintro e w3 ⟨rfl, rfl⟩
    go_wp2_with fail
    refine (sorts_c (l := []) (Kd.C_nil _ _) (by decide)).mono ?_
    rintro e w4 ⟨v, rfl, hrw, hb⟩
    have HB4 := Aside0.mk (below_step HB2.out hb)
    clear hb
    have h0 : sortE ([] : List S26) = [] := rfl
    rw [h0] at hrw
    obtain ⟨A4, c4, rfl, hl4⟩ := hrw.slice_
    obtain ⟨_, _, hC⟩ := hrw.C26
    have HC4 := Aside0.mk hC
    have HL4 := Aside0.mk hl4
    clear hrw h0 hl4 hC
    go_wp2_with fail
    refine (reverse_nil A4 c4 w4).mono ?_
    rintro e w5 ⟨rfl, rfl⟩
    go_wp2_with fail
    go_ret
    exact ⟨A4, c4, rfl, HL4.out, HC4.out, HB4.out, fun h => absurd rfl h⟩
  · have HD := Aside0.mk (delete_c (B := W.heap.size) (W0 := W) (name := name) (b := W.heap.size) ⟨hrow, HBX2.out⟩ (by have := HN.out; omega) HB2.out (Nat.le_trans HZ.out hg) HB2.out.size)
    clear hrow hrw hb hg HCL
    unfold delF at HD
    go_wp2_with fail
    refine HD.out.mono ?_
    rintro e w3 ⟨rfl, hrow, hb⟩
    obtain ⟨_, hle, hC⟩ := (hrow.rw_ (base := 0) (Nat.zero_le _)).C26
    have HS := Aside0.mk (sorts_c (c := c2) hC HFN.out)
    have HB3 := Aside0.mk hb
    clear hrow hb hC hle HD
    go_wp2_with fail
    refine HS.out.mono ?_
    rintro e w4 ⟨v, rfl, hrw, hb⟩
    have HB4 := Aside0.mk (below_step HB3.out hb)
    have HZ4 : Aside0 (W.heap.size ≤ w3.heap.size) := ⟨HB3.out.size⟩
    rcases hrw.cases with ⟨rfl, h0⟩ | ⟨g2, c4, rfl, hg2, hrow⟩
    · have hce : chainE l name = [] := by unfold chainE; rw [h0]; rfl
      have HCE := Aside0.mk hce
      clear hrw hb HS h0 hce
      go_wp2_with fail
      refine (reverse_nil none 0 w4).mono ?_
      rintro e w5 ⟨rfl, rfl⟩
      go_wp2_with fail
      go_ret
      rw [HCE.out]
      exact ⟨none, 0, rfl, Nat.le_refl _, Kd.C_nil _ _, HB4.out, fun h => absurd rfl h⟩
    · have HR := Aside0.mk (reverse_c hrow (by rw [sortE_length]; have := HFN.out; omega))
      have HL4 : Aside0 ((chainE l name).length = (sortE (l.filter (ofN name))).length) := ⟨by unfold chainE; rw [List.length_reverse]⟩
      have HLC : Aside0 ((sortE (l.filter (ofN name))).length ≤ c4) := ⟨by obtain ⟨_, _, _, _, h, _⟩ := hrow; exact h⟩
      have HG2 := Aside0.mk hg2
      clear hrw hb HS hg2 hrow
      go_wp2_with fail
      refine HR.out.mono ?_
      rintro e w5 ⟨rfl, hC, hb⟩
      have HC5 := Aside0.mk hC
      have HB5 := Aside0.mk (HB4.out.trans (hb.mono (Nat.le_trans HZ4.out HG2.out)))
      clear hC hb HR
      go_wp2_with fail
      go_ret
      have hl := HL4.out
      refine ⟨some ⟨g2, 0, none⟩, c4, by rw [hl]; rfl, by rw [hl]; exact HLC.out, by rw [hl]; exact HC5.out, HB5.out, fun _ => ⟨g2, rfl⟩⟩
end Go.Proofs.Ytahihhklijcghaa
