/-
  Texts that are the same; light; the document's examples.
-/
import Derived.Test.YtpgdehelamgbnaaTm
namespace Go.Proofs.Ytpgdehelamgbnaa
open Go.RowKit Go.Proofs.YtpgdehelamgbnaaW Go.Proofs.YtpgdehelamgbnaaW.PrintWords PMemoActs
set_option linter.unusedVariables false
set_option linter.unusedSimpArgs false
theorem wrap_next {i : Int} {n : Nat} (h0 : 0 ≤ i) (h : i < (n : Int)) (hn : n ≤ 140737488355328) : wrap64 (i + 1) = i + 1 := by
  unfold wrap64
  omega
theorem texts_l0 (l : List ByteArray) (hn : l.length ≤ 140737488355328) : ∀ (d i : Nat), i + d = l.length → ∃ k, gouacheref14_Texts.l0 k l l (l.length : Int) (i : Int) = some true
  | 0, i, h => ⟨1, by
    simp only [gouacheref14_Texts.l0]
    rw [if_neg (by omega)]⟩
  | d + 1, i, h => by
    obtain ⟨k, hk⟩ := texts_l0 l hn d (i + 1) (by omega)
    refine ⟨k + 1, ?_⟩
    simp only [gouacheref14_Texts.l0]
    have hw : wrap64 ((i : Int) + 1) = ((i + 1 : Nat) : Int) := by rw [wrap_next (n := l.length) (by omega) (by omega) hn]; omega
    rw [if_pos (by omega), if_pos (by omega), if_pos (by omega), if_pos (by omega), if_pos trivial, hw]
    exact hk
theorem texts_c {W : World} {A B : Option Addr} {c d : Nat} {l : List ByteArray} (h1 : Kd.C Kd.string W A l.length l) (hc : l.length ≤ c) (h2 : Kd.C Kd.string W B l.length l) (hd : l.length ≤ d) (hn : l.length ≤ 8796093022200) :
    Calls Try.prog 13 #[.slice A l.length c, .slice B l.length d] W fun e w' => e = .returned (.bool true) ∧ Below W.heap.size W w' := by
  obtain ⟨k, hk⟩ := texts_l0 l (by omega) l.length 0 (by omega)
  refine (gouacheref14_Texts.calls k A c l B d l true W h1 hc h2 hd (by unfold gouacheref14_Texts.f; rw [if_pos rfl]; exact hk)).mono ?_
  rintro e w' ⟨he, hw⟩
  exact ⟨he, hw.below⟩
theorem same_c {W : World} {A B : Option Addr} {c d : Nat} {a b : Int} {l : List ByteArray} (h1 : Kd.C Kd.string W A l.length l) (hc : l.length ≤ c) (h2 : Kd.C Kd.string W B l.length l) (hd : l.length ≤ d) (hn : l.length ≤ 8796093022200) :
    Calls Try.prog 23 #[.agg #[.int .i64 a, .int .i64 b, .slice A l.length c], .agg #[.int .i64 a, .int .i64 b, .slice B l.length d]] W fun e w' => e = .returned (.bool true) ∧ Below W.heap.size W w' := by
  obtain ⟨k, hk⟩ := texts_l0 l (by omega) l.length 0 (by omega)
  exact gouachelaw19_same.calls k a b A c l a b B d l true W h1 hc h2 hd (by
    unfold gouachelaw19_same.f
    rw [if_pos rfl, if_pos rfl]
    unfold gouacheref14_Texts.f
    have hk0 : gouacheref14_Texts.l0 k l l (l.length : Int) 0 = some true := hk
    rw [if_pos rfl, hk0]
    rfl)
/-- Acts that a memory can hold. -/
def FitsA (l : List S33) : Prop := l.length ≤ 140737488355328 ∧ ∀ x ∈ l, x.f2.f2.length ≤ 8796093022200
theorem rd33_at (l : List S33) (i : Nat) (h : i < l.length) : rd_T33 l (i : Int) = l[i] := by
  unfold rd_T33
  rw [Int.toNat_natCast, List.getD_eq_getElem?_getD, List.getElem?_eq_getElem h]
  rfl
theorem light_l1 {l : List S33} (i : Nat) (hi : i < l.length) (hn : l.length ≤ 140737488355328) (next : ∀ x3 : Int, ∃ k r, gouachelaw19_light.l0 k x3 l (l.length : Int) ((i + 1 : Nat) : Int) = some r) (s : List ByteArray) (hs : s.length ≤ 8796093022200) :
    ∀ (d j : Nat), j + d = s.length → ∀ x3 : Int, ∃ k r, gouachelaw19_light.l1 k x3 l (l.length : Int) (i : Int) s (s.length : Int) (j : Int) = some r
  | 0, j, h, x3 => by
    obtain ⟨k, r, hk⟩ := next x3
    have hw : wrap64 ((i : Int) + 1) = ((i + 1 : Nat) : Int) := by rw [wrap_next (n := l.length) (by omega) (by omega) hn]; omega
    by_cases hx : x3 > 250
    · refine ⟨1, false, ?_⟩
      simp only [gouachelaw19_light.l1]
      rw [if_neg (by omega), if_pos hx]
    · refine ⟨k + 1, r, ?_⟩
      simp only [gouachelaw19_light.l1]
      rw [if_neg (by omega), if_neg hx, hw]
      exact hk
  | d + 1, j, h, x3 => by
    have hw : wrap64 ((j : Int) + 1) = ((j + 1 : Nat) : Int) := by rw [wrap_next (n := s.length) (by omega) (by omega) (by omega)]; omega
    obtain ⟨k, r, hk⟩ := light_l1 i hi hn next s hs d (j + 1) (by omega) (wrap64 (x3 + (wrap64 (((rdOf ByteArray.empty s (j : Int)).size : Int) / 200))))
    refine ⟨k + 1, r, ?_⟩
    simp only [gouachelaw19_light.l1]
    rw [if_pos (by omega), if_pos (by omega), if_pos (by omega), hw]
    exact hk
theorem light_l0 {l : List S33} (hf : FitsA l) : ∀ (d i : Nat), i + d = l.length → ∀ x3 : Int, ∃ k r, gouachelaw19_light.l0 k x3 l (l.length : Int) (i : Int) = some r
  | 0, i, h, x3 => ⟨1, true, by
    simp only [gouachelaw19_light.l0]
    rw [if_neg (by omega)]⟩
  | d + 1, i, h, x3 => by
    have hi : i < l.length := by omega
    obtain ⟨k, r, hk⟩ := light_l1 i hi hf.1 (fun x3 => light_l0 hf d (i + 1) (by omega) x3) (l[i]).f2.f2 (hf.2 _ (List.getElem_mem hi)) (l[i]).f2.f2.length 0 (by omega) (wrap64 (x3 + (wrap64 (1 + (wrap64 ((((l[i]).f2.f2).length : Int) / 20))))))
    refine ⟨k + 1, r, ?_⟩
    simp only [gouachelaw19_light.l0]
    rw [if_pos (by omega), if_pos (by omega), if_pos (by omega), rd33_at l i hi]
    exact hk
theorem light_c {W : World} {A : Option Addr} {c : Nat} {l : List S33} (h : Kd.C k33 W A l.length l) (hc : l.length ≤ c) (hf : FitsA l) :
    Calls Try.prog 9 #[.slice A l.length c] W fun e w' => ∃ b : Bool, e = .returned (.bool b) ∧ Below W.heap.size W w' := by
  obtain ⟨k, r, hr⟩ := light_l0 hf l.length 0 (by omega) 0
  refine (gouachelaw19_light.calls k A c l r W h hc hr).mono ?_
  intro e w' hp
  exact ⟨r, hp.1, hp.2⟩
/-- A row of texts that a call made. -/
theorem str_lit (w : World) (ss : List ByteArray) (hn : ss.length ≤ 8796093022200) : Kd.C Kd.string (w.alloc (.cells (strs ss).toArray 9)) (some ⟨w.heap.size, 0, none⟩) ss.length ss := by
  have h := World.ownsRow_lit (base := 0) (e := 9) (size := 1) w (strs ss).toArray ss.length (Nat.zero_le _) (by simp only [maxLen]; omega) (by simp [strs])
  obtain ⟨A, c, he, _, hr⟩ := str_reads (b := 0) (v := .slice (some ⟨w.heap.size, 0, none⟩) ss.length ss.length) (ss := ss) (by simpa using h)
  cases he
  exact hr
def bs (l : List UInt8) : ByteArray := ⟨l.toArray⟩
def T2 : List (Option S31) := [some ⟨1, 1, [bs [115]]⟩, some ⟨1, 3, [bs [116]]⟩]
theorem ex1 : putB (List.replicate 2 none) ⟨1, 1, [bs [115]]⟩ = true ∧ putT (List.replicate 2 none) ⟨1, 1, [bs [115]]⟩ = [some ⟨1, 1, [bs [115]]⟩, none] := ⟨by kernel_rfl, by kernel_rfl⟩
theorem ex2 : putB [some ⟨1, 1, [bs [115]]⟩, none] ⟨1, 3, [bs [116]]⟩ = true ∧ putT [some ⟨1, 1, [bs [115]]⟩, none] ⟨1, 3, [bs [116]]⟩ = T2 := ⟨by kernel_rfl, by kernel_rfl⟩
theorem ex3 : putB T2 ⟨1, 2, []⟩ = false ∧ putT T2 ⟨1, 2, []⟩ = T2 := ⟨by kernel_rfl, by kernel_rfl⟩
theorem ex4 : getT T2 1 3 = some ⟨1, 3, [bs [116]]⟩ ∧ getT T2 1 2 = none ∧ used T2 = 2 := ⟨by kernel_rfl, by kernel_rfl, by kernel_rfl⟩
theorem fits2 : Fits T2 := by
  intro y hy
  simp [T2] at hy
  rcases hy with rfl | rfl <;> decide
set_option maxHeartbeats 1000000 in
theorem lives_c {W : World} : Calls Try.prog 10 #[] W fun e w' => e = .returned (.bool true) ∧ Below W.heap.size W w' := by
  go_enter Try.func10, Try.ntmps10
  go_wp2_with fail
  refine (newT_c 2 (by decide)).mono ?_
  rintro e w1 ⟨p, rfl, ht, hb⟩
  have HT := Aside0.mk ht
  have HB := Aside0.mk hb
  clear ht hb
  go_wp2_with fail
  have hba := (Below.refl w1.heap.size w1).alloc (Nat.le_refl _) (.cells (strs [bs [115]]).toArray 9)
  have HK := Aside0.mk (str_lit w1 [bs [115]] (by decide))
  have HTA := Aside0.mk (HT.out.below hba)
  have HBA := Aside0.mk (below_step HB.out hba)
  clear hba HT HB
  change Calls Try.prog 11 _ (w1.alloc (.cells (strs [bs [115]]).toArray 9)) _
  refine (HTA.out.put_c (y := ⟨1, 1, [bs [115]]⟩) HK.out (by decide)).mono ?_
  rintro e w2 ⟨he, ht, hf⟩
  rw [ex1.1] at he
  subst he
  rw [ex1.2] at ht
  have HT := Aside0.mk (ht.mono (F' := fun k => W.heap.size ≤ k) (fun k hk _ => hk.elim id (fun h => Nat.le_trans HBA.out.size h)))
  have HB := Aside0.mk (HBA.out.trans (hf.to_below HBA.out.size (fun _ h => h)))
  clear ht hf HK HTA HBA
  go_wp2_with fail
  have hba := (Below.refl w2.heap.size w2).alloc (Nat.le_refl _) (.cells (strs [bs [116]]).toArray 9)
  have HK := Aside0.mk (str_lit w2 [bs [116]] (by decide))
  have HTA := Aside0.mk (HT.out.below hba)
  have HBA := Aside0.mk (below_step HB.out hba)
  clear hba HT HB
  change Calls Try.prog 11 _ (w2.alloc (.cells (strs [bs [116]]).toArray 9)) _
  refine (HTA.out.put_c (y := ⟨1, 3, [bs [116]]⟩) HK.out (by decide)).mono ?_
  rintro e w3 ⟨he, ht, hf⟩
  rw [ex2.1] at he
  subst he
  rw [ex2.2] at ht
  have HT := Aside0.mk (ht.mono (F' := fun k => W.heap.size ≤ k) (fun k hk _ => hk.elim id (fun h => Nat.le_trans HBA.out.size h)))
  have HB := Aside0.mk (HBA.out.trans (hf.to_below HBA.out.size (fun _ h => h)))
  clear ht hf HK HTA HBA
  go_wp2_with fail
  have HK : Aside0 (Kd.C Kd.string w3 none 0 []) := ⟨⟨rfl, by decide, fun h => absurd h (by decide)⟩⟩
  have HTA := HT
  have HBA := HB
  clear HT HB
  refine (HTA.out.put_c (y := ⟨1, 2, []⟩) HK.out (by decide)).mono ?_
  rintro e w4 ⟨he, ht, hf⟩
  rw [ex3.1] at he
  subst he
  rw [ex3.2] at ht
  have HT := Aside0.mk (ht.mono (F' := fun k => W.heap.size ≤ k) (fun k hk _ => hk.elim id (fun h => Nat.le_trans HBA.out.size h)))
  have HB := Aside0.mk (HBA.out.trans (hf.to_below HBA.out.size (fun _ h => h)))
  clear ht hf HK HTA HBA
  go_wp2_with fail
  refine (HT.out.get_c fits2 1 3).mono ?_
  rw [ex4.1]
  rintro e w5 ⟨hb, v, rfl, ho⟩
  obtain ⟨A1, c1, rfl, hc1, hr⟩ := str_reads ho
  have HT5 := Aside0.mk (HT.out.below hb)
  have HB5 := Aside0.mk (below_step HB.out hb)
  have HR5 := Aside0.mk hr
  clear hb ho hr HT HB
  go_wp2_with fail
  refine (HT5.out.get_c fits2 1 2).mono ?_
  rw [ex4.2.1]
  rintro e w6 ⟨hb, rfl⟩
  have HT6 := Aside0.mk (HT5.out.below hb)
  have HB6 := Aside0.mk (below_step HB5.out hb)
  obtain ⟨ad, hA, hcell⟩ := Kd.at_string (Kd.C_below HR5.out hb) 0 (by decide) (by decide)
  subst hA
  have hcell : w6.cell? ad = some (.string ⟨#[116]⟩) := by simpa [rdOf, bs, Addr.add] using hcell
  clear hb HT5 HB5 HR5
  go_wp2_with fail
  refine (HT6.out.used_c).mono ?_
  rw [ex4.2.2]
  rintro e w7 ⟨rfl, hb⟩
  have HB7 := Aside0.mk (below_step HB6.out hb)
  clear hb hcell
  go_wp2_with fail
  go_ret
  exact ⟨rfl, HB7.out⟩
end Go.Proofs.Ytpgdehelamgbnaa
