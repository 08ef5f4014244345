/-
  Atomic pointers; a table's size, home, and what is in a cell.
-/
import Derived.Test.YtpgdehelamgbnaaTb
namespace Go.Proofs.Ytpgdehelamgbnaa
open Go.RowKit Go.Proofs.YtpgdehelamgbnaaW.PrintWords PMemoActs
set_option linter.unusedVariables false
set_option linter.unusedSimpArgs false
theorem conv_to {w : World} {x : Option Addr} (h : ∀ a, x = some a → ∃ v, w.cell? a = some v) : (convert 66 74 (.pointer x)).run Try.prog w = .ok (.pointer x) w := by
  cases x with
  | none => simp [convert, Conv.unsafePointer, run_underlying Try.underlying66, run_underlying Try.underlying74, Result.andThen]
  | some a =>
    obtain ⟨v, hv⟩ := h a rfl
    exact run_convert_to_unsafe Try.underlying66 Try.underlying74 (by kernel_rfl) hv
theorem lies31 : liesAt Try.prog Try.prog.depth 31 (3 / Try.prog.cellsOf 31) 0 31 1 = true := by kernel_rfl
theorem size31 : (Try.prog.info? 31).map (fun i => i.size) = some 3 := by kernel_rfl
theorem conv_from {w : World} {x : Option Addr} (h : ∀ a, x = some a → a.off = 0 ∧ a.spot = none ∧ ∃ c0 c1 c2, w.heap[a.block]? = some (.cells #[c0, c1, c2] 31 (0, 0))) : (convert 74 66 (.pointer x)).run Try.prog w = .ok (.pointer x) w := by
  cases x with
  | none => simp [convert, Conv.unsafePointer, run_underlying Try.underlying66, run_underlying Try.underlying74, Result.andThen]
  | some a =>
    obtain ⟨h0, h1, c0, c1, c2, hb⟩ := h a rfl
    obtain ⟨b, o, s⟩ := a
    simp only at h0 h1 hb
    subst h0
    subst h1
    obtain ⟨i, hi, hz⟩ := Option.map_eq_some_iff.1 size31
    have hl := lies31
    have hs : w.shape? b = some (31, 3) := by simp [World.shape?, hb]
    simp [convert, Conv.unsafePointer, Conv.seenAt, viewAt, variablesAt, sizeOf, typeInfo, hi, hz, hs, hl, run_underlying Try.underlying66, run_underlying Try.underlying74, Result.andThen]
theorem call_load {w : World} {a : Addr} {x : Option Addr} (hc : w.cell? a = some (.pointer x)) :
    (callFunc 39 #[.pointer (some a)]).run Try.prog w = .ok (.value (.pointer x)) w := by
  rw [run_callFunc_extern Try.func39 (by kernel_rfl) (by kernel_rfl) (by kernel_rfl) (e := Extern.Atomic.loadT .ptr) (by kernel_rfl)]
  change (Sem.run Try.prog (do Extern.Atomic.read .ptr (← asAddr (.pointer (some a)))) w).andThen _ = _
  simp [Extern.Atomic.read, asAddr, hc, Result.andThen]
theorem call_store {w : World} {a : Addr} {u : Value} {y : Option Addr} (hc : w.cell? a = some u) (hz : w.frozen? a = false) :
    (callFunc 38 #[.pointer (some a), .pointer y]).run Try.prog w = .ok (.value (.tuple #[])) (w.setCell a (.pointer y)) := by
  rw [run_callFunc_extern Try.func38 (by kernel_rfl) (by kernel_rfl) (by kernel_rfl) (e := Extern.Atomic.storeT) (by kernel_rfl)]
  change (Sem.run Try.prog (do
    store (← asAddr (.pointer (some a))) (.pointer y) .atomic
    pure Extern.Atomic.none_) w).andThen _ = _
  simp [asAddr, hc, hz, run_store Try.prog w a (.pointer y) .atomic rfl, Result.andThen, Extern.Atomic.none_]
theorem call_cas {w : World} {a : Addr} {x y : Option Addr} (hc : w.cell? a = some (.pointer x)) (hz : w.frozen? a = false) :
    (callFunc 37 #[.pointer (some a), .pointer none, .pointer y]).run Try.prog w = .ok (.value (.bool x.isNone)) (if x.isNone then w.setCell a (.pointer y) else w) := by
  rw [run_callFunc_extern Try.func37 (by kernel_rfl) (by kernel_rfl) (by kernel_rfl) (e := Extern.Atomic.casT .ptr) (by kernel_rfl)]
  change (Sem.run Try.prog (do
    let a' ← asAddr (.pointer (some a))
    if ← Extern.Atomic.touchesFrozen a' then unsupported (.unsafePointer "a write to bytes that a string shares")
    let eq ← match Extern.Atomic.T.ptr, ← Extern.Atomic.read .ptr a', Value.pointer none with
      | _, .int _ x, .int _ y => pure (x == y)
      | .ptr, .pointer x, .pointer y => samePointer x y
      | .int _, .pointer (some _), .int _ 0 | .int _, .int _ 0, .pointer (some _) => pure false
      | .int _, .pointer (some _), _ | .int _, _, .pointer (some _) => unsupported .addressObserved
      | _, _, _ => stuck "atomic.CompareAndSwap: old is no T"
    if eq then store a' (.pointer y) .atomic
    pure (Value.bool eq)) w).andThen _ = _
  cases x with
  | none => simp [Extern.Atomic.touchesFrozen, Extern.Atomic.read, asAddr, viewAt, World.shape?_isSome_of_cell? hc, hc, hz, samePointer, run_store Try.prog w a (.pointer y) .atomic rfl, Result.andThen]
  | some b => simp [Extern.Atomic.touchesFrozen, Extern.Atomic.read, asAddr, viewAt, World.shape?_isSome_of_cell? hc, hc, hz, samePointer, Result.andThen]
/-- What an entry's pointer leads to. -/
def Leads (w : World) (x : Option Addr) : Prop := ∀ a, x = some a → a.off = 0 ∧ a.spot = none ∧ ∃ c0 c1 c2, w.heap[a.block]? = some (.cells #[c0, c1, c2] 31 (0, 0))
theorem Leads.cell {w : World} {x : Option Addr} (h : Leads w x) : ∀ a, x = some a → ∃ v, w.cell? a = some v := by
  intro a ha
  obtain ⟨h0, h1, c0, c1, c2, hb⟩ := h a ha
  obtain ⟨b, o, s⟩ := a
  simp only at h0 h1 hb
  subst h0
  subst h1
  exact ⟨c0, (blk_cell hb 0).trans rfl⟩
set_option maxHeartbeats 1000000 in
theorem pload_c {W : World} {b off : Nat} {x : Option Addr} (h : W.cell? ⟨b, off, none⟩ = some (.pointer x)) (hl : Leads W x) :
    Calls Try.prog 36 #[.pointer (some ⟨b, off, none⟩)] W fun e w' => e = .returned (.pointer x) ∧ W = w' := by
  have h1 := call_load h
  have h2 := conv_from hl
  clear hl
  go_enter Try.func36, Try.ntmps36
  go_wp2_with fail
  go_ret
  exact ⟨rfl, rfl⟩
set_option maxHeartbeats 1000000 in
theorem pstore_c {W : World} {b off : Nat} {u : Value} (h : W.cell? ⟨b, off, none⟩ = some u) (hf : W.frozen? ⟨b, off, none⟩ = false) :
    Calls Try.prog 34 #[.pointer (some ⟨b, off, none⟩), .pointer none] W fun e w' => e = .returned (.tuple #[]) ∧ w' = W.setCell ⟨b, off, none⟩ (.pointer none) := by
  have h1 := call_store (y := none) h hf
  have h2 := conv_to (w := W) (x := none) (fun a ha => by cases ha)
  go_enter Try.func34, Try.ntmps34
  go_wp2_with fail
  refine bodyPost_end (results_none rfl _ _ _) rfl ?_
  exact ⟨rfl, rfl⟩
set_option maxHeartbeats 1000000 in
theorem pcas_c {W : World} {b off g : Nat} {x : Option Addr} {u : Value} (h : W.cell? ⟨b, off, none⟩ = some (.pointer x)) (hf : W.frozen? ⟨b, off, none⟩ = false) (hg : W.cell? ⟨g, 0, none⟩ = some u) :
    Calls Try.prog 33 #[.pointer (some ⟨b, off, none⟩), .pointer none, .pointer (some ⟨g, 0, none⟩)] W fun e w' => e = .returned (.bool x.isNone) ∧ w' = if x.isNone then W.setCell ⟨b, off, none⟩ (.pointer (some ⟨g, 0, none⟩)) else W := by
  have h1 := call_cas (y := some ⟨g, 0, none⟩) h hf
  have h2 := conv_to (w := W) (x := none) (fun a ha => by cases ha)
  have h3 := conv_to (w := W) (x := some ⟨g, 0, none⟩) (fun a ha => by cases ha; exact ⟨u, hg⟩)
  cases x with
  | none =>
    simp only [Option.isNone_none, if_true] at h1 ⊢
    go_enter Try.func33, Try.ntmps33
    go_wp2_with fail
    go_ret
    exact ⟨rfl, rfl⟩
  | some y =>
    simp only [Option.isNone_some] at h1 ⊢
    go_enter Try.func33, Try.ntmps33
    go_wp2_with fail
    go_ret
    exact ⟨rfl, rfl⟩
/-! ### Size, Home, at -/
set_option maxHeartbeats 1000000 in
theorem size_c {W : World} {F : Nat → Prop} {x : Option Addr} {q : Nat} {L : List (Option (Nat × S31))} (h : Tb W F x q L) :
    Calls Try.prog 27 #[.pointer x] W fun e w' => e = .returned (.int .i64 (L.length : Int)) ∧ W = w' := by
  obtain ⟨hl, he, h⟩ := h
  have HL := Aside0.mk hl
  clear he hl
  rcases h with ⟨rfl, rfl⟩ | ⟨p, A, c, is, rfl, hp, hb, hq⟩
  · go_enter Try.func27, Try.ntmps27
    go_wp2_with fail
    go_ret
    exact ⟨rfl, rfl⟩
  · have h0 : W.cell? ⟨p, 0, none⟩ = some (.slice A L.length c) := (blk_cell hb 0).trans rfl
    clear hb hq
    go_enter Try.func27, Try.ntmps27
    go_wp2_with fail
    go_ret
    exact ⟨rfl, rfl⟩
/-- The first cell for an epoch and node. -/
def homeI (n : Nat) (ep nd : Int) : Int := if n = 0 then 0 else wrap64 (Int.tmod (IntKind.u64.wrap (IntKind.u64.wrap (IntKind.u64.wrap ep * 31) + IntKind.u64.wrap nd)) (n : Int))
set_option maxHeartbeats 1000000 in
theorem home_c {W : World} {F : Nat → Prop} {x : Option Addr} {q : Nat} {L : List (Option (Nat × S31))} (h : Tb W F x q L) (ep nd : Int) :
    Calls Try.prog 16 #[.pointer x, .int .i64 ep, .int .i64 nd] W fun e w' => e = .returned (.int .i64 (homeI L.length ep nd)) ∧ W = w' := by
  have H := Aside0.mk h
  have hl : (L.length : Int) ≤ 65536 := by have := h.1; omega
  clear h
  unfold homeI
  by_cases hz : L.length = 0
  · have HZ := Aside0.mk hz
    go_enter Try.func16, Try.ntmps16
    go_wp2_with fail
    refine (size_c H.out).mono ?_
    rintro e w1 ⟨rfl, rfl⟩
    go_wp2_with fail
    go_ret
    exact ⟨rfl, rfl⟩
  · have hd : ((L.length : Int) == 0) = false := by simpa using hz
    have hz2 : ¬ L = [] := fun e => hz (by rw [e]; rfl)
    rw [if_neg hz]
    clear hz
    go_enter Try.func16, Try.ntmps16
    go_wp2_with fail
    refine (size_c H.out).mono ?_
    rintro e w1 ⟨rfl, rfl⟩
    go_wp2_with fail
    go_ret
    exact ⟨rfl, rfl⟩
end Go.Proofs.Ytpgdehelamgbnaa
