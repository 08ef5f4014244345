/-
  Which function a method of the pile behind an interface value is.
-/
import Derived.Test.YtahihhklijcghaaPl2
namespace Go.Proofs.Ytahihhklijcghaa
open Go.RowKit Go.Proofs.YtahihhklijcghaaW.PrintWords PCascadeSorts
theorem m_u : Try.prog.underlying 50 = some (.pointer 52) := by kernel_rfl
theorem meth_ptr (name : String) (f : FuncId) (hmi : (Try.prog.info? 50).map (fun i => (i.methods.find? (·.name == name)).map (fun m => (m.path.toList, m.func))) = some (some ([], some (f, true)))) (fuel : Nat) (W : World) (a : Addr) :
    (method (fuel + 1) 50 (.pointer (some a)) name).run Try.prog W = .ok (f, .pointer (some a)) W := by
  obtain ⟨i, hi, h2⟩ := Option.map_eq_some_iff.1 hmi
  obtain ⟨m, hm, h3⟩ := Option.map_eq_some_iff.1 h2
  simp only [Prod.mk.injEq] at h3
  obtain ⟨h4, h5⟩ := h3
  have hu := m_u
  have hf : ∀ t x, follow [] t x = pure (t, x) := fun t x => by unfold follow; rfl
  have hg : ∀ (W : World) (x : Value), (Place.get 50 (.val x)).run Try.prog W = .ok x W := fun _ _ => rfl
  rw [method]
  simp only [typeInfo, receiverAt]
  go_simp
theorem meth_val (name : String) (f : FuncId) (hmi : (Try.prog.info? 50).map (fun i => (i.methods.find? (·.name == name)).map (fun m => (m.path.toList, m.func))) = some (some ([], some (f, false)))) (fuel : Nat) {W : World} {p : Nat} {v : Value} (h : W.cell? ⟨p, 0, none⟩ = some v) :
    (method (fuel + 1) 50 (.pointer (some ⟨p, 0, none⟩)) name).run Try.prog W = .ok (f, v) W := by
  obtain ⟨i, hi, h2⟩ := Option.map_eq_some_iff.1 hmi
  obtain ⟨m, hm, h3⟩ := Option.map_eq_some_iff.1 h2
  simp only [Prod.mk.injEq] at h3
  obtain ⟨h4, h5⟩ := h3
  have hu := m_u
  have hf : ∀ t x, follow [] t x = pure (t, x) := fun t x => by unfold follow; rfl
  have hp : m.path = #[] := by
    have := congrArg List.toArray h4
    simpa using this
  have hag : ∀ w : World, (isAgg 52).run Try.prog w = .ok false w := fun w => by kernel_rfl
  have hg : ∀ (W : World) (x : Value), (Place.get 50 (.val x)).run Try.prog W = .ok x W := fun _ _ => rfl
  have hn : ∀ (W : World) (a : Addr) (s : String), (Builtin.ssaWrapNilChk_ #[50] 50 #[.pointer (some a), strVal "", strVal s]).run Try.prog W = .ok (.pointer (some a)) W := fun _ _ _ => rfl
  rw [method]
  simp only [typeInfo, receiverAt]
  go_simp
theorem m_less {W : World} {p : Nat} {v : Value} (h : W.cell? ⟨p, 0, none⟩ = some v) (n : Nat) : (method (n + 1) 50 (.pointer (some ⟨p, 0, none⟩)) "Less").run Try.prog W = .ok (78, v) W := meth_val "Less" 78 (by kernel_rfl) n h
theorem m_swap {W : World} {p : Nat} {v : Value} (h : W.cell? ⟨p, 0, none⟩ = some v) (n : Nat) : (method (n + 1) 50 (.pointer (some ⟨p, 0, none⟩)) "Swap").run Try.prog W = .ok (80, v) W := meth_val "Swap" 80 (by kernel_rfl) n h
theorem m_len {W : World} {p : Nat} {v : Value} (h : W.cell? ⟨p, 0, none⟩ = some v) (n : Nat) : (method (n + 1) 50 (.pointer (some ⟨p, 0, none⟩)) "Len").run Try.prog W = .ok (28, v) W := meth_val "Len" 28 (by kernel_rfl) n h
theorem m_push (W : World) (a : Addr) (n : Nat) : (method (n + 1) 50 (.pointer (some a)) "Push").run Try.prog W = .ok (26, .pointer (some a)) W := meth_ptr "Push" 26 (by kernel_rfl) n W a
theorem m_pop (W : World) (a : Addr) (n : Nat) : (method (n + 1) 50 (.pointer (some a)) "Pop").run Try.prog W = .ok (79, .pointer (some a)) W := meth_ptr "Pop" 79 (by kernel_rfl) n W a
end Go.Proofs.Ytahihhklijcghaa
