/-
  No cell of these rows narrows 'for every input' (looked for: loops, veiled, ifaces, maps, wideKeys, modest, calm, conditions, laid).
  DERIVED. THE GIVEN ROWS OF THIS SEAT. 5 by the template 'for every input the law returns true; each argument reads behind the call as it read before'; 0 by the template 'total and deterministic' (their statements: YtpfeelcdbnldfaaTotals.lean).
  GIVEN WITH THE SEED: the statements are not yours to turn. If you find one false, say at which input.
  Laid BY PROGRAM, IN A SANDBOX (cutbox-rows.mjs): the forced cells as the released guide's own fill.sh prints them over the translation b81be69960b00084… (all of the seat's roots in one cut). By AI agents, Wed Nov 11 2026. No macro, syntax, notation, axiom, sorry.
-/
import Derived.Test.YtpfeelcdbnldfaaChecked
import GoSem.Claim
import GoSem.ClaimJoined
import GoSem.ClaimMapViews
import Derived.JoinedTies
import Derived.KernelRfl
namespace Go.Proofs.Ytpfeelcdbnldfaa
/- THE CELL 'sum', in the pinned program and in every row, IS THE sha256 OF THE DUMP (.gsa) THAT YtpfeelcdbnldfaaProg.lean LOADS. Nothing in Lean hashes anything: it is a label: what it is worth is what the hold of that sum in a sandbox is worth. -/
noncomputable def Try.pinned : Pinned := { name := "ytpfeelcdbnldfaa", sum := "b81be69960b00084b0a1d63723e0b59d3ea3f84460d94f8367c03da7df81c496", checked := Try.checked }
namespace Rows
def none {H : Type} : Left H := { results := [], args := [] }

/-- 'gouachelaw20.EpochSafe': WHATEVER THE INPUT: true; the input reads as it did. -/
def epochSafeSpec : ChangeSpec := { name := "epochSafe", fn := fun _ => fun
  | [d1, d2] => { results := [.lit (.bool true)], args := [d1, d2] }
  | _ => none }
def epochSafeRow : OpenClaim := { program := "ytpfeelcdbnldfaa", sum := "b81be69960b00084b0a1d63723e0b59d3ea3f84460d94f8367c03da7df81c496", func := "gouache/gouachelaw20.EpochSafe", spec := "epochSafe", inPlace := ["sync/atomic.StoreInt64", "sync/atomic.LoadInt64", "sync/atomic.CompareAndSwapInt64", "sync/atomic.AddInt64"], unfollowed := true, recurses := true, apart := false }
def EpochSafeSaid : Prop := epochSafeRow.holds Try.pinned (OpenSpec.ofChange epochSafeSpec)

/-- ITS FALSE NEIGHBOUR: 'it returns false'. Refute it at one input. -/
def epochSafeWrong : ChangeSpec := { name := "epochSafe", fn := fun _ => fun
  | [d1, d2] => { results := [.lit (.bool false)], args := [d1, d2] }
  | _ => none }
def EpochSafeWrongFalsely : Prop := epochSafeRow.holds Try.pinned (OpenSpec.ofChange epochSafeWrong)

/-- 'gouachelaw20.EpochNone': WHATEVER THE INPUT: true; the input reads as it did. -/
def epochNoneSpec : ChangeSpec := { name := "epochNone", fn := fun _ => fun
  | [d] => { results := [.lit (.bool true)], args := [d] }
  | _ => none }
def epochNoneRow : OpenClaim := { program := "ytpfeelcdbnldfaa", sum := "b81be69960b00084b0a1d63723e0b59d3ea3f84460d94f8367c03da7df81c496", func := "gouache/gouachelaw20.EpochNone", spec := "epochNone", inPlace := ["sync/atomic.LoadInt64", "sync/atomic.CompareAndSwapInt64", "sync/atomic.StoreInt64", "sync/atomic.AddInt64"], unfollowed := true, recurses := true, apart := false }
def EpochNoneSaid : Prop := epochNoneRow.holds Try.pinned (OpenSpec.ofChange epochNoneSpec)

/-- ITS FALSE NEIGHBOUR: 'it returns false'. Refute it at one input. -/
def epochNoneWrong : ChangeSpec := { name := "epochNone", fn := fun _ => fun
  | [d] => { results := [.lit (.bool false)], args := [d] }
  | _ => none }
def EpochNoneWrongFalsely : Prop := epochNoneRow.holds Try.pinned (OpenSpec.ofChange epochNoneWrong)

/-- 'gouachelaw20.EpochBusy': WHATEVER THE INPUT: true; the input reads as it did. -/
def epochBusySpec : ChangeSpec := { name := "epochBusy", fn := fun _ => fun
  | [d1, d2] => { results := [.lit (.bool true)], args := [d1, d2] }
  | _ => none }
def epochBusyRow : OpenClaim := { program := "ytpfeelcdbnldfaa", sum := "b81be69960b00084b0a1d63723e0b59d3ea3f84460d94f8367c03da7df81c496", func := "gouache/gouachelaw20.EpochBusy", spec := "epochBusy", inPlace := ["sync/atomic.StoreInt64", "sync/atomic.LoadInt64", "sync/atomic.CompareAndSwapInt64", "sync/atomic.AddInt64"], unfollowed := true, recurses := true, apart := false }
def EpochBusySaid : Prop := epochBusyRow.holds Try.pinned (OpenSpec.ofChange epochBusySpec)

/-- ITS FALSE NEIGHBOUR: 'it returns false'. Refute it at one input. -/
def epochBusyWrong : ChangeSpec := { name := "epochBusy", fn := fun _ => fun
  | [d1, d2] => { results := [.lit (.bool false)], args := [d1, d2] }
  | _ => none }
def EpochBusyWrongFalsely : Prop := epochBusyRow.holds Try.pinned (OpenSpec.ofChange epochBusyWrong)

/-- 'gouachelaw20.EpochMins': WHATEVER THE INPUT: true; the input reads as it did. -/
def epochMinsSpec : ChangeSpec := { name := "epochMins", fn := fun _ => fun
  | [d1, d2] => { results := [.lit (.bool true)], args := [d1, d2] }
  | _ => none }
def epochMinsRow : OpenClaim := { program := "ytpfeelcdbnldfaa", sum := "b81be69960b00084b0a1d63723e0b59d3ea3f84460d94f8367c03da7df81c496", func := "gouache/gouachelaw20.EpochMins", spec := "epochMins", inPlace := ["sync/atomic.StoreInt64", "sync/atomic.LoadInt64", "sync/atomic.CompareAndSwapInt64", "sync/atomic.AddInt64"], unfollowed := true, recurses := true, apart := false }
def EpochMinsSaid : Prop := epochMinsRow.holds Try.pinned (OpenSpec.ofChange epochMinsSpec)

/-- ITS FALSE NEIGHBOUR: 'it returns false'. Refute it at one input. -/
def epochMinsWrong : ChangeSpec := { name := "epochMins", fn := fun _ => fun
  | [d1, d2] => { results := [.lit (.bool false)], args := [d1, d2] }
  | _ => none }
def EpochMinsWrongFalsely : Prop := epochMinsRow.holds Try.pinned (OpenSpec.ofChange epochMinsWrong)

/-- 'gouachelaw20.EpochActs': WHATEVER THE INPUT: true; the input reads as it did. -/
def epochActsSpec : ChangeSpec := { name := "epochActs", fn := fun _ => fun
  | [d1, d2] => { results := [.lit (.bool true)], args := [d1, d2] }
  | _ => none }
def epochActsRow : OpenClaim := { program := "ytpfeelcdbnldfaa", sum := "b81be69960b00084b0a1d63723e0b59d3ea3f84460d94f8367c03da7df81c496", func := "gouache/gouachelaw20.EpochActs", spec := "epochActs", inPlace := ["sync/atomic.StoreInt64", "sync/atomic.LoadInt64", "sync/atomic.CompareAndSwapInt64", "sync/atomic.AddInt64"], unfollowed := true, recurses := true, apart := false }
def EpochActsSaid : Prop := epochActsRow.holds Try.pinned (OpenSpec.ofChange epochActsSpec)

/-- ITS FALSE NEIGHBOUR: 'it returns false'. Refute it at one input. -/
def epochActsWrong : ChangeSpec := { name := "epochActs", fn := fun _ => fun
  | [d1, d2] => { results := [.lit (.bool false)], args := [d1, d2] }
  | _ => none }
def EpochActsWrongFalsely : Prop := epochActsRow.holds Try.pinned (OpenSpec.ofChange epochActsWrong)

/- THE SECOND FORM. 'bulk': how many values and letters a reading holds, each counted each time it is reached (what is shared counts as often as it is met; a slice's spare places count too). A statement '..UptoSaid' is the law's where the arguments, and the package variables that the reading takes, are together of bulk at most 1048576: NARROWER than '..Said'. Prove '..Said' where nothing that the law and all that it calls make is longer than what came in: it says more and counts as full. Else prove '..UptoSaid'. A law counts once. -/
mutual
def uptoBulk {H : Type} : DataW H → Nat
  | .lit (.string bytes) => bytes.length + 1
  | .lit _ => 1
  | .nil => 1
  | .ptr d => uptoBulk d + 1
  | .slice elems spare => uptoBulkAll elems + uptoBulkAll spare + 1
  | .agg parts => uptoBulkAll parts + 1
  | .iface _ d => uptoBulk d + 1
  | .map entries => uptoBulkEntries entries + 1
  | .held _ => 1
def uptoBulkAll {H : Type} : List (DataW H) → Nat
  | [] => 0
  | d :: r => uptoBulk d + uptoBulkAll r
def uptoBulkEntries {H : Type} : List (Lit × DataW H) → Nat
  | [] => 0
  | x :: r => uptoBulkEntry x + uptoBulkEntries r
def uptoBulkEntry {H : Type} : Lit × DataW H → Nat
  | (.string bytes, d) => bytes.length + uptoBulk d + 1
  | (_, d) => uptoBulk d + 1
 end
def uptoSmall : (H : Type) → List (DataW H) → Bool := fun _ ds => decide (uptoBulkAll ds ≤ 1048576)
def OpenSpec.upto (s : _root_.Go.ChangeSpec) : _root_.Go.OpenSpec := { _root_.Go.OpenSpec.ofChange s with cond := some uptoSmall }

/-- 'gouachelaw20.EpochSafe', WHERE WHAT IT READS IS OF BULK AT MOST 1048576: true; the input reads as it did. -/
def epochSafeUptoRow : OpenClaim := { program := "ytpfeelcdbnldfaa", sum := "b81be69960b00084b0a1d63723e0b59d3ea3f84460d94f8367c03da7df81c496", func := "gouache/gouachelaw20.EpochSafe", spec := "epochSafe", inPlace := ["sync/atomic.StoreInt64", "sync/atomic.LoadInt64", "sync/atomic.CompareAndSwapInt64", "sync/atomic.AddInt64"], unfollowed := true, recurses := true, apart := false, narrowed := true }
def EpochSafeUptoSaid : Prop := epochSafeUptoRow.holds Try.pinned (OpenSpec.upto epochSafeSpec)

/-- 'gouachelaw20.EpochNone', WHERE WHAT IT READS IS OF BULK AT MOST 1048576: true; the input reads as it did. -/
def epochNoneUptoRow : OpenClaim := { program := "ytpfeelcdbnldfaa", sum := "b81be69960b00084b0a1d63723e0b59d3ea3f84460d94f8367c03da7df81c496", func := "gouache/gouachelaw20.EpochNone", spec := "epochNone", inPlace := ["sync/atomic.LoadInt64", "sync/atomic.CompareAndSwapInt64", "sync/atomic.StoreInt64", "sync/atomic.AddInt64"], unfollowed := true, recurses := true, apart := false, narrowed := true }
def EpochNoneUptoSaid : Prop := epochNoneUptoRow.holds Try.pinned (OpenSpec.upto epochNoneSpec)

/-- 'gouachelaw20.EpochBusy', WHERE WHAT IT READS IS OF BULK AT MOST 1048576: true; the input reads as it did. -/
def epochBusyUptoRow : OpenClaim := { program := "ytpfeelcdbnldfaa", sum := "b81be69960b00084b0a1d63723e0b59d3ea3f84460d94f8367c03da7df81c496", func := "gouache/gouachelaw20.EpochBusy", spec := "epochBusy", inPlace := ["sync/atomic.StoreInt64", "sync/atomic.LoadInt64", "sync/atomic.CompareAndSwapInt64", "sync/atomic.AddInt64"], unfollowed := true, recurses := true, apart := false, narrowed := true }
def EpochBusyUptoSaid : Prop := epochBusyUptoRow.holds Try.pinned (OpenSpec.upto epochBusySpec)

/-- 'gouachelaw20.EpochMins', WHERE WHAT IT READS IS OF BULK AT MOST 1048576: true; the input reads as it did. -/
def epochMinsUptoRow : OpenClaim := { program := "ytpfeelcdbnldfaa", sum := "b81be69960b00084b0a1d63723e0b59d3ea3f84460d94f8367c03da7df81c496", func := "gouache/gouachelaw20.EpochMins", spec := "epochMins", inPlace := ["sync/atomic.StoreInt64", "sync/atomic.LoadInt64", "sync/atomic.CompareAndSwapInt64", "sync/atomic.AddInt64"], unfollowed := true, recurses := true, apart := false, narrowed := true }
def EpochMinsUptoSaid : Prop := epochMinsUptoRow.holds Try.pinned (OpenSpec.upto epochMinsSpec)

/-- 'gouachelaw20.EpochActs', WHERE WHAT IT READS IS OF BULK AT MOST 1048576: true; the input reads as it did. -/
def epochActsUptoRow : OpenClaim := { program := "ytpfeelcdbnldfaa", sum := "b81be69960b00084b0a1d63723e0b59d3ea3f84460d94f8367c03da7df81c496", func := "gouache/gouachelaw20.EpochActs", spec := "epochActs", inPlace := ["sync/atomic.StoreInt64", "sync/atomic.LoadInt64", "sync/atomic.CompareAndSwapInt64", "sync/atomic.AddInt64"], unfollowed := true, recurses := true, apart := false, narrowed := true }
def EpochActsUptoSaid : Prop := epochActsUptoRow.holds Try.pinned (OpenSpec.upto epochActsSpec)

end Rows
end Go.Proofs.Ytpfeelcdbnldfaa
