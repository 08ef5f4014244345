/-
  No cell of these rows narrows 'for every input' (looked for: loops, veiled, ifaces, maps, wideKeys, modest, calm, conditions, laid).
  DERIVED. THE GIVEN ROWS OF THIS SEAT. 5 by the template 'for every input the law returns true; each argument reads behind the call as it read before'; 0 by the template 'total and deterministic' (their statements: YtpgdehelamgbnaaTotals.lean).
  GIVEN WITH THE SEED: the statements are not yours to turn. If you find one false, say at which input.
  Laid BY PROGRAM, IN A SANDBOX (cutbox-rows.mjs): the forced cells as the released guide's own fill.sh prints them over the translation a8bf670dc27b5e13… (all of the seat's roots in one cut). By AI agents, Wed Nov 11 2026. No macro, syntax, notation, axiom, sorry.
-/
import Derived.Test.YtpgdehelamgbnaaChecked
import GoSem.Claim
import GoSem.ClaimJoined
import GoSem.ClaimMapViews
import Derived.JoinedTies
import Derived.KernelRfl
namespace Go.Proofs.Ytpgdehelamgbnaa
/- THE CELL 'sum', in the pinned program and in every row, IS THE sha256 OF THE DUMP (.gsa) THAT YtpgdehelamgbnaaProg.lean LOADS. Nothing in Lean hashes anything: it is a label: what it is worth is what the hold of that sum in a sandbox is worth. -/
noncomputable def Try.pinned : Pinned := { name := "ytpgdehelamgbnaa", sum := "a8bf670dc27b5e135d35941563e3836e00ca86e8936fa95992f8541b6326755b", checked := Try.checked }
namespace Rows
def none {H : Type} : Left H := { results := [], args := [] }

/-- 'gouachelaw19.MemoFirst': WHATEVER THE INPUT: true; the input reads as it did. -/
def memoFirstSpec : ChangeSpec := { name := "memoFirst", fn := fun _ => fun
  | [d1, d2] => { results := [.lit (.bool true)], args := [d1, d2] }
  | _ => none }
def memoFirstRow : OpenClaim := { program := "ytpgdehelamgbnaa", sum := "a8bf670dc27b5e135d35941563e3836e00ca86e8936fa95992f8541b6326755b", func := "gouache/gouachelaw19.MemoFirst", spec := "memoFirst", inPlace := ["sync/atomic.LoadPointer", "sync/atomic.CompareAndSwapPointer"], unfollowed := true, recurses := true, apart := false }
def MemoFirstSaid : Prop := memoFirstRow.holds Try.pinned (OpenSpec.ofChange memoFirstSpec)

/-- ITS FALSE NEIGHBOUR: 'it returns false'. Refute it at one input. -/
def memoFirstWrong : ChangeSpec := { name := "memoFirst", fn := fun _ => fun
  | [d1, d2] => { results := [.lit (.bool false)], args := [d1, d2] }
  | _ => none }
def MemoFirstWrongFalsely : Prop := memoFirstRow.holds Try.pinned (OpenSpec.ofChange memoFirstWrong)

/-- 'gouachelaw19.MemoOwn': WHATEVER THE INPUT: true; the input reads as it did. -/
def memoOwnSpec : ChangeSpec := { name := "memoOwn", fn := fun _ => fun
  | [d1, d2, d3] => { results := [.lit (.bool true)], args := [d1, d2, d3] }
  | _ => none }
def memoOwnRow : OpenClaim := { program := "ytpgdehelamgbnaa", sum := "a8bf670dc27b5e135d35941563e3836e00ca86e8936fa95992f8541b6326755b", func := "gouache/gouachelaw19.MemoOwn", spec := "memoOwn", inPlace := ["sync/atomic.LoadPointer", "sync/atomic.CompareAndSwapPointer"], unfollowed := true, recurses := true, apart := false }
def MemoOwnSaid : Prop := memoOwnRow.holds Try.pinned (OpenSpec.ofChange memoOwnSpec)

/-- ITS FALSE NEIGHBOUR: 'it returns false'. Refute it at one input. -/
def memoOwnWrong : ChangeSpec := { name := "memoOwn", fn := fun _ => fun
  | [d1, d2, d3] => { results := [.lit (.bool false)], args := [d1, d2, d3] }
  | _ => none }
def MemoOwnWrongFalsely : Prop := memoOwnRow.holds Try.pinned (OpenSpec.ofChange memoOwnWrong)

/-- 'gouachelaw19.MemoAround': WHATEVER THE INPUT: true; the input reads as it did. -/
def memoAroundSpec : ChangeSpec := { name := "memoAround", fn := fun _ => fun
  | [d1, d2] => { results := [.lit (.bool true)], args := [d1, d2] }
  | _ => none }
def memoAroundRow : OpenClaim := { program := "ytpgdehelamgbnaa", sum := "a8bf670dc27b5e135d35941563e3836e00ca86e8936fa95992f8541b6326755b", func := "gouache/gouachelaw19.MemoAround", spec := "memoAround", inPlace := ["sync/atomic.LoadPointer", "sync/atomic.CompareAndSwapPointer"], unfollowed := true, recurses := true, apart := false }
def MemoAroundSaid : Prop := memoAroundRow.holds Try.pinned (OpenSpec.ofChange memoAroundSpec)

/-- ITS FALSE NEIGHBOUR: 'it returns false'. Refute it at one input. -/
def memoAroundWrong : ChangeSpec := { name := "memoAround", fn := fun _ => fun
  | [d1, d2] => { results := [.lit (.bool false)], args := [d1, d2] }
  | _ => none }
def MemoAroundWrongFalsely : Prop := memoAroundRow.holds Try.pinned (OpenSpec.ofChange memoAroundWrong)

/-- 'gouachelaw19.MemoActs': WHATEVER THE INPUT: true; the input reads as it did. -/
def memoActsSpec : ChangeSpec := { name := "memoActs", fn := fun _ => fun
  | [d1, d2] => { results := [.lit (.bool true)], args := [d1, d2] }
  | _ => none }
def memoActsRow : OpenClaim := { program := "ytpgdehelamgbnaa", sum := "a8bf670dc27b5e135d35941563e3836e00ca86e8936fa95992f8541b6326755b", func := "gouache/gouachelaw19.MemoActs", spec := "memoActs", inPlace := ["sync/atomic.LoadPointer", "sync/atomic.CompareAndSwapPointer", "sync/atomic.StorePointer"], unfollowed := true, recurses := true, apart := false }
def MemoActsSaid : Prop := memoActsRow.holds Try.pinned (OpenSpec.ofChange memoActsSpec)

/-- ITS FALSE NEIGHBOUR: 'it returns false'. Refute it at one input. -/
def memoActsWrong : ChangeSpec := { name := "memoActs", fn := fun _ => fun
  | [d1, d2] => { results := [.lit (.bool false)], args := [d1, d2] }
  | _ => none }
def MemoActsWrongFalsely : Prop := memoActsRow.holds Try.pinned (OpenSpec.ofChange memoActsWrong)

/-- 'gouachelaw19.MemoNone': WHATEVER THE INPUT: true; the input reads as it did. -/
def memoNoneSpec : ChangeSpec := { name := "memoNone", fn := fun _ => fun
  | [d] => { results := [.lit (.bool true)], args := [d] }
  | _ => none }
def memoNoneRow : OpenClaim := { program := "ytpgdehelamgbnaa", sum := "a8bf670dc27b5e135d35941563e3836e00ca86e8936fa95992f8541b6326755b", func := "gouache/gouachelaw19.MemoNone", spec := "memoNone", inPlace := ["sync/atomic.StorePointer", "sync/atomic.LoadPointer", "sync/atomic.CompareAndSwapPointer"], unfollowed := true, recurses := true, apart := false }
def MemoNoneSaid : Prop := memoNoneRow.holds Try.pinned (OpenSpec.ofChange memoNoneSpec)

/-- ITS FALSE NEIGHBOUR: 'it returns false'. Refute it at one input. -/
def memoNoneWrong : ChangeSpec := { name := "memoNone", fn := fun _ => fun
  | [d] => { results := [.lit (.bool false)], args := [d] }
  | _ => none }
def MemoNoneWrongFalsely : Prop := memoNoneRow.holds Try.pinned (OpenSpec.ofChange memoNoneWrong)

/- THE SECOND FORM. 'bulk': how many values and letters a reading holds, each counted each time it is reached (what is shared counts as often as it is met; a slice's spare places count too). A statement '..UptoSaid' is the law's where the arguments, and the package variables that the reading takes, are together of bulk at most 1048576: NARROWER than '..Said'. Prove '..Said' where nothing that the law and all that it calls make is longer than what came in: it says more and counts as full. Else prove '..UptoSaid'. A law counts once. -/
mutual
def uptoBulk {H : Type} : DataW H → Nat
  | .lit (.string bytes) => bytes.length + 1
  | .lit _ => 1
  | .nil => 1
  | .ptr d => uptoBulk d + 1
  | .slice elems spare => uptoBulkAll elems + uptoBulkAll spare + 1
  | .agg parts => uptoBulkAll parts + 1
  | .iface _ d => uptoBulk d + 1
  | .map entries => uptoBulkEntries entries + 1
  | .held _ => 1
def uptoBulkAll {H : Type} : List (DataW H) → Nat
  | [] => 0
  | d :: r => uptoBulk d + uptoBulkAll r
def uptoBulkEntries {H : Type} : List (Lit × DataW H) → Nat
  | [] => 0
  | x :: r => uptoBulkEntry x + uptoBulkEntries r
def uptoBulkEntry {H : Type} : Lit × DataW H → Nat
  | (.string bytes, d) => bytes.length + uptoBulk d + 1
  | (_, d) => uptoBulk d + 1
 end
def uptoSmall : (H : Type) → List (DataW H) → Bool := fun _ ds => decide (uptoBulkAll ds ≤ 1048576)
def OpenSpec.upto (s : _root_.Go.ChangeSpec) : _root_.Go.OpenSpec := { _root_.Go.OpenSpec.ofChange s with cond := some uptoSmall }

/-- 'gouachelaw19.MemoFirst', WHERE WHAT IT READS IS OF BULK AT MOST 1048576: true; the input reads as it did. -/
def memoFirstUptoRow : OpenClaim := { program := "ytpgdehelamgbnaa", sum := "a8bf670dc27b5e135d35941563e3836e00ca86e8936fa95992f8541b6326755b", func := "gouache/gouachelaw19.MemoFirst", spec := "memoFirst", inPlace := ["sync/atomic.LoadPointer", "sync/atomic.CompareAndSwapPointer"], unfollowed := true, recurses := true, apart := false, narrowed := true }
def MemoFirstUptoSaid : Prop := memoFirstUptoRow.holds Try.pinned (OpenSpec.upto memoFirstSpec)

/-- 'gouachelaw19.MemoOwn', WHERE WHAT IT READS IS OF BULK AT MOST 1048576: true; the input reads as it did. -/
def memoOwnUptoRow : OpenClaim := { program := "ytpgdehelamgbnaa", sum := "a8bf670dc27b5e135d35941563e3836e00ca86e8936fa95992f8541b6326755b", func := "gouache/gouachelaw19.MemoOwn", spec := "memoOwn", inPlace := ["sync/atomic.LoadPointer", "sync/atomic.CompareAndSwapPointer"], unfollowed := true, recurses := true, apart := false, narrowed := true }
def MemoOwnUptoSaid : Prop := memoOwnUptoRow.holds Try.pinned (OpenSpec.upto memoOwnSpec)

/-- 'gouachelaw19.MemoAround', WHERE WHAT IT READS IS OF BULK AT MOST 1048576: true; the input reads as it did. -/
def memoAroundUptoRow : OpenClaim := { program := "ytpgdehelamgbnaa", sum := "a8bf670dc27b5e135d35941563e3836e00ca86e8936fa95992f8541b6326755b", func := "gouache/gouachelaw19.MemoAround", spec := "memoAround", inPlace := ["sync/atomic.LoadPointer", "sync/atomic.CompareAndSwapPointer"], unfollowed := true, recurses := true, apart := false, narrowed := true }
def MemoAroundUptoSaid : Prop := memoAroundUptoRow.holds Try.pinned (OpenSpec.upto memoAroundSpec)

/-- 'gouachelaw19.MemoActs', WHERE WHAT IT READS IS OF BULK AT MOST 1048576: true; the input reads as it did. -/
def memoActsUptoRow : OpenClaim := { program := "ytpgdehelamgbnaa", sum := "a8bf670dc27b5e135d35941563e3836e00ca86e8936fa95992f8541b6326755b", func := "gouache/gouachelaw19.MemoActs", spec := "memoActs", inPlace := ["sync/atomic.LoadPointer", "sync/atomic.CompareAndSwapPointer", "sync/atomic.StorePointer"], unfollowed := true, recurses := true, apart := false, narrowed := true }
def MemoActsUptoSaid : Prop := memoActsUptoRow.holds Try.pinned (OpenSpec.upto memoActsSpec)

/-- 'gouachelaw19.MemoNone', WHERE WHAT IT READS IS OF BULK AT MOST 1048576: true; the input reads as it did. -/
def memoNoneUptoRow : OpenClaim := { program := "ytpgdehelamgbnaa", sum := "a8bf670dc27b5e135d35941563e3836e00ca86e8936fa95992f8541b6326755b", func := "gouache/gouachelaw19.MemoNone", spec := "memoNone", inPlace := ["sync/atomic.StorePointer", "sync/atomic.LoadPointer", "sync/atomic.CompareAndSwapPointer"], unfollowed := true, recurses := true, apart := false, narrowed := true }
def MemoNoneUptoSaid : Prop := memoNoneUptoRow.holds Try.pinned (OpenSpec.upto memoNoneSpec)

end Rows
end Go.Proofs.Ytpgdehelamgbnaa
