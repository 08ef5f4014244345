/-
  No cell of these rows narrows 'for every input' (looked for: loops, veiled, ifaces, maps, wideKeys, modest, calm, conditions, laid).
  DERIVED. THE GIVEN ROWS OF THIS SEAT. 7 by the template 'for every input the law returns true; each argument reads behind the call as it read before'; 0 by the template 'total and deterministic' (their statements: YtagncibkgpodfaaTotals.lean).
  GIVEN WITH THE SEED: the statements are not yours to turn. If you find one false, say at which input.
  Laid BY PROGRAM, IN A SANDBOX (cutbox-rows.mjs): the forced cells as the released guide's own fill.sh prints them over the translation b3301cfc2fcbb548… (all of the seat's roots in one cut). By AI agents, Wed Nov 11 2026. No macro, syntax, notation, axiom, sorry.
-/
import Derived.Test.YtagncibkgpodfaaChecked
import GoSem.Claim
import GoSem.ClaimJoined
import GoSem.ClaimMapViews
import Derived.JoinedTies
import Derived.KernelRfl
namespace Go.Proofs.Ytagncibkgpodfaa
/- THE CELL 'sum', in the pinned program and in every row, IS THE sha256 OF THE DUMP (.gsa) THAT YtagncibkgpodfaaProg.lean LOADS. Nothing in Lean hashes anything: it is a label: what it is worth is what the hold of that sum in a sandbox is worth. -/
noncomputable def Try.pinned : Pinned := { name := "ytagncibkgpodfaa", sum := "b3301cfc2fcbb548acdec32cba95eac16ecf84c0425a9c718a63bbb3f71ab6fe", checked := Try.checked }
namespace Rows
def none {H : Type} : Left H := { results := [], args := [] }

/-- 'gouachelaw01.TextRunes': WHATEVER THE INPUT: true; the input reads as it did. -/
def textRunesSpec : ChangeSpec := { name := "textRunes", fn := fun _ => fun
  | [d] => { results := [.lit (.bool true)], args := [d] }
  | _ => none }
def textRunesRow : OpenClaim := { program := "ytagncibkgpodfaa", sum := "b3301cfc2fcbb548acdec32cba95eac16ecf84c0425a9c718a63bbb3f71ab6fe", func := "gouache/gouachelaw01.TextRunes", spec := "textRunes", unfollowed := true, recurses := true, apart := false }
def TextRunesSaid : Prop := textRunesRow.holds Try.pinned (OpenSpec.ofChange textRunesSpec)

/-- ITS FALSE NEIGHBOUR: 'it returns false'. Refute it at one input. -/
def textRunesWrong : ChangeSpec := { name := "textRunes", fn := fun _ => fun
  | [d] => { results := [.lit (.bool false)], args := [d] }
  | _ => none }
def TextRunesWrongFalsely : Prop := textRunesRow.holds Try.pinned (OpenSpec.ofChange textRunesWrong)

/-- 'gouachelaw01.TextKinds': WHATEVER THE INPUT: true; the input reads as it did. -/
def textKindsSpec : ChangeSpec := { name := "textKinds", fn := fun _ => fun
  | [d] => { results := [.lit (.bool true)], args := [d] }
  | _ => none }
def textKindsRow : OpenClaim := { program := "ytagncibkgpodfaa", sum := "b3301cfc2fcbb548acdec32cba95eac16ecf84c0425a9c718a63bbb3f71ab6fe", func := "gouache/gouachelaw01.TextKinds", spec := "textKinds", unfollowed := true, recurses := true, apart := false }
def TextKindsSaid : Prop := textKindsRow.holds Try.pinned (OpenSpec.ofChange textKindsSpec)

/-- ITS FALSE NEIGHBOUR: 'it returns false'. Refute it at one input. -/
def textKindsWrong : ChangeSpec := { name := "textKinds", fn := fun _ => fun
  | [d] => { results := [.lit (.bool false)], args := [d] }
  | _ => none }
def TextKindsWrongFalsely : Prop := textKindsRow.holds Try.pinned (OpenSpec.ofChange textKindsWrong)

/-- 'gouachelaw01.TextNames': WHATEVER THE INPUT: true; the input reads as it did. -/
def textNamesSpec : ChangeSpec := { name := "textNames", fn := fun _ => fun
  | [d] => { results := [.lit (.bool true)], args := [d] }
  | _ => none }
def textNamesRow : OpenClaim := { program := "ytagncibkgpodfaa", sum := "b3301cfc2fcbb548acdec32cba95eac16ecf84c0425a9c718a63bbb3f71ab6fe", func := "gouache/gouachelaw01.TextNames", spec := "textNames", unfollowed := true, recurses := true, apart := false }
def TextNamesSaid : Prop := textNamesRow.holds Try.pinned (OpenSpec.ofChange textNamesSpec)

/-- ITS FALSE NEIGHBOUR: 'it returns false'. Refute it at one input. -/
def textNamesWrong : ChangeSpec := { name := "textNames", fn := fun _ => fun
  | [d] => { results := [.lit (.bool false)], args := [d] }
  | _ => none }
def TextNamesWrongFalsely : Prop := textNamesRow.holds Try.pinned (OpenSpec.ofChange textNamesWrong)

/-- 'gouachelaw01.TextBytes': WHATEVER THE INPUT: true; the input reads as it did. -/
def textBytesSpec : ChangeSpec := { name := "textBytes", fn := fun _ => fun
  | [d] => { results := [.lit (.bool true)], args := [d] }
  | _ => none }
def textBytesRow : OpenClaim := { program := "ytagncibkgpodfaa", sum := "b3301cfc2fcbb548acdec32cba95eac16ecf84c0425a9c718a63bbb3f71ab6fe", func := "gouache/gouachelaw01.TextBytes", spec := "textBytes", unfollowed := true, recurses := true, apart := false }
def TextBytesSaid : Prop := textBytesRow.holds Try.pinned (OpenSpec.ofChange textBytesSpec)

/-- ITS FALSE NEIGHBOUR: 'it returns false'. Refute it at one input. -/
def textBytesWrong : ChangeSpec := { name := "textBytes", fn := fun _ => fun
  | [d] => { results := [.lit (.bool false)], args := [d] }
  | _ => none }
def TextBytesWrongFalsely : Prop := textBytesRow.holds Try.pinned (OpenSpec.ofChange textBytesWrong)

/-- 'gouachelaw01.TextBack': WHATEVER THE INPUT: true; the input reads as it did. -/
def textBackSpec : ChangeSpec := { name := "textBack", fn := fun _ => fun
  | [d] => { results := [.lit (.bool true)], args := [d] }
  | _ => none }
def textBackRow : OpenClaim := { program := "ytagncibkgpodfaa", sum := "b3301cfc2fcbb548acdec32cba95eac16ecf84c0425a9c718a63bbb3f71ab6fe", func := "gouache/gouachelaw01.TextBack", spec := "textBack", unfollowed := true, recurses := true, apart := false }
def TextBackSaid : Prop := textBackRow.holds Try.pinned (OpenSpec.ofChange textBackSpec)

/-- ITS FALSE NEIGHBOUR: 'it returns false'. Refute it at one input. -/
def textBackWrong : ChangeSpec := { name := "textBack", fn := fun _ => fun
  | [d] => { results := [.lit (.bool false)], args := [d] }
  | _ => none }
def TextBackWrongFalsely : Prop := textBackRow.holds Try.pinned (OpenSpec.ofChange textBackWrong)

/-- 'gouachelaw01.TextJoins': WHATEVER THE INPUT: true; the input reads as it did. -/
def textJoinsSpec : ChangeSpec := { name := "textJoins", fn := fun _ => fun
  | [d1, d2] => { results := [.lit (.bool true)], args := [d1, d2] }
  | _ => none }
def textJoinsRow : OpenClaim := { program := "ytagncibkgpodfaa", sum := "b3301cfc2fcbb548acdec32cba95eac16ecf84c0425a9c718a63bbb3f71ab6fe", func := "gouache/gouachelaw01.TextJoins", spec := "textJoins", unfollowed := true, recurses := true, apart := false }
def TextJoinsSaid : Prop := textJoinsRow.holds Try.pinned (OpenSpec.ofChange textJoinsSpec)

/-- ITS FALSE NEIGHBOUR: 'it returns false'. Refute it at one input. -/
def textJoinsWrong : ChangeSpec := { name := "textJoins", fn := fun _ => fun
  | [d1, d2] => { results := [.lit (.bool false)], args := [d1, d2] }
  | _ => none }
def TextJoinsWrongFalsely : Prop := textJoinsRow.holds Try.pinned (OpenSpec.ofChange textJoinsWrong)

/-- 'gouachelaw01.TextSizes': WHATEVER THE INPUT: true; the input reads as it did. -/
def textSizesSpec : ChangeSpec := { name := "textSizes", fn := fun _ => fun
  | [d] => { results := [.lit (.bool true)], args := [d] }
  | _ => none }
def textSizesRow : OpenClaim := { program := "ytagncibkgpodfaa", sum := "b3301cfc2fcbb548acdec32cba95eac16ecf84c0425a9c718a63bbb3f71ab6fe", func := "gouache/gouachelaw01.TextSizes", spec := "textSizes", unfollowed := true, recurses := true, apart := false }
def TextSizesSaid : Prop := textSizesRow.holds Try.pinned (OpenSpec.ofChange textSizesSpec)

/-- ITS FALSE NEIGHBOUR: 'it returns false'. Refute it at one input. -/
def textSizesWrong : ChangeSpec := { name := "textSizes", fn := fun _ => fun
  | [d] => { results := [.lit (.bool false)], args := [d] }
  | _ => none }
def TextSizesWrongFalsely : Prop := textSizesRow.holds Try.pinned (OpenSpec.ofChange textSizesWrong)

/- THE SECOND FORM. 'bulk': how many values and letters a reading holds, each counted each time it is reached (what is shared counts as often as it is met; a slice's spare places count too). A statement '..UptoSaid' is the law's where the arguments, and the package variables that the reading takes, are together of bulk at most 1048576: NARROWER than '..Said'. Prove '..Said' where nothing that the law and all that it calls make is longer than what came in: it says more and counts as full. Else prove '..UptoSaid'. A law counts once. -/
mutual
def uptoBulk {H : Type} : DataW H → Nat
  | .lit (.string bytes) => bytes.length + 1
  | .lit _ => 1
  | .nil => 1
  | .ptr d => uptoBulk d + 1
  | .slice elems spare => uptoBulkAll elems + uptoBulkAll spare + 1
  | .agg parts => uptoBulkAll parts + 1
  | .iface _ d => uptoBulk d + 1
  | .map entries => uptoBulkEntries entries + 1
  | .held _ => 1
def uptoBulkAll {H : Type} : List (DataW H) → Nat
  | [] => 0
  | d :: r => uptoBulk d + uptoBulkAll r
def uptoBulkEntries {H : Type} : List (Lit × DataW H) → Nat
  | [] => 0
  | x :: r => uptoBulkEntry x + uptoBulkEntries r
def uptoBulkEntry {H : Type} : Lit × DataW H → Nat
  | (.string bytes, d) => bytes.length + uptoBulk d + 1
  | (_, d) => uptoBulk d + 1
 end
def uptoSmall : (H : Type) → List (DataW H) → Bool := fun _ ds => decide (uptoBulkAll ds ≤ 1048576)
def OpenSpec.upto (s : _root_.Go.ChangeSpec) : _root_.Go.OpenSpec := { _root_.Go.OpenSpec.ofChange s with cond := some uptoSmall }

/-- 'gouachelaw01.TextRunes', WHERE WHAT IT READS IS OF BULK AT MOST 1048576: true; the input reads as it did. -/
def textRunesUptoRow : OpenClaim := { program := "ytagncibkgpodfaa", sum := "b3301cfc2fcbb548acdec32cba95eac16ecf84c0425a9c718a63bbb3f71ab6fe", func := "gouache/gouachelaw01.TextRunes", spec := "textRunes", unfollowed := true, recurses := true, apart := false, narrowed := true }
def TextRunesUptoSaid : Prop := textRunesUptoRow.holds Try.pinned (OpenSpec.upto textRunesSpec)

/-- 'gouachelaw01.TextKinds', WHERE WHAT IT READS IS OF BULK AT MOST 1048576: true; the input reads as it did. -/
def textKindsUptoRow : OpenClaim := { program := "ytagncibkgpodfaa", sum := "b3301cfc2fcbb548acdec32cba95eac16ecf84c0425a9c718a63bbb3f71ab6fe", func := "gouache/gouachelaw01.TextKinds", spec := "textKinds", unfollowed := true, recurses := true, apart := false, narrowed := true }
def TextKindsUptoSaid : Prop := textKindsUptoRow.holds Try.pinned (OpenSpec.upto textKindsSpec)

/-- 'gouachelaw01.TextNames', WHERE WHAT IT READS IS OF BULK AT MOST 1048576: true; the input reads as it did. -/
def textNamesUptoRow : OpenClaim := { program := "ytagncibkgpodfaa", sum := "b3301cfc2fcbb548acdec32cba95eac16ecf84c0425a9c718a63bbb3f71ab6fe", func := "gouache/gouachelaw01.TextNames", spec := "textNames", unfollowed := true, recurses := true, apart := false, narrowed := true }
def TextNamesUptoSaid : Prop := textNamesUptoRow.holds Try.pinned (OpenSpec.upto textNamesSpec)

/-- 'gouachelaw01.TextBytes', WHERE WHAT IT READS IS OF BULK AT MOST 1048576: true; the input reads as it did. -/
def textBytesUptoRow : OpenClaim := { program := "ytagncibkgpodfaa", sum := "b3301cfc2fcbb548acdec32cba95eac16ecf84c0425a9c718a63bbb3f71ab6fe", func := "gouache/gouachelaw01.TextBytes", spec := "textBytes", unfollowed := true, recurses := true, apart := false, narrowed := true }
def TextBytesUptoSaid : Prop := textBytesUptoRow.holds Try.pinned (OpenSpec.upto textBytesSpec)

/-- 'gouachelaw01.TextBack', WHERE WHAT IT READS IS OF BULK AT MOST 1048576: true; the input reads as it did. -/
def textBackUptoRow : OpenClaim := { program := "ytagncibkgpodfaa", sum := "b3301cfc2fcbb548acdec32cba95eac16ecf84c0425a9c718a63bbb3f71ab6fe", func := "gouache/gouachelaw01.TextBack", spec := "textBack", unfollowed := true, recurses := true, apart := false, narrowed := true }
def TextBackUptoSaid : Prop := textBackUptoRow.holds Try.pinned (OpenSpec.upto textBackSpec)

/-- 'gouachelaw01.TextJoins', WHERE WHAT IT READS IS OF BULK AT MOST 1048576: true; the input reads as it did. -/
def textJoinsUptoRow : OpenClaim := { program := "ytagncibkgpodfaa", sum := "b3301cfc2fcbb548acdec32cba95eac16ecf84c0425a9c718a63bbb3f71ab6fe", func := "gouache/gouachelaw01.TextJoins", spec := "textJoins", unfollowed := true, recurses := true, apart := false, narrowed := true }
def TextJoinsUptoSaid : Prop := textJoinsUptoRow.holds Try.pinned (OpenSpec.upto textJoinsSpec)

/-- 'gouachelaw01.TextSizes', WHERE WHAT IT READS IS OF BULK AT MOST 1048576: true; the input reads as it did. -/
def textSizesUptoRow : OpenClaim := { program := "ytagncibkgpodfaa", sum := "b3301cfc2fcbb548acdec32cba95eac16ecf84c0425a9c718a63bbb3f71ab6fe", func := "gouache/gouachelaw01.TextSizes", spec := "textSizes", unfollowed := true, recurses := true, apart := false, narrowed := true }
def TextSizesUptoSaid : Prop := textSizesUptoRow.holds Try.pinned (OpenSpec.upto textSizesSpec)

end Rows
end Go.Proofs.Ytagncibkgpodfaa
