/-
  No cell of these rows narrows 'for every input' (looked for: loops, veiled, ifaces, maps, wideKeys, modest, calm, conditions, laid).
  DERIVED. THE GIVEN ROWS OF THIS SEAT. 5 by the template 'for every input the law returns true; each argument reads behind the call as it read before'; 0 by the template 'total and deterministic' (their statements: YtfehimoiccgahaaTotals.lean).
  GIVEN WITH THE SEED: the statements are not yours to turn. If you find one false, say at which input.
  Laid BY PROGRAM, IN A SANDBOX (cutbox-rows.mjs): the forced cells as the released guide's own fill.sh prints them over the translation f6fee04ab427f450… (all of the seat's roots in one cut). By AI agents, Wed Nov 11 2026. No macro, syntax, notation, axiom, sorry.
-/
import Derived.Test.YtfehimoiccgahaaChecked
import GoSem.Claim
import GoSem.ClaimJoined
import GoSem.ClaimMapViews
import Derived.JoinedTies
import Derived.KernelRfl
namespace Go.Proofs.Ytfehimoiccgahaa
/- THE CELL 'sum', in the pinned program and in every row, IS THE sha256 OF THE DUMP (.gsa) THAT YtfehimoiccgahaaProg.lean LOADS. Nothing in Lean hashes anything: it is a label: what it is worth is what the hold of that sum in a sandbox is worth. -/
noncomputable def Try.pinned : Pinned := { name := "ytfehimoiccgahaa", sum := "f6fee04ab427f45046baab1a50933d3f1d2337bc844225319e5b1b7ef4974625", checked := Try.checked }
namespace Rows
def none {H : Type} : Left H := { results := [], args := [] }

/-- 'gouachelaw06.TrieOrder': WHATEVER THE INPUT: true; the input reads as it did. -/
def trieOrderSpec : ChangeSpec := { name := "trieOrder", fn := fun _ => fun
  | [d] => { results := [.lit (.bool true)], args := [d] }
  | _ => none }
def trieOrderRow : OpenClaim := { program := "ytfehimoiccgahaa", sum := "f6fee04ab427f45046baab1a50933d3f1d2337bc844225319e5b1b7ef4974625", func := "gouache/gouachelaw06.TrieOrder", spec := "trieOrder", recurses := true, apart := false }
def TrieOrderSaid : Prop := trieOrderRow.holds Try.pinned (OpenSpec.ofChange trieOrderSpec)

/-- ITS FALSE NEIGHBOUR: 'it returns false'. Refute it at one input. -/
def trieOrderWrong : ChangeSpec := { name := "trieOrder", fn := fun _ => fun
  | [d] => { results := [.lit (.bool false)], args := [d] }
  | _ => none }
def TrieOrderWrongFalsely : Prop := trieOrderRow.holds Try.pinned (OpenSpec.ofChange trieOrderWrong)

/-- 'gouachelaw06.TrieShares': WHATEVER THE INPUT: true; the input reads as it did. -/
def trieSharesSpec : ChangeSpec := { name := "trieShares", fn := fun _ => fun
  | [d1, d2] => { results := [.lit (.bool true)], args := [d1, d2] }
  | _ => none }
def trieSharesRow : OpenClaim := { program := "ytfehimoiccgahaa", sum := "f6fee04ab427f45046baab1a50933d3f1d2337bc844225319e5b1b7ef4974625", func := "gouache/gouachelaw06.TrieShares", spec := "trieShares", recurses := true, apart := false }
def TrieSharesSaid : Prop := trieSharesRow.holds Try.pinned (OpenSpec.ofChange trieSharesSpec)

/-- ITS FALSE NEIGHBOUR: 'it returns false'. Refute it at one input. -/
def trieSharesWrong : ChangeSpec := { name := "trieShares", fn := fun _ => fun
  | [d1, d2] => { results := [.lit (.bool false)], args := [d1, d2] }
  | _ => none }
def TrieSharesWrongFalsely : Prop := trieSharesRow.holds Try.pinned (OpenSpec.ofChange trieSharesWrong)

/-- 'gouachelaw06.TrieActs': WHATEVER THE INPUT: true; the input reads as it did. -/
def trieActsSpec : ChangeSpec := { name := "trieActs", fn := fun _ => fun
  | [d1, d2, d3] => { results := [.lit (.bool true)], args := [d1, d2, d3] }
  | _ => none }
def trieActsRow : OpenClaim := { program := "ytfehimoiccgahaa", sum := "f6fee04ab427f45046baab1a50933d3f1d2337bc844225319e5b1b7ef4974625", func := "gouache/gouachelaw06.TrieActs", spec := "trieActs", unfollowed := true, recurses := true, apart := false }
def TrieActsSaid : Prop := trieActsRow.holds Try.pinned (OpenSpec.ofChange trieActsSpec)

/-- ITS FALSE NEIGHBOUR: 'it returns false'. Refute it at one input. -/
def trieActsWrong : ChangeSpec := { name := "trieActs", fn := fun _ => fun
  | [d1, d2, d3] => { results := [.lit (.bool false)], args := [d1, d2, d3] }
  | _ => none }
def TrieActsWrongFalsely : Prop := trieActsRow.holds Try.pinned (OpenSpec.ofChange trieActsWrong)

/-- 'gouachelaw06.TrieKeeps': WHATEVER THE INPUT: true; the input reads as it did. -/
def trieKeepsSpec : ChangeSpec := { name := "trieKeeps", fn := fun _ => fun
  | [d] => { results := [.lit (.bool true)], args := [d] }
  | _ => none }
def trieKeepsRow : OpenClaim := { program := "ytfehimoiccgahaa", sum := "f6fee04ab427f45046baab1a50933d3f1d2337bc844225319e5b1b7ef4974625", func := "gouache/gouachelaw06.TrieKeeps", spec := "trieKeeps", unfollowed := true, recurses := true, apart := false }
def TrieKeepsSaid : Prop := trieKeepsRow.holds Try.pinned (OpenSpec.ofChange trieKeepsSpec)

/-- ITS FALSE NEIGHBOUR: 'it returns false'. Refute it at one input. -/
def trieKeepsWrong : ChangeSpec := { name := "trieKeeps", fn := fun _ => fun
  | [d] => { results := [.lit (.bool false)], args := [d] }
  | _ => none }
def TrieKeepsWrongFalsely : Prop := trieKeepsRow.holds Try.pinned (OpenSpec.ofChange trieKeepsWrong)

/-- 'gouachelaw06.TrieNone': WHATEVER THE INPUT: true; the input reads as it did. -/
def trieNoneSpec : ChangeSpec := { name := "trieNone", fn := fun _ => fun
  | [d1, d2] => { results := [.lit (.bool true)], args := [d1, d2] }
  | _ => none }
def trieNoneRow : OpenClaim := { program := "ytfehimoiccgahaa", sum := "f6fee04ab427f45046baab1a50933d3f1d2337bc844225319e5b1b7ef4974625", func := "gouache/gouachelaw06.TrieNone", spec := "trieNone", unfollowed := true, recurses := true, apart := false }
def TrieNoneSaid : Prop := trieNoneRow.holds Try.pinned (OpenSpec.ofChange trieNoneSpec)

/-- ITS FALSE NEIGHBOUR: 'it returns false'. Refute it at one input. -/
def trieNoneWrong : ChangeSpec := { name := "trieNone", fn := fun _ => fun
  | [d1, d2] => { results := [.lit (.bool false)], args := [d1, d2] }
  | _ => none }
def TrieNoneWrongFalsely : Prop := trieNoneRow.holds Try.pinned (OpenSpec.ofChange trieNoneWrong)

/- THE SECOND FORM. 'bulk': how many values and letters a reading holds, each counted each time it is reached (what is shared counts as often as it is met; a slice's spare places count too). A statement '..UptoSaid' is the law's where the arguments, and the package variables that the reading takes, are together of bulk at most 1048576: NARROWER than '..Said'. Prove '..Said' where nothing that the law and all that it calls make is longer than what came in: it says more and counts as full. Else prove '..UptoSaid'. A law counts once. -/
mutual
def uptoBulk {H : Type} : DataW H → Nat
  | .lit (.string bytes) => bytes.length + 1
  | .lit _ => 1
  | .nil => 1
  | .ptr d => uptoBulk d + 1
  | .slice elems spare => uptoBulkAll elems + uptoBulkAll spare + 1
  | .agg parts => uptoBulkAll parts + 1
  | .iface _ d => uptoBulk d + 1
  | .map entries => uptoBulkEntries entries + 1
  | .held _ => 1
def uptoBulkAll {H : Type} : List (DataW H) → Nat
  | [] => 0
  | d :: r => uptoBulk d + uptoBulkAll r
def uptoBulkEntries {H : Type} : List (Lit × DataW H) → Nat
  | [] => 0
  | x :: r => uptoBulkEntry x + uptoBulkEntries r
def uptoBulkEntry {H : Type} : Lit × DataW H → Nat
  | (.string bytes, d) => bytes.length + uptoBulk d + 1
  | (_, d) => uptoBulk d + 1
 end
def uptoSmall : (H : Type) → List (DataW H) → Bool := fun _ ds => decide (uptoBulkAll ds ≤ 1048576)
def OpenSpec.upto (s : _root_.Go.ChangeSpec) : _root_.Go.OpenSpec := { _root_.Go.OpenSpec.ofChange s with cond := some uptoSmall }

/-- 'gouachelaw06.TrieOrder', WHERE WHAT IT READS IS OF BULK AT MOST 1048576: true; the input reads as it did. -/
def trieOrderUptoRow : OpenClaim := { program := "ytfehimoiccgahaa", sum := "f6fee04ab427f45046baab1a50933d3f1d2337bc844225319e5b1b7ef4974625", func := "gouache/gouachelaw06.TrieOrder", spec := "trieOrder", recurses := true, apart := false, narrowed := true }
def TrieOrderUptoSaid : Prop := trieOrderUptoRow.holds Try.pinned (OpenSpec.upto trieOrderSpec)

/-- 'gouachelaw06.TrieShares', WHERE WHAT IT READS IS OF BULK AT MOST 1048576: true; the input reads as it did. -/
def trieSharesUptoRow : OpenClaim := { program := "ytfehimoiccgahaa", sum := "f6fee04ab427f45046baab1a50933d3f1d2337bc844225319e5b1b7ef4974625", func := "gouache/gouachelaw06.TrieShares", spec := "trieShares", recurses := true, apart := false, narrowed := true }
def TrieSharesUptoSaid : Prop := trieSharesUptoRow.holds Try.pinned (OpenSpec.upto trieSharesSpec)

/-- 'gouachelaw06.TrieActs', WHERE WHAT IT READS IS OF BULK AT MOST 1048576: true; the input reads as it did. -/
def trieActsUptoRow : OpenClaim := { program := "ytfehimoiccgahaa", sum := "f6fee04ab427f45046baab1a50933d3f1d2337bc844225319e5b1b7ef4974625", func := "gouache/gouachelaw06.TrieActs", spec := "trieActs", unfollowed := true, recurses := true, apart := false, narrowed := true }
def TrieActsUptoSaid : Prop := trieActsUptoRow.holds Try.pinned (OpenSpec.upto trieActsSpec)

/-- 'gouachelaw06.TrieKeeps', WHERE WHAT IT READS IS OF BULK AT MOST 1048576: true; the input reads as it did. -/
def trieKeepsUptoRow : OpenClaim := { program := "ytfehimoiccgahaa", sum := "f6fee04ab427f45046baab1a50933d3f1d2337bc844225319e5b1b7ef4974625", func := "gouache/gouachelaw06.TrieKeeps", spec := "trieKeeps", unfollowed := true, recurses := true, apart := false, narrowed := true }
def TrieKeepsUptoSaid : Prop := trieKeepsUptoRow.holds Try.pinned (OpenSpec.upto trieKeepsSpec)

/-- 'gouachelaw06.TrieNone', WHERE WHAT IT READS IS OF BULK AT MOST 1048576: true; the input reads as it did. -/
def trieNoneUptoRow : OpenClaim := { program := "ytfehimoiccgahaa", sum := "f6fee04ab427f45046baab1a50933d3f1d2337bc844225319e5b1b7ef4974625", func := "gouache/gouachelaw06.TrieNone", spec := "trieNone", unfollowed := true, recurses := true, apart := false, narrowed := true }
def TrieNoneUptoSaid : Prop := trieNoneUptoRow.holds Try.pinned (OpenSpec.upto trieNoneSpec)

end Rows
end Go.Proofs.Ytfehimoiccgahaa
