/-
  No cell of these rows narrows 'for every input' (looked for: loops, veiled, ifaces, maps, wideKeys, modest, calm, conditions, laid).
  DERIVED. THE GIVEN ROWS OF THIS SEAT. 5 by the template 'for every input the law returns true; each argument reads behind the call as it read before'; 0 by the template 'total and deterministic' (their statements: YtahihhklijcghaaTotals.lean).
  GIVEN WITH THE SEED: the statements are not yours to turn. If you find one false, say at which input.
  Laid BY PROGRAM, IN A SANDBOX (cutbox-rows.mjs): the forced cells as the released guide's own fill.sh prints them over the translation e278024fcd0e38f3… (all of the seat's roots in one cut). By AI agents, Wed Nov 11 2026. No macro, syntax, notation, axiom, sorry.
-/
import Derived.Test.YtahihhklijcghaaChecked
import GoSem.Claim
import GoSem.ClaimJoined
import GoSem.ClaimMapViews
import Derived.JoinedTies
import Derived.KernelRfl
namespace Go.Proofs.Ytahihhklijcghaa
/- THE CELL 'sum', in the pinned program and in every row, IS THE sha256 OF THE DUMP (.gsa) THAT YtahihhklijcghaaProg.lean LOADS. Nothing in Lean hashes anything: it is a label: what it is worth is what the hold of that sum in a sandbox is worth. -/
noncomputable def Try.pinned : Pinned := { name := "ytahihhklijcghaa", sum := "e278024fcd0e38f323fbacb484d5b83d1733ad6070648dbdaa1ae0543132410f", checked := Try.checked }
namespace Rows
def none {H : Type} : Left H := { results := [], args := [] }

/-- 'gouachelaw17.CascadeMore': WHATEVER THE INPUT: true; the input reads as it did. -/
def cascadeMoreSpec : ChangeSpec := { name := "cascadeMore", fn := fun _ => fun
  | [d1, d2, d3] => { results := [.lit (.bool true)], args := [d1, d2, d3] }
  | _ => none }
def cascadeMoreRow : OpenClaim := { program := "ytahihhklijcghaa", sum := "e278024fcd0e38f323fbacb484d5b83d1733ad6070648dbdaa1ae0543132410f", func := "gouache/gouachelaw17.CascadeMore", spec := "cascadeMore", apart := false }
def CascadeMoreSaid : Prop := cascadeMoreRow.holds Try.pinned (OpenSpec.ofChange cascadeMoreSpec)

/-- ITS FALSE NEIGHBOUR: 'it returns false'. Refute it at one input. -/
def cascadeMoreWrong : ChangeSpec := { name := "cascadeMore", fn := fun _ => fun
  | [d1, d2, d3] => { results := [.lit (.bool false)], args := [d1, d2, d3] }
  | _ => none }
def CascadeMoreWrongFalsely : Prop := cascadeMoreRow.holds Try.pinned (OpenSpec.ofChange cascadeMoreWrong)

/-- 'gouachelaw17.CascadeSorts': WHATEVER THE INPUT: true; the input reads as it did. -/
def cascadeSortsSpec : ChangeSpec := { name := "cascadeSorts", fn := fun _ => fun
  | [d1, d2, d3] => { results := [.lit (.bool true)], args := [d1, d2, d3] }
  | _ => none }
def cascadeSortsRow : OpenClaim := { program := "ytahihhklijcghaa", sum := "e278024fcd0e38f323fbacb484d5b83d1733ad6070648dbdaa1ae0543132410f", func := "gouache/gouachelaw17.CascadeSorts", spec := "cascadeSorts", unfollowed := true, recurses := true, apart := false }
def CascadeSortsSaid : Prop := cascadeSortsRow.holds Try.pinned (OpenSpec.ofChange cascadeSortsSpec)

/-- ITS FALSE NEIGHBOUR: 'it returns false'. Refute it at one input. -/
def cascadeSortsWrong : ChangeSpec := { name := "cascadeSorts", fn := fun _ => fun
  | [d1, d2, d3] => { results := [.lit (.bool false)], args := [d1, d2, d3] }
  | _ => none }
def CascadeSortsWrongFalsely : Prop := cascadeSortsRow.holds Try.pinned (OpenSpec.ofChange cascadeSortsWrong)

/-- 'gouachelaw17.CascadeRanks': WHATEVER THE INPUT: true; the input reads as it did. -/
def cascadeRanksSpec : ChangeSpec := { name := "cascadeRanks", fn := fun _ => fun
  | [d1, d2, d3] => { results := [.lit (.bool true)], args := [d1, d2, d3] }
  | _ => none }
def cascadeRanksRow : OpenClaim := { program := "ytahihhklijcghaa", sum := "e278024fcd0e38f323fbacb484d5b83d1733ad6070648dbdaa1ae0543132410f", func := "gouache/gouachelaw17.CascadeRanks", spec := "cascadeRanks", unfollowed := true, recurses := true, apart := false }
def CascadeRanksSaid : Prop := cascadeRanksRow.holds Try.pinned (OpenSpec.ofChange cascadeRanksSpec)

/-- ITS FALSE NEIGHBOUR: 'it returns false'. Refute it at one input. -/
def cascadeRanksWrong : ChangeSpec := { name := "cascadeRanks", fn := fun _ => fun
  | [d1, d2, d3] => { results := [.lit (.bool false)], args := [d1, d2, d3] }
  | _ => none }
def CascadeRanksWrongFalsely : Prop := cascadeRanksRow.holds Try.pinned (OpenSpec.ofChange cascadeRanksWrong)

/-- 'gouachelaw17.CascadeOrder': WHATEVER THE INPUT: true; the input reads as it did. -/
def cascadeOrderSpec : ChangeSpec := { name := "cascadeOrder", fn := fun _ => fun
  | [d1, d2] => { results := [.lit (.bool true)], args := [d1, d2] }
  | _ => none }
def cascadeOrderRow : OpenClaim := { program := "ytahihhklijcghaa", sum := "e278024fcd0e38f323fbacb484d5b83d1733ad6070648dbdaa1ae0543132410f", func := "gouache/gouachelaw17.CascadeOrder", spec := "cascadeOrder", unfollowed := true, recurses := true, apart := false }
def CascadeOrderSaid : Prop := cascadeOrderRow.holds Try.pinned (OpenSpec.ofChange cascadeOrderSpec)

/-- ITS FALSE NEIGHBOUR: 'it returns false'. Refute it at one input. -/
def cascadeOrderWrong : ChangeSpec := { name := "cascadeOrder", fn := fun _ => fun
  | [d1, d2] => { results := [.lit (.bool false)], args := [d1, d2] }
  | _ => none }
def CascadeOrderWrongFalsely : Prop := cascadeOrderRow.holds Try.pinned (OpenSpec.ofChange cascadeOrderWrong)

/-- 'gouachelaw17.CascadeWins': WHATEVER THE INPUT: true; the input reads as it did. -/
def cascadeWinsSpec : ChangeSpec := { name := "cascadeWins", fn := fun _ => fun
  | [d1, d2] => { results := [.lit (.bool true)], args := [d1, d2] }
  | _ => none }
def cascadeWinsRow : OpenClaim := { program := "ytahihhklijcghaa", sum := "e278024fcd0e38f323fbacb484d5b83d1733ad6070648dbdaa1ae0543132410f", func := "gouache/gouachelaw17.CascadeWins", spec := "cascadeWins", unfollowed := true, recurses := true, apart := false }
def CascadeWinsSaid : Prop := cascadeWinsRow.holds Try.pinned (OpenSpec.ofChange cascadeWinsSpec)

/-- ITS FALSE NEIGHBOUR: 'it returns false'. Refute it at one input. -/
def cascadeWinsWrong : ChangeSpec := { name := "cascadeWins", fn := fun _ => fun
  | [d1, d2] => { results := [.lit (.bool false)], args := [d1, d2] }
  | _ => none }
def CascadeWinsWrongFalsely : Prop := cascadeWinsRow.holds Try.pinned (OpenSpec.ofChange cascadeWinsWrong)

/- THE SECOND FORM. 'bulk': how many values and letters a reading holds, each counted each time it is reached (what is shared counts as often as it is met; a slice's spare places count too). A statement '..UptoSaid' is the law's where the arguments, and the package variables that the reading takes, are together of bulk at most 1048576: NARROWER than '..Said'. Prove '..Said' where nothing that the law and all that it calls make is longer than what came in: it says more and counts as full. Else prove '..UptoSaid'. A law counts once. -/
mutual
def uptoBulk {H : Type} : DataW H → Nat
  | .lit (.string bytes) => bytes.length + 1
  | .lit _ => 1
  | .nil => 1
  | .ptr d => uptoBulk d + 1
  | .slice elems spare => uptoBulkAll elems + uptoBulkAll spare + 1
  | .agg parts => uptoBulkAll parts + 1
  | .iface _ d => uptoBulk d + 1
  | .map entries => uptoBulkEntries entries + 1
  | .held _ => 1
def uptoBulkAll {H : Type} : List (DataW H) → Nat
  | [] => 0
  | d :: r => uptoBulk d + uptoBulkAll r
def uptoBulkEntries {H : Type} : List (Lit × DataW H) → Nat
  | [] => 0
  | x :: r => uptoBulkEntry x + uptoBulkEntries r
def uptoBulkEntry {H : Type} : Lit × DataW H → Nat
  | (.string bytes, d) => bytes.length + uptoBulk d + 1
  | (_, d) => uptoBulk d + 1
 end
def uptoSmall : (H : Type) → List (DataW H) → Bool := fun _ ds => decide (uptoBulkAll ds ≤ 1048576)
def OpenSpec.upto (s : _root_.Go.ChangeSpec) : _root_.Go.OpenSpec := { _root_.Go.OpenSpec.ofChange s with cond := some uptoSmall }

/-- 'gouachelaw17.CascadeMore', WHERE WHAT IT READS IS OF BULK AT MOST 1048576: true; the input reads as it did. -/
def cascadeMoreUptoRow : OpenClaim := { program := "ytahihhklijcghaa", sum := "e278024fcd0e38f323fbacb484d5b83d1733ad6070648dbdaa1ae0543132410f", func := "gouache/gouachelaw17.CascadeMore", spec := "cascadeMore", apart := false, narrowed := true }
def CascadeMoreUptoSaid : Prop := cascadeMoreUptoRow.holds Try.pinned (OpenSpec.upto cascadeMoreSpec)

/-- 'gouachelaw17.CascadeSorts', WHERE WHAT IT READS IS OF BULK AT MOST 1048576: true; the input reads as it did. -/
def cascadeSortsUptoRow : OpenClaim := { program := "ytahihhklijcghaa", sum := "e278024fcd0e38f323fbacb484d5b83d1733ad6070648dbdaa1ae0543132410f", func := "gouache/gouachelaw17.CascadeSorts", spec := "cascadeSorts", unfollowed := true, recurses := true, apart := false, narrowed := true }
def CascadeSortsUptoSaid : Prop := cascadeSortsUptoRow.holds Try.pinned (OpenSpec.upto cascadeSortsSpec)

/-- 'gouachelaw17.CascadeRanks', WHERE WHAT IT READS IS OF BULK AT MOST 1048576: true; the input reads as it did. -/
def cascadeRanksUptoRow : OpenClaim := { program := "ytahihhklijcghaa", sum := "e278024fcd0e38f323fbacb484d5b83d1733ad6070648dbdaa1ae0543132410f", func := "gouache/gouachelaw17.CascadeRanks", spec := "cascadeRanks", unfollowed := true, recurses := true, apart := false, narrowed := true }
def CascadeRanksUptoSaid : Prop := cascadeRanksUptoRow.holds Try.pinned (OpenSpec.upto cascadeRanksSpec)

/-- 'gouachelaw17.CascadeOrder', WHERE WHAT IT READS IS OF BULK AT MOST 1048576: true; the input reads as it did. -/
def cascadeOrderUptoRow : OpenClaim := { program := "ytahihhklijcghaa", sum := "e278024fcd0e38f323fbacb484d5b83d1733ad6070648dbdaa1ae0543132410f", func := "gouache/gouachelaw17.CascadeOrder", spec := "cascadeOrder", unfollowed := true, recurses := true, apart := false, narrowed := true }
def CascadeOrderUptoSaid : Prop := cascadeOrderUptoRow.holds Try.pinned (OpenSpec.upto cascadeOrderSpec)

/-- 'gouachelaw17.CascadeWins', WHERE WHAT IT READS IS OF BULK AT MOST 1048576: true; the input reads as it did. -/
def cascadeWinsUptoRow : OpenClaim := { program := "ytahihhklijcghaa", sum := "e278024fcd0e38f323fbacb484d5b83d1733ad6070648dbdaa1ae0543132410f", func := "gouache/gouachelaw17.CascadeWins", spec := "cascadeWins", unfollowed := true, recurses := true, apart := false, narrowed := true }
def CascadeWinsUptoSaid : Prop := cascadeWinsUptoRow.holds Try.pinned (OpenSpec.upto cascadeWinsSpec)

end Rows
end Go.Proofs.Ytahihhklijcghaa
