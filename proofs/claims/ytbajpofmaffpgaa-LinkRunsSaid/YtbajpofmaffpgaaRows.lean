/-
  No cell of these rows narrows 'for every input' (looked for: loops, veiled, ifaces, maps, wideKeys, modest, calm, conditions, laid).
  DERIVED. THE GIVEN ROWS OF THIS SEAT. 7 by the template 'for every input the law returns true; each argument reads behind the call as it read before'; 0 by the template 'total and deterministic' (their statements: YtbajpofmaffpgaaTotals.lean).
  GIVEN WITH THE SEED: the statements are not yours to turn. If you find one false, say at which input.
  Laid BY PROGRAM, IN A SANDBOX (cutbox-rows.mjs): the forced cells as the released guide's own fill.sh prints them over the translation a5bf2b402c62483e… (all of the seat's roots in one cut). By AI agents, Wed Nov 11 2026. No macro, syntax, notation, axiom, sorry.
-/
import Derived.Test.YtbajpofmaffpgaaChecked
import GoSem.Claim
import GoSem.ClaimJoined
import GoSem.ClaimMapViews
import Derived.JoinedTies
import Derived.KernelRfl
namespace Go.Proofs.Ytbajpofmaffpgaa
/- THE CELL 'sum', in the pinned program and in every row, IS THE sha256 OF THE DUMP (.gsa) THAT YtbajpofmaffpgaaProg.lean LOADS. Nothing in Lean hashes anything: it is a label: what it is worth is what the hold of that sum in a sandbox is worth. -/
noncomputable def Try.pinned : Pinned := { name := "ytbajpofmaffpgaa", sum := "a5bf2b402c62483eb89ff3e56d8267666c9ff7254c63c2680517b2cac567a441", checked := Try.checked }
namespace Rows
def none {H : Type} : Left H := { results := [], args := [] }

/-- 'kinkeeplaw36.LinkTogether': WHATEVER THE INPUT: true; the input reads as it did. -/
def linkTogetherSpec : ChangeSpec := { name := "linkTogether", fn := fun _ => fun
  | [d1, d2, d3, d4] => { results := [.lit (.bool true)], args := [d1, d2, d3, d4] }
  | _ => none }
def linkTogetherRow : OpenClaim := { program := "ytbajpofmaffpgaa", sum := "a5bf2b402c62483eb89ff3e56d8267666c9ff7254c63c2680517b2cac567a441", func := "kinkeep/kinkeeplaw36.LinkTogether", spec := "linkTogether", apart := false }
def LinkTogetherSaid : Prop := linkTogetherRow.holds Try.pinned (OpenSpec.ofChange linkTogetherSpec)

/-- ITS FALSE NEIGHBOUR: 'it returns false'. Refute it at one input. -/
def linkTogetherWrong : ChangeSpec := { name := "linkTogether", fn := fun _ => fun
  | [d1, d2, d3, d4] => { results := [.lit (.bool false)], args := [d1, d2, d3, d4] }
  | _ => none }
def LinkTogetherWrongFalsely : Prop := linkTogetherRow.holds Try.pinned (OpenSpec.ofChange linkTogetherWrong)

/-- 'kinkeeplaw36.LinkPrefix': WHATEVER THE INPUT: true; the input reads as it did. -/
def linkPrefixSpec : ChangeSpec := { name := "linkPrefix", fn := fun _ => fun
  | [d1, d2, d3] => { results := [.lit (.bool true)], args := [d1, d2, d3] }
  | _ => none }
def linkPrefixRow : OpenClaim := { program := "ytbajpofmaffpgaa", sum := "a5bf2b402c62483eb89ff3e56d8267666c9ff7254c63c2680517b2cac567a441", func := "kinkeep/kinkeeplaw36.LinkPrefix", spec := "linkPrefix", apart := false }
def LinkPrefixSaid : Prop := linkPrefixRow.holds Try.pinned (OpenSpec.ofChange linkPrefixSpec)

/-- ITS FALSE NEIGHBOUR: 'it returns false'. Refute it at one input. -/
def linkPrefixWrong : ChangeSpec := { name := "linkPrefix", fn := fun _ => fun
  | [d1, d2, d3] => { results := [.lit (.bool false)], args := [d1, d2, d3] }
  | _ => none }
def LinkPrefixWrongFalsely : Prop := linkPrefixRow.holds Try.pinned (OpenSpec.ofChange linkPrefixWrong)

/-- 'kinkeeplaw36.LinkBounds': WHATEVER THE INPUT: true; the input reads as it did. -/
def linkBoundsSpec : ChangeSpec := { name := "linkBounds", fn := fun _ => fun
  | [d1, d2, d3] => { results := [.lit (.bool true)], args := [d1, d2, d3] }
  | _ => none }
def linkBoundsRow : OpenClaim := { program := "ytbajpofmaffpgaa", sum := "a5bf2b402c62483eb89ff3e56d8267666c9ff7254c63c2680517b2cac567a441", func := "kinkeep/kinkeeplaw36.LinkBounds", spec := "linkBounds", apart := false }
def LinkBoundsSaid : Prop := linkBoundsRow.holds Try.pinned (OpenSpec.ofChange linkBoundsSpec)

/-- ITS FALSE NEIGHBOUR: 'it returns false'. Refute it at one input. -/
def linkBoundsWrong : ChangeSpec := { name := "linkBounds", fn := fun _ => fun
  | [d1, d2, d3] => { results := [.lit (.bool false)], args := [d1, d2, d3] }
  | _ => none }
def LinkBoundsWrongFalsely : Prop := linkBoundsRow.holds Try.pinned (OpenSpec.ofChange linkBoundsWrong)

/-- 'kinkeeplaw36.LinkCuts': WHATEVER THE INPUT: true; the input reads as it did. -/
def linkCutsSpec : ChangeSpec := { name := "linkCuts", fn := fun _ => fun
  | [d1, d2] => { results := [.lit (.bool true)], args := [d1, d2] }
  | _ => none }
def linkCutsRow : OpenClaim := { program := "ytbajpofmaffpgaa", sum := "a5bf2b402c62483eb89ff3e56d8267666c9ff7254c63c2680517b2cac567a441", func := "kinkeep/kinkeeplaw36.LinkCuts", spec := "linkCuts", apart := false }
def LinkCutsSaid : Prop := linkCutsRow.holds Try.pinned (OpenSpec.ofChange linkCutsSpec)

/-- ITS FALSE NEIGHBOUR: 'it returns false'. Refute it at one input. -/
def linkCutsWrong : ChangeSpec := { name := "linkCuts", fn := fun _ => fun
  | [d1, d2] => { results := [.lit (.bool false)], args := [d1, d2] }
  | _ => none }
def LinkCutsWrongFalsely : Prop := linkCutsRow.holds Try.pinned (OpenSpec.ofChange linkCutsWrong)

/-- 'kinkeeplaw36.LinkSides': WHATEVER THE INPUT: true; the input reads as it did. -/
def linkSidesSpec : ChangeSpec := { name := "linkSides", fn := fun _ => fun
  | [d1, d2, d3] => { results := [.lit (.bool true)], args := [d1, d2, d3] }
  | _ => none }
def linkSidesRow : OpenClaim := { program := "ytbajpofmaffpgaa", sum := "a5bf2b402c62483eb89ff3e56d8267666c9ff7254c63c2680517b2cac567a441", func := "kinkeep/kinkeeplaw36.LinkSides", spec := "linkSides", apart := false }
def LinkSidesSaid : Prop := linkSidesRow.holds Try.pinned (OpenSpec.ofChange linkSidesSpec)

/-- ITS FALSE NEIGHBOUR: 'it returns false'. Refute it at one input. -/
def linkSidesWrong : ChangeSpec := { name := "linkSides", fn := fun _ => fun
  | [d1, d2, d3] => { results := [.lit (.bool false)], args := [d1, d2, d3] }
  | _ => none }
def LinkSidesWrongFalsely : Prop := linkSidesRow.holds Try.pinned (OpenSpec.ofChange linkSidesWrong)

/-- 'kinkeeplaw36.LinkSpoils': WHATEVER THE INPUT: true; the input reads as it did. -/
def linkSpoilsSpec : ChangeSpec := { name := "linkSpoils", fn := fun _ => fun
  | [d1, d2, d3, d4] => { results := [.lit (.bool true)], args := [d1, d2, d3, d4] }
  | _ => none }
def linkSpoilsRow : OpenClaim := { program := "ytbajpofmaffpgaa", sum := "a5bf2b402c62483eb89ff3e56d8267666c9ff7254c63c2680517b2cac567a441", func := "kinkeep/kinkeeplaw36.LinkSpoils", spec := "linkSpoils", apart := false }
def LinkSpoilsSaid : Prop := linkSpoilsRow.holds Try.pinned (OpenSpec.ofChange linkSpoilsSpec)

/-- ITS FALSE NEIGHBOUR: 'it returns false'. Refute it at one input. -/
def linkSpoilsWrong : ChangeSpec := { name := "linkSpoils", fn := fun _ => fun
  | [d1, d2, d3, d4] => { results := [.lit (.bool false)], args := [d1, d2, d3, d4] }
  | _ => none }
def LinkSpoilsWrongFalsely : Prop := linkSpoilsRow.holds Try.pinned (OpenSpec.ofChange linkSpoilsWrong)

/-- 'kinkeeplaw36.LinkRuns': WHATEVER THE INPUT: true; the input reads as it did. -/
def linkRunsSpec : ChangeSpec := { name := "linkRuns", fn := fun _ => fun
  | [d1, d2, d3] => { results := [.lit (.bool true)], args := [d1, d2, d3] }
  | _ => none }
def linkRunsRow : OpenClaim := { program := "ytbajpofmaffpgaa", sum := "a5bf2b402c62483eb89ff3e56d8267666c9ff7254c63c2680517b2cac567a441", func := "kinkeep/kinkeeplaw36.LinkRuns", spec := "linkRuns", apart := false }
def LinkRunsSaid : Prop := linkRunsRow.holds Try.pinned (OpenSpec.ofChange linkRunsSpec)

/-- ITS FALSE NEIGHBOUR: 'it returns false'. Refute it at one input. -/
def linkRunsWrong : ChangeSpec := { name := "linkRuns", fn := fun _ => fun
  | [d1, d2, d3] => { results := [.lit (.bool false)], args := [d1, d2, d3] }
  | _ => none }
def LinkRunsWrongFalsely : Prop := linkRunsRow.holds Try.pinned (OpenSpec.ofChange linkRunsWrong)

/- THE SECOND FORM. 'bulk': how many values and letters a reading holds, each counted each time it is reached (what is shared counts as often as it is met; a slice's spare places count too). A statement '..UptoSaid' is the law's where the arguments, and the package variables that the reading takes, are together of bulk at most 1048576: NARROWER than '..Said'. Prove '..Said' where nothing that the law and all that it calls make is longer than what came in: it says more and counts as full. Else prove '..UptoSaid'. A law counts once. -/
mutual
def uptoBulk {H : Type} : DataW H → Nat
  | .lit (.string bytes) => bytes.length + 1
  | .lit _ => 1
  | .nil => 1
  | .ptr d => uptoBulk d + 1
  | .slice elems spare => uptoBulkAll elems + uptoBulkAll spare + 1
  | .agg parts => uptoBulkAll parts + 1
  | .iface _ d => uptoBulk d + 1
  | .map entries => uptoBulkEntries entries + 1
  | .held _ => 1
def uptoBulkAll {H : Type} : List (DataW H) → Nat
  | [] => 0
  | d :: r => uptoBulk d + uptoBulkAll r
def uptoBulkEntries {H : Type} : List (Lit × DataW H) → Nat
  | [] => 0
  | x :: r => uptoBulkEntry x + uptoBulkEntries r
def uptoBulkEntry {H : Type} : Lit × DataW H → Nat
  | (.string bytes, d) => bytes.length + uptoBulk d + 1
  | (_, d) => uptoBulk d + 1
 end
def uptoSmall : (H : Type) → List (DataW H) → Bool := fun _ ds => decide (uptoBulkAll ds ≤ 1048576)
def OpenSpec.upto (s : _root_.Go.ChangeSpec) : _root_.Go.OpenSpec := { _root_.Go.OpenSpec.ofChange s with cond := some uptoSmall }

/-- 'kinkeeplaw36.LinkTogether', WHERE WHAT IT READS IS OF BULK AT MOST 1048576: true; the input reads as it did. -/
def linkTogetherUptoRow : OpenClaim := { program := "ytbajpofmaffpgaa", sum := "a5bf2b402c62483eb89ff3e56d8267666c9ff7254c63c2680517b2cac567a441", func := "kinkeep/kinkeeplaw36.LinkTogether", spec := "linkTogether", apart := false, narrowed := true }
def LinkTogetherUptoSaid : Prop := linkTogetherUptoRow.holds Try.pinned (OpenSpec.upto linkTogetherSpec)

/-- 'kinkeeplaw36.LinkPrefix', WHERE WHAT IT READS IS OF BULK AT MOST 1048576: true; the input reads as it did. -/
def linkPrefixUptoRow : OpenClaim := { program := "ytbajpofmaffpgaa", sum := "a5bf2b402c62483eb89ff3e56d8267666c9ff7254c63c2680517b2cac567a441", func := "kinkeep/kinkeeplaw36.LinkPrefix", spec := "linkPrefix", apart := false, narrowed := true }
def LinkPrefixUptoSaid : Prop := linkPrefixUptoRow.holds Try.pinned (OpenSpec.upto linkPrefixSpec)

/-- 'kinkeeplaw36.LinkBounds', WHERE WHAT IT READS IS OF BULK AT MOST 1048576: true; the input reads as it did. -/
def linkBoundsUptoRow : OpenClaim := { program := "ytbajpofmaffpgaa", sum := "a5bf2b402c62483eb89ff3e56d8267666c9ff7254c63c2680517b2cac567a441", func := "kinkeep/kinkeeplaw36.LinkBounds", spec := "linkBounds", apart := false, narrowed := true }
def LinkBoundsUptoSaid : Prop := linkBoundsUptoRow.holds Try.pinned (OpenSpec.upto linkBoundsSpec)

/-- 'kinkeeplaw36.LinkCuts', WHERE WHAT IT READS IS OF BULK AT MOST 1048576: true; the input reads as it did. -/
def linkCutsUptoRow : OpenClaim := { program := "ytbajpofmaffpgaa", sum := "a5bf2b402c62483eb89ff3e56d8267666c9ff7254c63c2680517b2cac567a441", func := "kinkeep/kinkeeplaw36.LinkCuts", spec := "linkCuts", apart := false, narrowed := true }
def LinkCutsUptoSaid : Prop := linkCutsUptoRow.holds Try.pinned (OpenSpec.upto linkCutsSpec)

/-- 'kinkeeplaw36.LinkSides', WHERE WHAT IT READS IS OF BULK AT MOST 1048576: true; the input reads as it did. -/
def linkSidesUptoRow : OpenClaim := { program := "ytbajpofmaffpgaa", sum := "a5bf2b402c62483eb89ff3e56d8267666c9ff7254c63c2680517b2cac567a441", func := "kinkeep/kinkeeplaw36.LinkSides", spec := "linkSides", apart := false, narrowed := true }
def LinkSidesUptoSaid : Prop := linkSidesUptoRow.holds Try.pinned (OpenSpec.upto linkSidesSpec)

/-- 'kinkeeplaw36.LinkSpoils', WHERE WHAT IT READS IS OF BULK AT MOST 1048576: true; the input reads as it did. -/
def linkSpoilsUptoRow : OpenClaim := { program := "ytbajpofmaffpgaa", sum := "a5bf2b402c62483eb89ff3e56d8267666c9ff7254c63c2680517b2cac567a441", func := "kinkeep/kinkeeplaw36.LinkSpoils", spec := "linkSpoils", apart := false, narrowed := true }
def LinkSpoilsUptoSaid : Prop := linkSpoilsUptoRow.holds Try.pinned (OpenSpec.upto linkSpoilsSpec)

/-- 'kinkeeplaw36.LinkRuns', WHERE WHAT IT READS IS OF BULK AT MOST 1048576: true; the input reads as it did. -/
def linkRunsUptoRow : OpenClaim := { program := "ytbajpofmaffpgaa", sum := "a5bf2b402c62483eb89ff3e56d8267666c9ff7254c63c2680517b2cac567a441", func := "kinkeep/kinkeeplaw36.LinkRuns", spec := "linkRuns", apart := false, narrowed := true }
def LinkRunsUptoSaid : Prop := linkRunsUptoRow.holds Try.pinned (OpenSpec.upto linkRunsSpec)

end Rows
end Go.Proofs.Ytbajpofmaffpgaa
