/-
  No cell of these rows narrows 'for every input' (looked for: loops, veiled, ifaces, maps, wideKeys, modest, calm, conditions, laid).
  DERIVED. THE GIVEN ROWS OF THIS SEAT. 8 by the template 'for every input the law returns true; each argument reads behind the call as it read before'; 0 by the template 'total and deterministic' (their statements: YtfghgpdhcpcoiaaTotals.lean).
  GIVEN WITH THE SEED: the statements are not yours to turn. If you find one false, say at which input.
  Laid BY PROGRAM, IN A SANDBOX (cutbox-rows.mjs): the forced cells as the released guide's own fill.sh prints them over the translation 51420ec94d4e614f… (all of the seat's roots in one cut). By AI agents, Wed Nov 11 2026. No macro, syntax, notation, axiom, sorry.
-/
import Derived.Test.YtfghgpdhcpcoiaaChecked
import GoSem.Claim
import GoSem.ClaimJoined
import GoSem.ClaimMapViews
import Derived.JoinedTies
import Derived.KernelRfl
namespace Go.Proofs.Ytfghgpdhcpcoiaa
/- THE CELL 'sum', in the pinned program and in every row, IS THE sha256 OF THE DUMP (.gsa) THAT YtfghgpdhcpcoiaaProg.lean LOADS. Nothing in Lean hashes anything: it is a label: what it is worth is what the hold of that sum in a sandbox is worth. -/
noncomputable def Try.pinned : Pinned := { name := "ytfghgpdhcpcoiaa", sum := "51420ec94d4e614fadcbd7bc3dab0b08226a7e35a75ba2d1e35de56dd0021390", checked := Try.checked }
namespace Rows
def none {H : Type} : Left H := { results := [], args := [] }

/-- 'laws.FnExactMovesValid': WHATEVER THE INPUT: true; the input reads as it did. -/
def fnExactMovesValidSpec : ChangeSpec := { name := "fnExactMovesValid", fn := fun _ => fun
  | [d1, d2] => { results := [.lit (.bool true)], args := [d1, d2] }
  | _ => none }
def fnExactMovesValidRow : OpenClaim := { program := "ytfghgpdhcpcoiaa", sum := "51420ec94d4e614fadcbd7bc3dab0b08226a7e35a75ba2d1e35de56dd0021390", func := "loop.example/accesspolicies/laws.FnExactMovesValid", spec := "fnExactMovesValid", unfollowed := true, recurses := true, apart := false }
def FnExactMovesValidSaid : Prop := fnExactMovesValidRow.holds Try.pinned (OpenSpec.ofChange fnExactMovesValidSpec)

/-- ITS FALSE NEIGHBOUR: 'it returns false'. Refute it at one input. -/
def fnExactMovesValidWrong : ChangeSpec := { name := "fnExactMovesValid", fn := fun _ => fun
  | [d1, d2] => { results := [.lit (.bool false)], args := [d1, d2] }
  | _ => none }
def FnExactMovesValidWrongFalsely : Prop := fnExactMovesValidRow.holds Try.pinned (OpenSpec.ofChange fnExactMovesValidWrong)

/-- 'laws.FnMovesValid': WHATEVER THE INPUT: true; the input reads as it did. -/
def fnMovesValidSpec : ChangeSpec := { name := "fnMovesValid", fn := fun _ => fun
  | [d] => { results := [.lit (.bool true)], args := [d] }
  | _ => none }
def fnMovesValidRow : OpenClaim := { program := "ytfghgpdhcpcoiaa", sum := "51420ec94d4e614fadcbd7bc3dab0b08226a7e35a75ba2d1e35de56dd0021390", func := "loop.example/accesspolicies/laws.FnMovesValid", spec := "fnMovesValid", unfollowed := true, recurses := true, apart := false }
def FnMovesValidSaid : Prop := fnMovesValidRow.holds Try.pinned (OpenSpec.ofChange fnMovesValidSpec)

/-- ITS FALSE NEIGHBOUR: 'it returns false'. Refute it at one input. -/
def fnMovesValidWrong : ChangeSpec := { name := "fnMovesValid", fn := fun _ => fun
  | [d] => { results := [.lit (.bool false)], args := [d] }
  | _ => none }
def FnMovesValidWrongFalsely : Prop := fnMovesValidRow.holds Try.pinned (OpenSpec.ofChange fnMovesValidWrong)

/-- 'laws.FnExactFlowLabels': WHATEVER THE INPUT: true; the input reads as it did. -/
def fnExactFlowLabelsSpec : ChangeSpec := { name := "fnExactFlowLabels", fn := fun _ => fun
  | [d1, d2] => { results := [.lit (.bool true)], args := [d1, d2] }
  | _ => none }
def fnExactFlowLabelsRow : OpenClaim := { program := "ytfghgpdhcpcoiaa", sum := "51420ec94d4e614fadcbd7bc3dab0b08226a7e35a75ba2d1e35de56dd0021390", func := "loop.example/accesspolicies/laws.FnExactFlowLabels", spec := "fnExactFlowLabels", unfollowed := true, recurses := true, apart := false }
def FnExactFlowLabelsSaid : Prop := fnExactFlowLabelsRow.holds Try.pinned (OpenSpec.ofChange fnExactFlowLabelsSpec)

/-- ITS FALSE NEIGHBOUR: 'it returns false'. Refute it at one input. -/
def fnExactFlowLabelsWrong : ChangeSpec := { name := "fnExactFlowLabels", fn := fun _ => fun
  | [d1, d2] => { results := [.lit (.bool false)], args := [d1, d2] }
  | _ => none }
def FnExactFlowLabelsWrongFalsely : Prop := fnExactFlowLabelsRow.holds Try.pinned (OpenSpec.ofChange fnExactFlowLabelsWrong)

/-- 'laws.FnFlowLabels': WHATEVER THE INPUT: true; the input reads as it did. -/
def fnFlowLabelsSpec : ChangeSpec := { name := "fnFlowLabels", fn := fun _ => fun
  | [d] => { results := [.lit (.bool true)], args := [d] }
  | _ => none }
def fnFlowLabelsRow : OpenClaim := { program := "ytfghgpdhcpcoiaa", sum := "51420ec94d4e614fadcbd7bc3dab0b08226a7e35a75ba2d1e35de56dd0021390", func := "loop.example/accesspolicies/laws.FnFlowLabels", spec := "fnFlowLabels", unfollowed := true, recurses := true, apart := false }
def FnFlowLabelsSaid : Prop := fnFlowLabelsRow.holds Try.pinned (OpenSpec.ofChange fnFlowLabelsSpec)

/-- ITS FALSE NEIGHBOUR: 'it returns false'. Refute it at one input. -/
def fnFlowLabelsWrong : ChangeSpec := { name := "fnFlowLabels", fn := fun _ => fun
  | [d] => { results := [.lit (.bool false)], args := [d] }
  | _ => none }
def FnFlowLabelsWrongFalsely : Prop := fnFlowLabelsRow.holds Try.pinned (OpenSpec.ofChange fnFlowLabelsWrong)

/-- 'laws.FnExactFirstLeak': WHATEVER THE INPUT: true; the input reads as it did. -/
def fnExactFirstLeakSpec : ChangeSpec := { name := "fnExactFirstLeak", fn := fun _ => fun
  | [d1, d2] => { results := [.lit (.bool true)], args := [d1, d2] }
  | _ => none }
def fnExactFirstLeakRow : OpenClaim := { program := "ytfghgpdhcpcoiaa", sum := "51420ec94d4e614fadcbd7bc3dab0b08226a7e35a75ba2d1e35de56dd0021390", func := "loop.example/accesspolicies/laws.FnExactFirstLeak", spec := "fnExactFirstLeak", unfollowed := true, recurses := true, apart := false }
def FnExactFirstLeakSaid : Prop := fnExactFirstLeakRow.holds Try.pinned (OpenSpec.ofChange fnExactFirstLeakSpec)

/-- ITS FALSE NEIGHBOUR: 'it returns false'. Refute it at one input. -/
def fnExactFirstLeakWrong : ChangeSpec := { name := "fnExactFirstLeak", fn := fun _ => fun
  | [d1, d2] => { results := [.lit (.bool false)], args := [d1, d2] }
  | _ => none }
def FnExactFirstLeakWrongFalsely : Prop := fnExactFirstLeakRow.holds Try.pinned (OpenSpec.ofChange fnExactFirstLeakWrong)

/-- 'laws.FnFirstLeak': WHATEVER THE INPUT: true; the input reads as it did. -/
def fnFirstLeakSpec : ChangeSpec := { name := "fnFirstLeak", fn := fun _ => fun
  | [d] => { results := [.lit (.bool true)], args := [d] }
  | _ => none }
def fnFirstLeakRow : OpenClaim := { program := "ytfghgpdhcpcoiaa", sum := "51420ec94d4e614fadcbd7bc3dab0b08226a7e35a75ba2d1e35de56dd0021390", func := "loop.example/accesspolicies/laws.FnFirstLeak", spec := "fnFirstLeak", unfollowed := true, recurses := true, apart := false }
def FnFirstLeakSaid : Prop := fnFirstLeakRow.holds Try.pinned (OpenSpec.ofChange fnFirstLeakSpec)

/-- ITS FALSE NEIGHBOUR: 'it returns false'. Refute it at one input. -/
def fnFirstLeakWrong : ChangeSpec := { name := "fnFirstLeak", fn := fun _ => fun
  | [d] => { results := [.lit (.bool false)], args := [d] }
  | _ => none }
def FnFirstLeakWrongFalsely : Prop := fnFirstLeakRow.holds Try.pinned (OpenSpec.ofChange fnFirstLeakWrong)

/-- 'laws.FnExactApartValid': WHATEVER THE INPUT: true; the input reads as it did. -/
def fnExactApartValidSpec : ChangeSpec := { name := "fnExactApartValid", fn := fun _ => fun
  | [d1, d2] => { results := [.lit (.bool true)], args := [d1, d2] }
  | _ => none }
def fnExactApartValidRow : OpenClaim := { program := "ytfghgpdhcpcoiaa", sum := "51420ec94d4e614fadcbd7bc3dab0b08226a7e35a75ba2d1e35de56dd0021390", func := "loop.example/accesspolicies/laws.FnExactApartValid", spec := "fnExactApartValid", apart := false }
def FnExactApartValidSaid : Prop := fnExactApartValidRow.holds Try.pinned (OpenSpec.ofChange fnExactApartValidSpec)

/-- ITS FALSE NEIGHBOUR: 'it returns false'. Refute it at one input. -/
def fnExactApartValidWrong : ChangeSpec := { name := "fnExactApartValid", fn := fun _ => fun
  | [d1, d2] => { results := [.lit (.bool false)], args := [d1, d2] }
  | _ => none }
def FnExactApartValidWrongFalsely : Prop := fnExactApartValidRow.holds Try.pinned (OpenSpec.ofChange fnExactApartValidWrong)

/-- 'laws.FnApartValid': WHATEVER THE INPUT: true; the input reads as it did. -/
def fnApartValidSpec : ChangeSpec := { name := "fnApartValid", fn := fun _ => fun
  | [d] => { results := [.lit (.bool true)], args := [d] }
  | _ => none }
def fnApartValidRow : OpenClaim := { program := "ytfghgpdhcpcoiaa", sum := "51420ec94d4e614fadcbd7bc3dab0b08226a7e35a75ba2d1e35de56dd0021390", func := "loop.example/accesspolicies/laws.FnApartValid", spec := "fnApartValid", apart := false }
def FnApartValidSaid : Prop := fnApartValidRow.holds Try.pinned (OpenSpec.ofChange fnApartValidSpec)

/-- ITS FALSE NEIGHBOUR: 'it returns false'. Refute it at one input. -/
def fnApartValidWrong : ChangeSpec := { name := "fnApartValid", fn := fun _ => fun
  | [d] => { results := [.lit (.bool false)], args := [d] }
  | _ => none }
def FnApartValidWrongFalsely : Prop := fnApartValidRow.holds Try.pinned (OpenSpec.ofChange fnApartValidWrong)

/- THE SECOND FORM. 'bulk': how many values and letters a reading holds, each counted each time it is reached (what is shared counts as often as it is met; a slice's spare places count too). A statement '..UptoSaid' is the law's where the arguments, and the package variables that the reading takes, are together of bulk at most 1048576: NARROWER than '..Said'. Prove '..Said' where nothing that the law and all that it calls make is longer than what came in: it says more and counts as full. Else prove '..UptoSaid'. A law counts once. -/
mutual
def uptoBulk {H : Type} : DataW H → Nat
  | .lit (.string bytes) => bytes.length + 1
  | .lit _ => 1
  | .nil => 1
  | .ptr d => uptoBulk d + 1
  | .slice elems spare => uptoBulkAll elems + uptoBulkAll spare + 1
  | .agg parts => uptoBulkAll parts + 1
  | .iface _ d => uptoBulk d + 1
  | .map entries => uptoBulkEntries entries + 1
  | .held _ => 1
def uptoBulkAll {H : Type} : List (DataW H) → Nat
  | [] => 0
  | d :: r => uptoBulk d + uptoBulkAll r
def uptoBulkEntries {H : Type} : List (Lit × DataW H) → Nat
  | [] => 0
  | x :: r => uptoBulkEntry x + uptoBulkEntries r
def uptoBulkEntry {H : Type} : Lit × DataW H → Nat
  | (.string bytes, d) => bytes.length + uptoBulk d + 1
  | (_, d) => uptoBulk d + 1
 end
def uptoSmall : (H : Type) → List (DataW H) → Bool := fun _ ds => decide (uptoBulkAll ds ≤ 1048576)
def OpenSpec.upto (s : _root_.Go.ChangeSpec) : _root_.Go.OpenSpec := { _root_.Go.OpenSpec.ofChange s with cond := some uptoSmall }

/-- 'laws.FnExactMovesValid', WHERE WHAT IT READS IS OF BULK AT MOST 1048576: true; the input reads as it did. -/
def fnExactMovesValidUptoRow : OpenClaim := { program := "ytfghgpdhcpcoiaa", sum := "51420ec94d4e614fadcbd7bc3dab0b08226a7e35a75ba2d1e35de56dd0021390", func := "loop.example/accesspolicies/laws.FnExactMovesValid", spec := "fnExactMovesValid", unfollowed := true, recurses := true, apart := false, narrowed := true }
def FnExactMovesValidUptoSaid : Prop := fnExactMovesValidUptoRow.holds Try.pinned (OpenSpec.upto fnExactMovesValidSpec)

/-- 'laws.FnMovesValid', WHERE WHAT IT READS IS OF BULK AT MOST 1048576: true; the input reads as it did. -/
def fnMovesValidUptoRow : OpenClaim := { program := "ytfghgpdhcpcoiaa", sum := "51420ec94d4e614fadcbd7bc3dab0b08226a7e35a75ba2d1e35de56dd0021390", func := "loop.example/accesspolicies/laws.FnMovesValid", spec := "fnMovesValid", unfollowed := true, recurses := true, apart := false, narrowed := true }
def FnMovesValidUptoSaid : Prop := fnMovesValidUptoRow.holds Try.pinned (OpenSpec.upto fnMovesValidSpec)

/-- 'laws.FnExactFlowLabels', WHERE WHAT IT READS IS OF BULK AT MOST 1048576: true; the input reads as it did. -/
def fnExactFlowLabelsUptoRow : OpenClaim := { program := "ytfghgpdhcpcoiaa", sum := "51420ec94d4e614fadcbd7bc3dab0b08226a7e35a75ba2d1e35de56dd0021390", func := "loop.example/accesspolicies/laws.FnExactFlowLabels", spec := "fnExactFlowLabels", unfollowed := true, recurses := true, apart := false, narrowed := true }
def FnExactFlowLabelsUptoSaid : Prop := fnExactFlowLabelsUptoRow.holds Try.pinned (OpenSpec.upto fnExactFlowLabelsSpec)

/-- 'laws.FnFlowLabels', WHERE WHAT IT READS IS OF BULK AT MOST 1048576: true; the input reads as it did. -/
def fnFlowLabelsUptoRow : OpenClaim := { program := "ytfghgpdhcpcoiaa", sum := "51420ec94d4e614fadcbd7bc3dab0b08226a7e35a75ba2d1e35de56dd0021390", func := "loop.example/accesspolicies/laws.FnFlowLabels", spec := "fnFlowLabels", unfollowed := true, recurses := true, apart := false, narrowed := true }
def FnFlowLabelsUptoSaid : Prop := fnFlowLabelsUptoRow.holds Try.pinned (OpenSpec.upto fnFlowLabelsSpec)

/-- 'laws.FnExactFirstLeak', WHERE WHAT IT READS IS OF BULK AT MOST 1048576: true; the input reads as it did. -/
def fnExactFirstLeakUptoRow : OpenClaim := { program := "ytfghgpdhcpcoiaa", sum := "51420ec94d4e614fadcbd7bc3dab0b08226a7e35a75ba2d1e35de56dd0021390", func := "loop.example/accesspolicies/laws.FnExactFirstLeak", spec := "fnExactFirstLeak", unfollowed := true, recurses := true, apart := false, narrowed := true }
def FnExactFirstLeakUptoSaid : Prop := fnExactFirstLeakUptoRow.holds Try.pinned (OpenSpec.upto fnExactFirstLeakSpec)

/-- 'laws.FnFirstLeak', WHERE WHAT IT READS IS OF BULK AT MOST 1048576: true; the input reads as it did. -/
def fnFirstLeakUptoRow : OpenClaim := { program := "ytfghgpdhcpcoiaa", sum := "51420ec94d4e614fadcbd7bc3dab0b08226a7e35a75ba2d1e35de56dd0021390", func := "loop.example/accesspolicies/laws.FnFirstLeak", spec := "fnFirstLeak", unfollowed := true, recurses := true, apart := false, narrowed := true }
def FnFirstLeakUptoSaid : Prop := fnFirstLeakUptoRow.holds Try.pinned (OpenSpec.upto fnFirstLeakSpec)

/-- 'laws.FnExactApartValid', WHERE WHAT IT READS IS OF BULK AT MOST 1048576: true; the input reads as it did. -/
def fnExactApartValidUptoRow : OpenClaim := { program := "ytfghgpdhcpcoiaa", sum := "51420ec94d4e614fadcbd7bc3dab0b08226a7e35a75ba2d1e35de56dd0021390", func := "loop.example/accesspolicies/laws.FnExactApartValid", spec := "fnExactApartValid", apart := false, narrowed := true }
def FnExactApartValidUptoSaid : Prop := fnExactApartValidUptoRow.holds Try.pinned (OpenSpec.upto fnExactApartValidSpec)

/-- 'laws.FnApartValid', WHERE WHAT IT READS IS OF BULK AT MOST 1048576: true; the input reads as it did. -/
def fnApartValidUptoRow : OpenClaim := { program := "ytfghgpdhcpcoiaa", sum := "51420ec94d4e614fadcbd7bc3dab0b08226a7e35a75ba2d1e35de56dd0021390", func := "loop.example/accesspolicies/laws.FnApartValid", spec := "fnApartValid", apart := false, narrowed := true }
def FnApartValidUptoSaid : Prop := fnApartValidUptoRow.holds Try.pinned (OpenSpec.upto fnApartValidSpec)

end Rows
end Go.Proofs.Ytfghgpdhcpcoiaa
