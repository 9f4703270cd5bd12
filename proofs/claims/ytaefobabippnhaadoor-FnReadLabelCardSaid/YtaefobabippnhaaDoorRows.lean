/-
  NARROWER THAN 'FOR EVERY INPUT', by the rows' own cells (each row's printed sentence says how): FnExactLabelText: laid · FnExactReadLabel: laid · FnLabelText: laid · FnReadLabel: laid.
  DERIVED. THE GIVEN ROWS OF THIS SEAT. 4 by the template 'for every input the law returns true; each argument reads behind the call as it read before'; 0 by the template 'total and deterministic' (their statements: YtaefobabippnhaaDoorTotals.lean).
  GIVEN WITH THE SEED: the statements are not yours to turn. If you find one false, say at which input.
  Laid BY PROGRAM, IN A SANDBOX (cutbox-rows.mjs): the forced cells as the released guide's own fill.sh prints them over the translation de871b871f3cc175… (all of the seat's roots in one cut). By AI agents, Wed Nov 11 2026. No macro, syntax, notation, axiom, sorry.
-/
import Derived.Test.YtaefobabippnhaaDoorChecked
import GoSem.Claim
import GoSem.ClaimJoined
import GoSem.ClaimMapViews
import Derived.JoinedTies
import Derived.KernelRfl
namespace Go.Proofs.YtaefobabippnhaaDoor
/- THE CELL 'sum', in the pinned program and in every row, IS THE sha256 OF THE DUMP (.gsa) THAT YtaefobabippnhaaDoorProg.lean LOADS. Nothing in Lean hashes anything: it is a label: what it is worth is what the hold of that sum in a sandbox is worth. -/
noncomputable def Tryd.pinned : Pinned := { name := "ytaefobabippnhaadoor", sum := "de871b871f3cc175d325e0bcce342bcf042613e7569ed987d53b3f666f43511a", checked := Tryd.checked }
namespace Rows
def none {H : Type} : Left H := { results := [], args := [] }

/- WHAT THE LISTED PACKAGE-LEVEL VARIABLES READ AS WHEN THE CALL BEGINS. Each datum BY PROGRAM (the guide's laid-datum.mjs) off the statement by which the dump's own 'gosem.cut.vars' lays the variable. In a bare row this is a premise. The card (YtaefobabippnhaaDoorCards.lean) ties it to the program's text. -/
def laid_loop_example_accesspolicies_impl_levelNames {H : Type} : DataW H := .slice [.lit (.string [111, 112, 101, 110]), .lit (.string [105, 110, 110, 101, 114]), .lit (.string [115, 101, 99, 114, 101, 116]), .lit (.string [116, 111, 112])] []

/-- 'laws.FnExactLabelText': WHATEVER THE INPUT: true; the input reads as it did. -/
def fnExactLabelTextSpec : ChangeSpec := { name := "fnExactLabelText", vars := ["loop.example/accesspolicies/impl.levelNames"], fn := fun _ => fun
  | [d, g1] => { results := [.lit (.bool true)], args := [d], vars := [g1] }
  | _ => none }
def fnExactLabelTextRow : OpenClaim := { program := "ytaefobabippnhaadoor", sum := "de871b871f3cc175d325e0bcce342bcf042613e7569ed987d53b3f666f43511a", func := "loop.example/accesspolicies/laws.FnExactLabelText", spec := "fnExactLabelText", inPlace := ["internal/abi.NoEscape", "internal/bytealg.MakeNoZero"], named := ["loop.example/accesspolicies/impl.levelNames"], apart := false, laid := [("loop.example/accesspolicies/impl.levelNames", laid_loop_example_accesspolicies_impl_levelNames)] }
def FnExactLabelTextSaid : Prop := fnExactLabelTextRow.holds Tryd.pinned (OpenSpec.ofChange fnExactLabelTextSpec)

/-- ITS FALSE NEIGHBOUR: 'it returns false'. Refute it at one input. -/
def fnExactLabelTextWrong : ChangeSpec := { name := "fnExactLabelText", vars := ["loop.example/accesspolicies/impl.levelNames"], fn := fun _ => fun
  | [d, g1] => { results := [.lit (.bool false)], args := [d], vars := [g1] }
  | _ => none }
def FnExactLabelTextWrongFalsely : Prop := fnExactLabelTextRow.holds Tryd.pinned (OpenSpec.ofChange fnExactLabelTextWrong)

/-- 'laws.FnExactReadLabel': WHATEVER THE INPUT: true; the input reads as it did. -/
def fnExactReadLabelSpec : ChangeSpec := { name := "fnExactReadLabel", vars := ["loop.example/accesspolicies/impl.levelNames"], fn := fun _ => fun
  | [d, g1] => { results := [.lit (.bool true)], args := [d], vars := [g1] }
  | _ => none }
def fnExactReadLabelRow : OpenClaim := { program := "ytaefobabippnhaadoor", sum := "de871b871f3cc175d325e0bcce342bcf042613e7569ed987d53b3f666f43511a", func := "loop.example/accesspolicies/laws.FnExactReadLabel", spec := "fnExactReadLabel", inPlace := ["internal/abi.NoEscape", "internal/bytealg.MakeNoZero"], named := ["loop.example/accesspolicies/impl.levelNames"], apart := false, laid := [("loop.example/accesspolicies/impl.levelNames", laid_loop_example_accesspolicies_impl_levelNames)] }
def FnExactReadLabelSaid : Prop := fnExactReadLabelRow.holds Tryd.pinned (OpenSpec.ofChange fnExactReadLabelSpec)

/-- ITS FALSE NEIGHBOUR: 'it returns false'. Refute it at one input. -/
def fnExactReadLabelWrong : ChangeSpec := { name := "fnExactReadLabel", vars := ["loop.example/accesspolicies/impl.levelNames"], fn := fun _ => fun
  | [d, g1] => { results := [.lit (.bool false)], args := [d], vars := [g1] }
  | _ => none }
def FnExactReadLabelWrongFalsely : Prop := fnExactReadLabelRow.holds Tryd.pinned (OpenSpec.ofChange fnExactReadLabelWrong)

/-- 'laws.FnLabelText': WHATEVER THE INPUT: true; the input reads as it did. -/
def fnLabelTextSpec : ChangeSpec := { name := "fnLabelText", vars := ["loop.example/accesspolicies/impl.levelNames"], fn := fun _ => fun
  | [d, g1] => { results := [.lit (.bool true)], args := [d], vars := [g1] }
  | _ => none }
def fnLabelTextRow : OpenClaim := { program := "ytaefobabippnhaadoor", sum := "de871b871f3cc175d325e0bcce342bcf042613e7569ed987d53b3f666f43511a", func := "loop.example/accesspolicies/laws.FnLabelText", spec := "fnLabelText", inPlace := ["internal/abi.NoEscape", "internal/bytealg.MakeNoZero"], named := ["loop.example/accesspolicies/impl.levelNames"], apart := false, laid := [("loop.example/accesspolicies/impl.levelNames", laid_loop_example_accesspolicies_impl_levelNames)] }
def FnLabelTextSaid : Prop := fnLabelTextRow.holds Tryd.pinned (OpenSpec.ofChange fnLabelTextSpec)

/-- ITS FALSE NEIGHBOUR: 'it returns false'. Refute it at one input. -/
def fnLabelTextWrong : ChangeSpec := { name := "fnLabelText", vars := ["loop.example/accesspolicies/impl.levelNames"], fn := fun _ => fun
  | [d, g1] => { results := [.lit (.bool false)], args := [d], vars := [g1] }
  | _ => none }
def FnLabelTextWrongFalsely : Prop := fnLabelTextRow.holds Tryd.pinned (OpenSpec.ofChange fnLabelTextWrong)

/-- 'laws.FnReadLabel': WHATEVER THE INPUT: true; the input reads as it did. -/
def fnReadLabelSpec : ChangeSpec := { name := "fnReadLabel", vars := ["loop.example/accesspolicies/impl.levelNames"], fn := fun _ => fun
  | [d, g1] => { results := [.lit (.bool true)], args := [d], vars := [g1] }
  | _ => none }
def fnReadLabelRow : OpenClaim := { program := "ytaefobabippnhaadoor", sum := "de871b871f3cc175d325e0bcce342bcf042613e7569ed987d53b3f666f43511a", func := "loop.example/accesspolicies/laws.FnReadLabel", spec := "fnReadLabel", inPlace := ["internal/abi.NoEscape", "internal/bytealg.MakeNoZero"], named := ["loop.example/accesspolicies/impl.levelNames"], apart := false, laid := [("loop.example/accesspolicies/impl.levelNames", laid_loop_example_accesspolicies_impl_levelNames)] }
def FnReadLabelSaid : Prop := fnReadLabelRow.holds Tryd.pinned (OpenSpec.ofChange fnReadLabelSpec)

/-- ITS FALSE NEIGHBOUR: 'it returns false'. Refute it at one input. -/
def fnReadLabelWrong : ChangeSpec := { name := "fnReadLabel", vars := ["loop.example/accesspolicies/impl.levelNames"], fn := fun _ => fun
  | [d, g1] => { results := [.lit (.bool false)], args := [d], vars := [g1] }
  | _ => none }
def FnReadLabelWrongFalsely : Prop := fnReadLabelRow.holds Tryd.pinned (OpenSpec.ofChange fnReadLabelWrong)

/- THE SECOND FORM. 'bulk': how many values and letters a reading holds, each counted each time it is reached (what is shared counts as often as it is met; a slice's spare places count too). A statement '..UptoSaid' is the law's where the arguments, and the package variables that the reading takes, are together of bulk at most 1048576: NARROWER than '..Said'. Prove '..Said' where nothing that the law and all that it calls make is longer than what came in: it says more and counts as full. Else prove '..UptoSaid'. A law counts once. -/
mutual
def uptoBulk {H : Type} : DataW H → Nat
  | .lit (.string bytes) => bytes.length + 1
  | .lit _ => 1
  | .nil => 1
  | .ptr d => uptoBulk d + 1
  | .slice elems spare => uptoBulkAll elems + uptoBulkAll spare + 1
  | .agg parts => uptoBulkAll parts + 1
  | .iface _ d => uptoBulk d + 1
  | .map entries => uptoBulkEntries entries + 1
  | .held _ => 1
def uptoBulkAll {H : Type} : List (DataW H) → Nat
  | [] => 0
  | d :: r => uptoBulk d + uptoBulkAll r
def uptoBulkEntries {H : Type} : List (Lit × DataW H) → Nat
  | [] => 0
  | x :: r => uptoBulkEntry x + uptoBulkEntries r
def uptoBulkEntry {H : Type} : Lit × DataW H → Nat
  | (.string bytes, d) => bytes.length + uptoBulk d + 1
  | (_, d) => uptoBulk d + 1
 end
def uptoSmall : (H : Type) → List (DataW H) → Bool := fun _ ds => decide (uptoBulkAll ds ≤ 1048576)
def OpenSpec.upto (s : _root_.Go.ChangeSpec) : _root_.Go.OpenSpec := { _root_.Go.OpenSpec.ofChange s with cond := some uptoSmall }

/-- 'laws.FnExactLabelText', WHERE WHAT IT READS IS OF BULK AT MOST 1048576: true; the input reads as it did. -/
def fnExactLabelTextUptoRow : OpenClaim := { program := "ytaefobabippnhaadoor", sum := "de871b871f3cc175d325e0bcce342bcf042613e7569ed987d53b3f666f43511a", func := "loop.example/accesspolicies/laws.FnExactLabelText", spec := "fnExactLabelText", inPlace := ["internal/abi.NoEscape", "internal/bytealg.MakeNoZero"], named := ["loop.example/accesspolicies/impl.levelNames"], apart := false, laid := [("loop.example/accesspolicies/impl.levelNames", laid_loop_example_accesspolicies_impl_levelNames)], narrowed := true }
def FnExactLabelTextUptoSaid : Prop := fnExactLabelTextUptoRow.holds Tryd.pinned (OpenSpec.upto fnExactLabelTextSpec)

/-- 'laws.FnExactReadLabel', WHERE WHAT IT READS IS OF BULK AT MOST 1048576: true; the input reads as it did. -/
def fnExactReadLabelUptoRow : OpenClaim := { program := "ytaefobabippnhaadoor", sum := "de871b871f3cc175d325e0bcce342bcf042613e7569ed987d53b3f666f43511a", func := "loop.example/accesspolicies/laws.FnExactReadLabel", spec := "fnExactReadLabel", inPlace := ["internal/abi.NoEscape", "internal/bytealg.MakeNoZero"], named := ["loop.example/accesspolicies/impl.levelNames"], apart := false, laid := [("loop.example/accesspolicies/impl.levelNames", laid_loop_example_accesspolicies_impl_levelNames)], narrowed := true }
def FnExactReadLabelUptoSaid : Prop := fnExactReadLabelUptoRow.holds Tryd.pinned (OpenSpec.upto fnExactReadLabelSpec)

/-- 'laws.FnLabelText', WHERE WHAT IT READS IS OF BULK AT MOST 1048576: true; the input reads as it did. -/
def fnLabelTextUptoRow : OpenClaim := { program := "ytaefobabippnhaadoor", sum := "de871b871f3cc175d325e0bcce342bcf042613e7569ed987d53b3f666f43511a", func := "loop.example/accesspolicies/laws.FnLabelText", spec := "fnLabelText", inPlace := ["internal/abi.NoEscape", "internal/bytealg.MakeNoZero"], named := ["loop.example/accesspolicies/impl.levelNames"], apart := false, laid := [("loop.example/accesspolicies/impl.levelNames", laid_loop_example_accesspolicies_impl_levelNames)], narrowed := true }
def FnLabelTextUptoSaid : Prop := fnLabelTextUptoRow.holds Tryd.pinned (OpenSpec.upto fnLabelTextSpec)

/-- 'laws.FnReadLabel', WHERE WHAT IT READS IS OF BULK AT MOST 1048576: true; the input reads as it did. -/
def fnReadLabelUptoRow : OpenClaim := { program := "ytaefobabippnhaadoor", sum := "de871b871f3cc175d325e0bcce342bcf042613e7569ed987d53b3f666f43511a", func := "loop.example/accesspolicies/laws.FnReadLabel", spec := "fnReadLabel", inPlace := ["internal/abi.NoEscape", "internal/bytealg.MakeNoZero"], named := ["loop.example/accesspolicies/impl.levelNames"], apart := false, laid := [("loop.example/accesspolicies/impl.levelNames", laid_loop_example_accesspolicies_impl_levelNames)], narrowed := true }
def FnReadLabelUptoSaid : Prop := fnReadLabelUptoRow.holds Tryd.pinned (OpenSpec.upto fnReadLabelSpec)

end Rows
end Go.Proofs.YtaefobabippnhaaDoor
