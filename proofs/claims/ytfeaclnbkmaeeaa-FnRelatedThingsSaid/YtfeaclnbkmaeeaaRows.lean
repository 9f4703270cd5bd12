/-
  No cell of these rows narrows 'for every input' (looked for: loops, veiled, ifaces, maps, wideKeys, modest, calm, conditions, laid).
  DERIVED. THE GIVEN ROWS OF THIS SEAT. 6 by the template 'for every input the law returns true; each argument reads behind the call as it read before'; 0 by the template 'total and deterministic' (their statements: YtfeaclnbkmaeeaaTotals.lean).
  GIVEN WITH THE SEED: the statements are not yours to turn. If you find one false, say at which input.
  Laid BY PROGRAM, IN A SANDBOX (cutbox-rows.mjs): the forced cells as the released guide's own fill.sh prints them over the translation 24dd3a5a3f9ed0b5… (all of the seat's roots in one cut). By AI agents, Wed Nov 11 2026. No macro, syntax, notation, axiom, sorry.
-/
import Derived.Test.YtfeaclnbkmaeeaaChecked
import GoSem.Claim
import GoSem.ClaimJoined
import GoSem.ClaimMapViews
import Derived.JoinedTies
import Derived.KernelRfl
namespace Go.Proofs.Ytfeaclnbkmaeeaa
/- THE CELL 'sum', in the pinned program and in every row, IS THE sha256 OF THE DUMP (.gsa) THAT YtfeaclnbkmaeeaaProg.lean LOADS. Nothing in Lean hashes anything: it is a label: what it is worth is what the hold of that sum in a sandbox is worth. -/
noncomputable def Try.pinned : Pinned := { name := "ytfeaclnbkmaeeaa", sum := "24dd3a5a3f9ed0b5caeb6c6b5174c2e7ef861a9de69a57a061434d1801595a29", checked := Try.checked }
namespace Rows
def none {H : Type} : Left H := { results := [], args := [] }

/-- 'laws.FnExactTuplesValid': WHATEVER THE INPUT: true; the input reads as it did. -/
def fnExactTuplesValidSpec : ChangeSpec := { name := "fnExactTuplesValid", fn := fun _ => fun
  | [d] => { results := [.lit (.bool true)], args := [d] }
  | _ => none }
def fnExactTuplesValidRow : OpenClaim := { program := "ytfeaclnbkmaeeaa", sum := "24dd3a5a3f9ed0b5caeb6c6b5174c2e7ef861a9de69a57a061434d1801595a29", func := "loop.example/accesspolicies/laws.FnExactTuplesValid", spec := "fnExactTuplesValid", apart := false }
def FnExactTuplesValidSaid : Prop := fnExactTuplesValidRow.holds Try.pinned (OpenSpec.ofChange fnExactTuplesValidSpec)

/-- ITS FALSE NEIGHBOUR: 'it returns false'. Refute it at one input. -/
def fnExactTuplesValidWrong : ChangeSpec := { name := "fnExactTuplesValid", fn := fun _ => fun
  | [d] => { results := [.lit (.bool false)], args := [d] }
  | _ => none }
def FnExactTuplesValidWrongFalsely : Prop := fnExactTuplesValidRow.holds Try.pinned (OpenSpec.ofChange fnExactTuplesValidWrong)

/-- 'laws.FnTuplesValid': WHATEVER THE INPUT: true; the input reads as it did. -/
def fnTuplesValidSpec : ChangeSpec := { name := "fnTuplesValid", fn := fun _ => fun
  | [d] => { results := [.lit (.bool true)], args := [d] }
  | _ => none }
def fnTuplesValidRow : OpenClaim := { program := "ytfeaclnbkmaeeaa", sum := "24dd3a5a3f9ed0b5caeb6c6b5174c2e7ef861a9de69a57a061434d1801595a29", func := "loop.example/accesspolicies/laws.FnTuplesValid", spec := "fnTuplesValid", apart := false }
def FnTuplesValidSaid : Prop := fnTuplesValidRow.holds Try.pinned (OpenSpec.ofChange fnTuplesValidSpec)

/-- ITS FALSE NEIGHBOUR: 'it returns false'. Refute it at one input. -/
def fnTuplesValidWrong : ChangeSpec := { name := "fnTuplesValid", fn := fun _ => fun
  | [d] => { results := [.lit (.bool false)], args := [d] }
  | _ => none }
def FnTuplesValidWrongFalsely : Prop := fnTuplesValidRow.holds Try.pinned (OpenSpec.ofChange fnTuplesValidWrong)

/-- 'laws.FnExactIsRelated': WHATEVER THE INPUT: true; the input reads as it did. -/
def fnExactIsRelatedSpec : ChangeSpec := { name := "fnExactIsRelated", fn := fun _ => fun
  | [d1, d2, d3, d4] => { results := [.lit (.bool true)], args := [d1, d2, d3, d4] }
  | _ => none }
def fnExactIsRelatedRow : OpenClaim := { program := "ytfeaclnbkmaeeaa", sum := "24dd3a5a3f9ed0b5caeb6c6b5174c2e7ef861a9de69a57a061434d1801595a29", func := "loop.example/accesspolicies/laws.FnExactIsRelated", spec := "fnExactIsRelated", recurses := true, apart := false }
def FnExactIsRelatedSaid : Prop := fnExactIsRelatedRow.holds Try.pinned (OpenSpec.ofChange fnExactIsRelatedSpec)

/-- ITS FALSE NEIGHBOUR: 'it returns false'. Refute it at one input. -/
def fnExactIsRelatedWrong : ChangeSpec := { name := "fnExactIsRelated", fn := fun _ => fun
  | [d1, d2, d3, d4] => { results := [.lit (.bool false)], args := [d1, d2, d3, d4] }
  | _ => none }
def FnExactIsRelatedWrongFalsely : Prop := fnExactIsRelatedRow.holds Try.pinned (OpenSpec.ofChange fnExactIsRelatedWrong)

/-- 'laws.FnIsRelated': WHATEVER THE INPUT: true; the input reads as it did. -/
def fnIsRelatedSpec : ChangeSpec := { name := "fnIsRelated", fn := fun _ => fun
  | [d] => { results := [.lit (.bool true)], args := [d] }
  | _ => none }
def fnIsRelatedRow : OpenClaim := { program := "ytfeaclnbkmaeeaa", sum := "24dd3a5a3f9ed0b5caeb6c6b5174c2e7ef861a9de69a57a061434d1801595a29", func := "loop.example/accesspolicies/laws.FnIsRelated", spec := "fnIsRelated", recurses := true, apart := false }
def FnIsRelatedSaid : Prop := fnIsRelatedRow.holds Try.pinned (OpenSpec.ofChange fnIsRelatedSpec)

/-- ITS FALSE NEIGHBOUR: 'it returns false'. Refute it at one input. -/
def fnIsRelatedWrong : ChangeSpec := { name := "fnIsRelated", fn := fun _ => fun
  | [d] => { results := [.lit (.bool false)], args := [d] }
  | _ => none }
def FnIsRelatedWrongFalsely : Prop := fnIsRelatedRow.holds Try.pinned (OpenSpec.ofChange fnIsRelatedWrong)

/-- 'laws.FnExactRelatedThings': WHATEVER THE INPUT: true; the input reads as it did. -/
def fnExactRelatedThingsSpec : ChangeSpec := { name := "fnExactRelatedThings", fn := fun _ => fun
  | [d1, d2, d3] => { results := [.lit (.bool true)], args := [d1, d2, d3] }
  | _ => none }
def fnExactRelatedThingsRow : OpenClaim := { program := "ytfeaclnbkmaeeaa", sum := "24dd3a5a3f9ed0b5caeb6c6b5174c2e7ef861a9de69a57a061434d1801595a29", func := "loop.example/accesspolicies/laws.FnExactRelatedThings", spec := "fnExactRelatedThings", recurses := true, apart := false }
def FnExactRelatedThingsSaid : Prop := fnExactRelatedThingsRow.holds Try.pinned (OpenSpec.ofChange fnExactRelatedThingsSpec)

/-- ITS FALSE NEIGHBOUR: 'it returns false'. Refute it at one input. -/
def fnExactRelatedThingsWrong : ChangeSpec := { name := "fnExactRelatedThings", fn := fun _ => fun
  | [d1, d2, d3] => { results := [.lit (.bool false)], args := [d1, d2, d3] }
  | _ => none }
def FnExactRelatedThingsWrongFalsely : Prop := fnExactRelatedThingsRow.holds Try.pinned (OpenSpec.ofChange fnExactRelatedThingsWrong)

/-- 'laws.FnRelatedThings': WHATEVER THE INPUT: true; the input reads as it did. -/
def fnRelatedThingsSpec : ChangeSpec := { name := "fnRelatedThings", fn := fun _ => fun
  | [d] => { results := [.lit (.bool true)], args := [d] }
  | _ => none }
def fnRelatedThingsRow : OpenClaim := { program := "ytfeaclnbkmaeeaa", sum := "24dd3a5a3f9ed0b5caeb6c6b5174c2e7ef861a9de69a57a061434d1801595a29", func := "loop.example/accesspolicies/laws.FnRelatedThings", spec := "fnRelatedThings", recurses := true, apart := false }
def FnRelatedThingsSaid : Prop := fnRelatedThingsRow.holds Try.pinned (OpenSpec.ofChange fnRelatedThingsSpec)

/-- ITS FALSE NEIGHBOUR: 'it returns false'. Refute it at one input. -/
def fnRelatedThingsWrong : ChangeSpec := { name := "fnRelatedThings", fn := fun _ => fun
  | [d] => { results := [.lit (.bool false)], args := [d] }
  | _ => none }
def FnRelatedThingsWrongFalsely : Prop := fnRelatedThingsRow.holds Try.pinned (OpenSpec.ofChange fnRelatedThingsWrong)

/- THE SECOND FORM. 'bulk': how many values and letters a reading holds, each counted each time it is reached (what is shared counts as often as it is met; a slice's spare places count too). A statement '..UptoSaid' is the law's where the arguments, and the package variables that the reading takes, are together of bulk at most 1048576: NARROWER than '..Said'. Prove '..Said' where nothing that the law and all that it calls make is longer than what came in: it says more and counts as full. Else prove '..UptoSaid'. A law counts once. -/
mutual
def uptoBulk {H : Type} : DataW H → Nat
  | .lit (.string bytes) => bytes.length + 1
  | .lit _ => 1
  | .nil => 1
  | .ptr d => uptoBulk d + 1
  | .slice elems spare => uptoBulkAll elems + uptoBulkAll spare + 1
  | .agg parts => uptoBulkAll parts + 1
  | .iface _ d => uptoBulk d + 1
  | .map entries => uptoBulkEntries entries + 1
  | .held _ => 1
def uptoBulkAll {H : Type} : List (DataW H) → Nat
  | [] => 0
  | d :: r => uptoBulk d + uptoBulkAll r
def uptoBulkEntries {H : Type} : List (Lit × DataW H) → Nat
  | [] => 0
  | x :: r => uptoBulkEntry x + uptoBulkEntries r
def uptoBulkEntry {H : Type} : Lit × DataW H → Nat
  | (.string bytes, d) => bytes.length + uptoBulk d + 1
  | (_, d) => uptoBulk d + 1
 end
def uptoSmall : (H : Type) → List (DataW H) → Bool := fun _ ds => decide (uptoBulkAll ds ≤ 1048576)
def OpenSpec.upto (s : _root_.Go.ChangeSpec) : _root_.Go.OpenSpec := { _root_.Go.OpenSpec.ofChange s with cond := some uptoSmall }

/-- 'laws.FnExactTuplesValid', WHERE WHAT IT READS IS OF BULK AT MOST 1048576: true; the input reads as it did. -/
def fnExactTuplesValidUptoRow : OpenClaim := { program := "ytfeaclnbkmaeeaa", sum := "24dd3a5a3f9ed0b5caeb6c6b5174c2e7ef861a9de69a57a061434d1801595a29", func := "loop.example/accesspolicies/laws.FnExactTuplesValid", spec := "fnExactTuplesValid", apart := false, narrowed := true }
def FnExactTuplesValidUptoSaid : Prop := fnExactTuplesValidUptoRow.holds Try.pinned (OpenSpec.upto fnExactTuplesValidSpec)

/-- 'laws.FnTuplesValid', WHERE WHAT IT READS IS OF BULK AT MOST 1048576: true; the input reads as it did. -/
def fnTuplesValidUptoRow : OpenClaim := { program := "ytfeaclnbkmaeeaa", sum := "24dd3a5a3f9ed0b5caeb6c6b5174c2e7ef861a9de69a57a061434d1801595a29", func := "loop.example/accesspolicies/laws.FnTuplesValid", spec := "fnTuplesValid", apart := false, narrowed := true }
def FnTuplesValidUptoSaid : Prop := fnTuplesValidUptoRow.holds Try.pinned (OpenSpec.upto fnTuplesValidSpec)

/-- 'laws.FnExactIsRelated', WHERE WHAT IT READS IS OF BULK AT MOST 1048576: true; the input reads as it did. -/
def fnExactIsRelatedUptoRow : OpenClaim := { program := "ytfeaclnbkmaeeaa", sum := "24dd3a5a3f9ed0b5caeb6c6b5174c2e7ef861a9de69a57a061434d1801595a29", func := "loop.example/accesspolicies/laws.FnExactIsRelated", spec := "fnExactIsRelated", recurses := true, apart := false, narrowed := true }
def FnExactIsRelatedUptoSaid : Prop := fnExactIsRelatedUptoRow.holds Try.pinned (OpenSpec.upto fnExactIsRelatedSpec)

/-- 'laws.FnIsRelated', WHERE WHAT IT READS IS OF BULK AT MOST 1048576: true; the input reads as it did. -/
def fnIsRelatedUptoRow : OpenClaim := { program := "ytfeaclnbkmaeeaa", sum := "24dd3a5a3f9ed0b5caeb6c6b5174c2e7ef861a9de69a57a061434d1801595a29", func := "loop.example/accesspolicies/laws.FnIsRelated", spec := "fnIsRelated", recurses := true, apart := false, narrowed := true }
def FnIsRelatedUptoSaid : Prop := fnIsRelatedUptoRow.holds Try.pinned (OpenSpec.upto fnIsRelatedSpec)

/-- 'laws.FnExactRelatedThings', WHERE WHAT IT READS IS OF BULK AT MOST 1048576: true; the input reads as it did. -/
def fnExactRelatedThingsUptoRow : OpenClaim := { program := "ytfeaclnbkmaeeaa", sum := "24dd3a5a3f9ed0b5caeb6c6b5174c2e7ef861a9de69a57a061434d1801595a29", func := "loop.example/accesspolicies/laws.FnExactRelatedThings", spec := "fnExactRelatedThings", recurses := true, apart := false, narrowed := true }
def FnExactRelatedThingsUptoSaid : Prop := fnExactRelatedThingsUptoRow.holds Try.pinned (OpenSpec.upto fnExactRelatedThingsSpec)

/-- 'laws.FnRelatedThings', WHERE WHAT IT READS IS OF BULK AT MOST 1048576: true; the input reads as it did. -/
def fnRelatedThingsUptoRow : OpenClaim := { program := "ytfeaclnbkmaeeaa", sum := "24dd3a5a3f9ed0b5caeb6c6b5174c2e7ef861a9de69a57a061434d1801595a29", func := "loop.example/accesspolicies/laws.FnRelatedThings", spec := "fnRelatedThings", recurses := true, apart := false, narrowed := true }
def FnRelatedThingsUptoSaid : Prop := fnRelatedThingsUptoRow.holds Try.pinned (OpenSpec.upto fnRelatedThingsSpec)

end Rows
end Go.Proofs.Ytfeaclnbkmaeeaa
