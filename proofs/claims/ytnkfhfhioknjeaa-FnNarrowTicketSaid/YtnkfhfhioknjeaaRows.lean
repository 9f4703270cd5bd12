/-
  No cell of these rows narrows 'for every input' (looked for: loops, veiled, ifaces, maps, wideKeys, modest, calm, conditions, laid).
  DERIVED. THE GIVEN ROWS OF THIS SEAT. 8 by the template 'for every input the law returns true; each argument reads behind the call as it read before'; 0 by the template 'total and deterministic' (their statements: YtnkfhfhioknjeaaTotals.lean).
  GIVEN WITH THE SEED: the statements are not yours to turn. If you find one false, say at which input.
  Laid BY PROGRAM, IN A SANDBOX (cutbox-rows.mjs): the forced cells as the released guide's own fill.sh prints them over the translation 34af7cc44cb39ccb… (all of the seat's roots in one cut). By AI agents, Wed Nov 11 2026. No macro, syntax, notation, axiom, sorry.
-/
import Derived.Test.YtnkfhfhioknjeaaChecked
import GoSem.Claim
import GoSem.ClaimJoined
import GoSem.ClaimMapViews
import Derived.JoinedTies
import Derived.KernelRfl
namespace Go.Proofs.Ytnkfhfhioknjeaa
/- THE CELL 'sum', in the pinned program and in every row, IS THE sha256 OF THE DUMP (.gsa) THAT YtnkfhfhioknjeaaProg.lean LOADS. Nothing in Lean hashes anything: it is a label: what it is worth is what the hold of that sum in a sandbox is worth. -/
noncomputable def Try.pinned : Pinned := { name := "ytnkfhfhioknjeaa", sum := "34af7cc44cb39ccb33a77143d5cfe47c14f90b1c13886ea50d1cec832a226794", checked := Try.checked }
namespace Rows
def none {H : Type} : Left H := { results := [], args := [] }

/-- 'laws.FnExactTicketSeal': WHATEVER THE INPUT: true; the input reads as it did. -/
def fnExactTicketSealSpec : ChangeSpec := { name := "fnExactTicketSeal", fn := fun _ => fun
  | [d1, d2] => { results := [.lit (.bool true)], args := [d1, d2] }
  | _ => none }
def fnExactTicketSealRow : OpenClaim := { program := "ytnkfhfhioknjeaa", sum := "34af7cc44cb39ccb33a77143d5cfe47c14f90b1c13886ea50d1cec832a226794", func := "loop.example/accesspolicies/laws.FnExactTicketSeal", spec := "fnExactTicketSeal", apart := false }
def FnExactTicketSealSaid : Prop := fnExactTicketSealRow.holds Try.pinned (OpenSpec.ofChange fnExactTicketSealSpec)

/-- ITS FALSE NEIGHBOUR: 'it returns false'. Refute it at one input. -/
def fnExactTicketSealWrong : ChangeSpec := { name := "fnExactTicketSeal", fn := fun _ => fun
  | [d1, d2] => { results := [.lit (.bool false)], args := [d1, d2] }
  | _ => none }
def FnExactTicketSealWrongFalsely : Prop := fnExactTicketSealRow.holds Try.pinned (OpenSpec.ofChange fnExactTicketSealWrong)

/-- 'laws.FnTicketSeal': WHATEVER THE INPUT: true; the input reads as it did. -/
def fnTicketSealSpec : ChangeSpec := { name := "fnTicketSeal", fn := fun _ => fun
  | [d] => { results := [.lit (.bool true)], args := [d] }
  | _ => none }
def fnTicketSealRow : OpenClaim := { program := "ytnkfhfhioknjeaa", sum := "34af7cc44cb39ccb33a77143d5cfe47c14f90b1c13886ea50d1cec832a226794", func := "loop.example/accesspolicies/laws.FnTicketSeal", spec := "fnTicketSeal", apart := false }
def FnTicketSealSaid : Prop := fnTicketSealRow.holds Try.pinned (OpenSpec.ofChange fnTicketSealSpec)

/-- ITS FALSE NEIGHBOUR: 'it returns false'. Refute it at one input. -/
def fnTicketSealWrong : ChangeSpec := { name := "fnTicketSeal", fn := fun _ => fun
  | [d] => { results := [.lit (.bool false)], args := [d] }
  | _ => none }
def FnTicketSealWrongFalsely : Prop := fnTicketSealRow.holds Try.pinned (OpenSpec.ofChange fnTicketSealWrong)

/-- 'laws.FnExactMakeTicket': WHATEVER THE INPUT: true; the input reads as it did. -/
def fnExactMakeTicketSpec : ChangeSpec := { name := "fnExactMakeTicket", fn := fun _ => fun
  | [d1, d2, d3, d4] => { results := [.lit (.bool true)], args := [d1, d2, d3, d4] }
  | _ => none }
def fnExactMakeTicketRow : OpenClaim := { program := "ytnkfhfhioknjeaa", sum := "34af7cc44cb39ccb33a77143d5cfe47c14f90b1c13886ea50d1cec832a226794", func := "loop.example/accesspolicies/laws.FnExactMakeTicket", spec := "fnExactMakeTicket", apart := false }
def FnExactMakeTicketSaid : Prop := fnExactMakeTicketRow.holds Try.pinned (OpenSpec.ofChange fnExactMakeTicketSpec)

/-- ITS FALSE NEIGHBOUR: 'it returns false'. Refute it at one input. -/
def fnExactMakeTicketWrong : ChangeSpec := { name := "fnExactMakeTicket", fn := fun _ => fun
  | [d1, d2, d3, d4] => { results := [.lit (.bool false)], args := [d1, d2, d3, d4] }
  | _ => none }
def FnExactMakeTicketWrongFalsely : Prop := fnExactMakeTicketRow.holds Try.pinned (OpenSpec.ofChange fnExactMakeTicketWrong)

/-- 'laws.FnMakeTicket': WHATEVER THE INPUT: true; the input reads as it did. -/
def fnMakeTicketSpec : ChangeSpec := { name := "fnMakeTicket", fn := fun _ => fun
  | [d] => { results := [.lit (.bool true)], args := [d] }
  | _ => none }
def fnMakeTicketRow : OpenClaim := { program := "ytnkfhfhioknjeaa", sum := "34af7cc44cb39ccb33a77143d5cfe47c14f90b1c13886ea50d1cec832a226794", func := "loop.example/accesspolicies/laws.FnMakeTicket", spec := "fnMakeTicket", apart := false }
def FnMakeTicketSaid : Prop := fnMakeTicketRow.holds Try.pinned (OpenSpec.ofChange fnMakeTicketSpec)

/-- ITS FALSE NEIGHBOUR: 'it returns false'. Refute it at one input. -/
def fnMakeTicketWrong : ChangeSpec := { name := "fnMakeTicket", fn := fun _ => fun
  | [d] => { results := [.lit (.bool false)], args := [d] }
  | _ => none }
def FnMakeTicketWrongFalsely : Prop := fnMakeTicketRow.holds Try.pinned (OpenSpec.ofChange fnMakeTicketWrong)

/-- 'laws.FnExactNarrowTicket': WHATEVER THE INPUT: true; the input reads as it did. -/
def fnExactNarrowTicketSpec : ChangeSpec := { name := "fnExactNarrowTicket", fn := fun _ => fun
  | [d1, d2] => { results := [.lit (.bool true)], args := [d1, d2] }
  | _ => none }
def fnExactNarrowTicketRow : OpenClaim := { program := "ytnkfhfhioknjeaa", sum := "34af7cc44cb39ccb33a77143d5cfe47c14f90b1c13886ea50d1cec832a226794", func := "loop.example/accesspolicies/laws.FnExactNarrowTicket", spec := "fnExactNarrowTicket", apart := false }
def FnExactNarrowTicketSaid : Prop := fnExactNarrowTicketRow.holds Try.pinned (OpenSpec.ofChange fnExactNarrowTicketSpec)

/-- ITS FALSE NEIGHBOUR: 'it returns false'. Refute it at one input. -/
def fnExactNarrowTicketWrong : ChangeSpec := { name := "fnExactNarrowTicket", fn := fun _ => fun
  | [d1, d2] => { results := [.lit (.bool false)], args := [d1, d2] }
  | _ => none }
def FnExactNarrowTicketWrongFalsely : Prop := fnExactNarrowTicketRow.holds Try.pinned (OpenSpec.ofChange fnExactNarrowTicketWrong)

/-- 'laws.FnNarrowTicket': WHATEVER THE INPUT: true; the input reads as it did. -/
def fnNarrowTicketSpec : ChangeSpec := { name := "fnNarrowTicket", fn := fun _ => fun
  | [d] => { results := [.lit (.bool true)], args := [d] }
  | _ => none }
def fnNarrowTicketRow : OpenClaim := { program := "ytnkfhfhioknjeaa", sum := "34af7cc44cb39ccb33a77143d5cfe47c14f90b1c13886ea50d1cec832a226794", func := "loop.example/accesspolicies/laws.FnNarrowTicket", spec := "fnNarrowTicket", apart := false }
def FnNarrowTicketSaid : Prop := fnNarrowTicketRow.holds Try.pinned (OpenSpec.ofChange fnNarrowTicketSpec)

/-- ITS FALSE NEIGHBOUR: 'it returns false'. Refute it at one input. -/
def fnNarrowTicketWrong : ChangeSpec := { name := "fnNarrowTicket", fn := fun _ => fun
  | [d] => { results := [.lit (.bool false)], args := [d] }
  | _ => none }
def FnNarrowTicketWrongFalsely : Prop := fnNarrowTicketRow.holds Try.pinned (OpenSpec.ofChange fnNarrowTicketWrong)

/-- 'laws.FnExactTicketActs': WHATEVER THE INPUT: true; the input reads as it did. -/
def fnExactTicketActsSpec : ChangeSpec := { name := "fnExactTicketActs", fn := fun _ => fun
  | [d1, d2, d3, d4] => { results := [.lit (.bool true)], args := [d1, d2, d3, d4] }
  | _ => none }
def fnExactTicketActsRow : OpenClaim := { program := "ytnkfhfhioknjeaa", sum := "34af7cc44cb39ccb33a77143d5cfe47c14f90b1c13886ea50d1cec832a226794", func := "loop.example/accesspolicies/laws.FnExactTicketActs", spec := "fnExactTicketActs", apart := false }
def FnExactTicketActsSaid : Prop := fnExactTicketActsRow.holds Try.pinned (OpenSpec.ofChange fnExactTicketActsSpec)

/-- ITS FALSE NEIGHBOUR: 'it returns false'. Refute it at one input. -/
def fnExactTicketActsWrong : ChangeSpec := { name := "fnExactTicketActs", fn := fun _ => fun
  | [d1, d2, d3, d4] => { results := [.lit (.bool false)], args := [d1, d2, d3, d4] }
  | _ => none }
def FnExactTicketActsWrongFalsely : Prop := fnExactTicketActsRow.holds Try.pinned (OpenSpec.ofChange fnExactTicketActsWrong)

/-- 'laws.FnTicketActs': WHATEVER THE INPUT: true; the input reads as it did. -/
def fnTicketActsSpec : ChangeSpec := { name := "fnTicketActs", fn := fun _ => fun
  | [d] => { results := [.lit (.bool true)], args := [d] }
  | _ => none }
def fnTicketActsRow : OpenClaim := { program := "ytnkfhfhioknjeaa", sum := "34af7cc44cb39ccb33a77143d5cfe47c14f90b1c13886ea50d1cec832a226794", func := "loop.example/accesspolicies/laws.FnTicketActs", spec := "fnTicketActs", apart := false }
def FnTicketActsSaid : Prop := fnTicketActsRow.holds Try.pinned (OpenSpec.ofChange fnTicketActsSpec)

/-- ITS FALSE NEIGHBOUR: 'it returns false'. Refute it at one input. -/
def fnTicketActsWrong : ChangeSpec := { name := "fnTicketActs", fn := fun _ => fun
  | [d] => { results := [.lit (.bool false)], args := [d] }
  | _ => none }
def FnTicketActsWrongFalsely : Prop := fnTicketActsRow.holds Try.pinned (OpenSpec.ofChange fnTicketActsWrong)

/- THE SECOND FORM. 'bulk': how many values and letters a reading holds, each counted each time it is reached (what is shared counts as often as it is met; a slice's spare places count too). A statement '..UptoSaid' is the law's where the arguments, and the package variables that the reading takes, are together of bulk at most 1048576: NARROWER than '..Said'. Prove '..Said' where nothing that the law and all that it calls make is longer than what came in: it says more and counts as full. Else prove '..UptoSaid'. A law counts once. -/
mutual
def uptoBulk {H : Type} : DataW H → Nat
  | .lit (.string bytes) => bytes.length + 1
  | .lit _ => 1
  | .nil => 1
  | .ptr d => uptoBulk d + 1
  | .slice elems spare => uptoBulkAll elems + uptoBulkAll spare + 1
  | .agg parts => uptoBulkAll parts + 1
  | .iface _ d => uptoBulk d + 1
  | .map entries => uptoBulkEntries entries + 1
  | .held _ => 1
def uptoBulkAll {H : Type} : List (DataW H) → Nat
  | [] => 0
  | d :: r => uptoBulk d + uptoBulkAll r
def uptoBulkEntries {H : Type} : List (Lit × DataW H) → Nat
  | [] => 0
  | x :: r => uptoBulkEntry x + uptoBulkEntries r
def uptoBulkEntry {H : Type} : Lit × DataW H → Nat
  | (.string bytes, d) => bytes.length + uptoBulk d + 1
  | (_, d) => uptoBulk d + 1
 end
def uptoSmall : (H : Type) → List (DataW H) → Bool := fun _ ds => decide (uptoBulkAll ds ≤ 1048576)
def OpenSpec.upto (s : _root_.Go.ChangeSpec) : _root_.Go.OpenSpec := { _root_.Go.OpenSpec.ofChange s with cond := some uptoSmall }

/-- 'laws.FnExactTicketSeal', WHERE WHAT IT READS IS OF BULK AT MOST 1048576: true; the input reads as it did. -/
def fnExactTicketSealUptoRow : OpenClaim := { program := "ytnkfhfhioknjeaa", sum := "34af7cc44cb39ccb33a77143d5cfe47c14f90b1c13886ea50d1cec832a226794", func := "loop.example/accesspolicies/laws.FnExactTicketSeal", spec := "fnExactTicketSeal", apart := false, narrowed := true }
def FnExactTicketSealUptoSaid : Prop := fnExactTicketSealUptoRow.holds Try.pinned (OpenSpec.upto fnExactTicketSealSpec)

/-- 'laws.FnTicketSeal', WHERE WHAT IT READS IS OF BULK AT MOST 1048576: true; the input reads as it did. -/
def fnTicketSealUptoRow : OpenClaim := { program := "ytnkfhfhioknjeaa", sum := "34af7cc44cb39ccb33a77143d5cfe47c14f90b1c13886ea50d1cec832a226794", func := "loop.example/accesspolicies/laws.FnTicketSeal", spec := "fnTicketSeal", apart := false, narrowed := true }
def FnTicketSealUptoSaid : Prop := fnTicketSealUptoRow.holds Try.pinned (OpenSpec.upto fnTicketSealSpec)

/-- 'laws.FnExactMakeTicket', WHERE WHAT IT READS IS OF BULK AT MOST 1048576: true; the input reads as it did. -/
def fnExactMakeTicketUptoRow : OpenClaim := { program := "ytnkfhfhioknjeaa", sum := "34af7cc44cb39ccb33a77143d5cfe47c14f90b1c13886ea50d1cec832a226794", func := "loop.example/accesspolicies/laws.FnExactMakeTicket", spec := "fnExactMakeTicket", apart := false, narrowed := true }
def FnExactMakeTicketUptoSaid : Prop := fnExactMakeTicketUptoRow.holds Try.pinned (OpenSpec.upto fnExactMakeTicketSpec)

/-- 'laws.FnMakeTicket', WHERE WHAT IT READS IS OF BULK AT MOST 1048576: true; the input reads as it did. -/
def fnMakeTicketUptoRow : OpenClaim := { program := "ytnkfhfhioknjeaa", sum := "34af7cc44cb39ccb33a77143d5cfe47c14f90b1c13886ea50d1cec832a226794", func := "loop.example/accesspolicies/laws.FnMakeTicket", spec := "fnMakeTicket", apart := false, narrowed := true }
def FnMakeTicketUptoSaid : Prop := fnMakeTicketUptoRow.holds Try.pinned (OpenSpec.upto fnMakeTicketSpec)

/-- 'laws.FnExactNarrowTicket', WHERE WHAT IT READS IS OF BULK AT MOST 1048576: true; the input reads as it did. -/
def fnExactNarrowTicketUptoRow : OpenClaim := { program := "ytnkfhfhioknjeaa", sum := "34af7cc44cb39ccb33a77143d5cfe47c14f90b1c13886ea50d1cec832a226794", func := "loop.example/accesspolicies/laws.FnExactNarrowTicket", spec := "fnExactNarrowTicket", apart := false, narrowed := true }
def FnExactNarrowTicketUptoSaid : Prop := fnExactNarrowTicketUptoRow.holds Try.pinned (OpenSpec.upto fnExactNarrowTicketSpec)

/-- 'laws.FnNarrowTicket', WHERE WHAT IT READS IS OF BULK AT MOST 1048576: true; the input reads as it did. -/
def fnNarrowTicketUptoRow : OpenClaim := { program := "ytnkfhfhioknjeaa", sum := "34af7cc44cb39ccb33a77143d5cfe47c14f90b1c13886ea50d1cec832a226794", func := "loop.example/accesspolicies/laws.FnNarrowTicket", spec := "fnNarrowTicket", apart := false, narrowed := true }
def FnNarrowTicketUptoSaid : Prop := fnNarrowTicketUptoRow.holds Try.pinned (OpenSpec.upto fnNarrowTicketSpec)

/-- 'laws.FnExactTicketActs', WHERE WHAT IT READS IS OF BULK AT MOST 1048576: true; the input reads as it did. -/
def fnExactTicketActsUptoRow : OpenClaim := { program := "ytnkfhfhioknjeaa", sum := "34af7cc44cb39ccb33a77143d5cfe47c14f90b1c13886ea50d1cec832a226794", func := "loop.example/accesspolicies/laws.FnExactTicketActs", spec := "fnExactTicketActs", apart := false, narrowed := true }
def FnExactTicketActsUptoSaid : Prop := fnExactTicketActsUptoRow.holds Try.pinned (OpenSpec.upto fnExactTicketActsSpec)

/-- 'laws.FnTicketActs', WHERE WHAT IT READS IS OF BULK AT MOST 1048576: true; the input reads as it did. -/
def fnTicketActsUptoRow : OpenClaim := { program := "ytnkfhfhioknjeaa", sum := "34af7cc44cb39ccb33a77143d5cfe47c14f90b1c13886ea50d1cec832a226794", func := "loop.example/accesspolicies/laws.FnTicketActs", spec := "fnTicketActs", apart := false, narrowed := true }
def FnTicketActsUptoSaid : Prop := fnTicketActsUptoRow.holds Try.pinned (OpenSpec.upto fnTicketActsSpec)

end Rows
end Go.Proofs.Ytnkfhfhioknjeaa
