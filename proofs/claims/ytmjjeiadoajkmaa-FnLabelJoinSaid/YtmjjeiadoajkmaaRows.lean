/-
  No cell of these rows narrows 'for every input' (looked for: loops, veiled, ifaces, maps, wideKeys, modest, calm, conditions, laid).
  DERIVED. THE GIVEN ROWS OF THIS SEAT. 8 by the template 'for every input the law returns true; each argument reads behind the call as it read before'; 0 by the template 'total and deterministic' (their statements: YtmjjeiadoajkmaaTotals.lean).
  GIVEN WITH THE SEED: the statements are not yours to turn. If you find one false, say at which input.
  Laid BY PROGRAM, IN A SANDBOX (cutbox-rows.mjs): the forced cells as the released guide's own fill.sh prints them over the translation 1254d0b69dd2f5e8… (all of the seat's roots in one cut). By AI agents, Wed Nov 11 2026. No macro, syntax, notation, axiom, sorry.
-/
import Derived.Test.YtmjjeiadoajkmaaChecked
import GoSem.Claim
import GoSem.ClaimJoined
import GoSem.ClaimMapViews
import Derived.JoinedTies
import Derived.KernelRfl
namespace Go.Proofs.Ytmjjeiadoajkmaa
/- THE CELL 'sum', in the pinned program and in every row, IS THE sha256 OF THE DUMP (.gsa) THAT YtmjjeiadoajkmaaProg.lean LOADS. Nothing in Lean hashes anything: it is a label: what it is worth is what the hold of that sum in a sandbox is worth. -/
noncomputable def Try.pinned : Pinned := { name := "ytmjjeiadoajkmaa", sum := "1254d0b69dd2f5e88cdd21479c53325ddc465c261c57db8970d7b0e2d58eb659", checked := Try.checked }
namespace Rows
def none {H : Type} : Left H := { results := [], args := [] }

/-- 'laws.FnExactLabelValid': WHATEVER THE INPUT: true; the input reads as it did. -/
def fnExactLabelValidSpec : ChangeSpec := { name := "fnExactLabelValid", fn := fun _ => fun
  | [d] => { results := [.lit (.bool true)], args := [d] }
  | _ => none }
def fnExactLabelValidRow : OpenClaim := { program := "ytmjjeiadoajkmaa", sum := "1254d0b69dd2f5e88cdd21479c53325ddc465c261c57db8970d7b0e2d58eb659", func := "loop.example/accesspolicies/laws.FnExactLabelValid", spec := "fnExactLabelValid", apart := false }
def FnExactLabelValidSaid : Prop := fnExactLabelValidRow.holds Try.pinned (OpenSpec.ofChange fnExactLabelValidSpec)

/-- ITS FALSE NEIGHBOUR: 'it returns false'. Refute it at one input. -/
def fnExactLabelValidWrong : ChangeSpec := { name := "fnExactLabelValid", fn := fun _ => fun
  | [d] => { results := [.lit (.bool false)], args := [d] }
  | _ => none }
def FnExactLabelValidWrongFalsely : Prop := fnExactLabelValidRow.holds Try.pinned (OpenSpec.ofChange fnExactLabelValidWrong)

/-- 'laws.FnExactLabelBelow': WHATEVER THE INPUT: true; the input reads as it did. -/
def fnExactLabelBelowSpec : ChangeSpec := { name := "fnExactLabelBelow", fn := fun _ => fun
  | [d1, d2] => { results := [.lit (.bool true)], args := [d1, d2] }
  | _ => none }
def fnExactLabelBelowRow : OpenClaim := { program := "ytmjjeiadoajkmaa", sum := "1254d0b69dd2f5e88cdd21479c53325ddc465c261c57db8970d7b0e2d58eb659", func := "loop.example/accesspolicies/laws.FnExactLabelBelow", spec := "fnExactLabelBelow", apart := false }
def FnExactLabelBelowSaid : Prop := fnExactLabelBelowRow.holds Try.pinned (OpenSpec.ofChange fnExactLabelBelowSpec)

/-- ITS FALSE NEIGHBOUR: 'it returns false'. Refute it at one input. -/
def fnExactLabelBelowWrong : ChangeSpec := { name := "fnExactLabelBelow", fn := fun _ => fun
  | [d1, d2] => { results := [.lit (.bool false)], args := [d1, d2] }
  | _ => none }
def FnExactLabelBelowWrongFalsely : Prop := fnExactLabelBelowRow.holds Try.pinned (OpenSpec.ofChange fnExactLabelBelowWrong)

/-- 'laws.FnExactLabelMeet': WHATEVER THE INPUT: true; the input reads as it did. -/
def fnExactLabelMeetSpec : ChangeSpec := { name := "fnExactLabelMeet", fn := fun _ => fun
  | [d1, d2] => { results := [.lit (.bool true)], args := [d1, d2] }
  | _ => none }
def fnExactLabelMeetRow : OpenClaim := { program := "ytmjjeiadoajkmaa", sum := "1254d0b69dd2f5e88cdd21479c53325ddc465c261c57db8970d7b0e2d58eb659", func := "loop.example/accesspolicies/laws.FnExactLabelMeet", spec := "fnExactLabelMeet", apart := false }
def FnExactLabelMeetSaid : Prop := fnExactLabelMeetRow.holds Try.pinned (OpenSpec.ofChange fnExactLabelMeetSpec)

/-- ITS FALSE NEIGHBOUR: 'it returns false'. Refute it at one input. -/
def fnExactLabelMeetWrong : ChangeSpec := { name := "fnExactLabelMeet", fn := fun _ => fun
  | [d1, d2] => { results := [.lit (.bool false)], args := [d1, d2] }
  | _ => none }
def FnExactLabelMeetWrongFalsely : Prop := fnExactLabelMeetRow.holds Try.pinned (OpenSpec.ofChange fnExactLabelMeetWrong)

/-- 'laws.FnExactLabelJoin': WHATEVER THE INPUT: true; the input reads as it did. -/
def fnExactLabelJoinSpec : ChangeSpec := { name := "fnExactLabelJoin", fn := fun _ => fun
  | [d1, d2] => { results := [.lit (.bool true)], args := [d1, d2] }
  | _ => none }
def fnExactLabelJoinRow : OpenClaim := { program := "ytmjjeiadoajkmaa", sum := "1254d0b69dd2f5e88cdd21479c53325ddc465c261c57db8970d7b0e2d58eb659", func := "loop.example/accesspolicies/laws.FnExactLabelJoin", spec := "fnExactLabelJoin", apart := false }
def FnExactLabelJoinSaid : Prop := fnExactLabelJoinRow.holds Try.pinned (OpenSpec.ofChange fnExactLabelJoinSpec)

/-- ITS FALSE NEIGHBOUR: 'it returns false'. Refute it at one input. -/
def fnExactLabelJoinWrong : ChangeSpec := { name := "fnExactLabelJoin", fn := fun _ => fun
  | [d1, d2] => { results := [.lit (.bool false)], args := [d1, d2] }
  | _ => none }
def FnExactLabelJoinWrongFalsely : Prop := fnExactLabelJoinRow.holds Try.pinned (OpenSpec.ofChange fnExactLabelJoinWrong)

/-- 'laws.FnLabelValid': WHATEVER THE INPUT: true; the input reads as it did. -/
def fnLabelValidSpec : ChangeSpec := { name := "fnLabelValid", fn := fun _ => fun
  | [d] => { results := [.lit (.bool true)], args := [d] }
  | _ => none }
def fnLabelValidRow : OpenClaim := { program := "ytmjjeiadoajkmaa", sum := "1254d0b69dd2f5e88cdd21479c53325ddc465c261c57db8970d7b0e2d58eb659", func := "loop.example/accesspolicies/laws.FnLabelValid", spec := "fnLabelValid", apart := false }
def FnLabelValidSaid : Prop := fnLabelValidRow.holds Try.pinned (OpenSpec.ofChange fnLabelValidSpec)

/-- ITS FALSE NEIGHBOUR: 'it returns false'. Refute it at one input. -/
def fnLabelValidWrong : ChangeSpec := { name := "fnLabelValid", fn := fun _ => fun
  | [d] => { results := [.lit (.bool false)], args := [d] }
  | _ => none }
def FnLabelValidWrongFalsely : Prop := fnLabelValidRow.holds Try.pinned (OpenSpec.ofChange fnLabelValidWrong)

/-- 'laws.FnLabelBelow': WHATEVER THE INPUT: true; the input reads as it did. -/
def fnLabelBelowSpec : ChangeSpec := { name := "fnLabelBelow", fn := fun _ => fun
  | [d] => { results := [.lit (.bool true)], args := [d] }
  | _ => none }
def fnLabelBelowRow : OpenClaim := { program := "ytmjjeiadoajkmaa", sum := "1254d0b69dd2f5e88cdd21479c53325ddc465c261c57db8970d7b0e2d58eb659", func := "loop.example/accesspolicies/laws.FnLabelBelow", spec := "fnLabelBelow", apart := false }
def FnLabelBelowSaid : Prop := fnLabelBelowRow.holds Try.pinned (OpenSpec.ofChange fnLabelBelowSpec)

/-- ITS FALSE NEIGHBOUR: 'it returns false'. Refute it at one input. -/
def fnLabelBelowWrong : ChangeSpec := { name := "fnLabelBelow", fn := fun _ => fun
  | [d] => { results := [.lit (.bool false)], args := [d] }
  | _ => none }
def FnLabelBelowWrongFalsely : Prop := fnLabelBelowRow.holds Try.pinned (OpenSpec.ofChange fnLabelBelowWrong)

/-- 'laws.FnLabelJoin': WHATEVER THE INPUT: true; the input reads as it did. -/
def fnLabelJoinSpec : ChangeSpec := { name := "fnLabelJoin", fn := fun _ => fun
  | [d] => { results := [.lit (.bool true)], args := [d] }
  | _ => none }
def fnLabelJoinRow : OpenClaim := { program := "ytmjjeiadoajkmaa", sum := "1254d0b69dd2f5e88cdd21479c53325ddc465c261c57db8970d7b0e2d58eb659", func := "loop.example/accesspolicies/laws.FnLabelJoin", spec := "fnLabelJoin", apart := false }
def FnLabelJoinSaid : Prop := fnLabelJoinRow.holds Try.pinned (OpenSpec.ofChange fnLabelJoinSpec)

/-- ITS FALSE NEIGHBOUR: 'it returns false'. Refute it at one input. -/
def fnLabelJoinWrong : ChangeSpec := { name := "fnLabelJoin", fn := fun _ => fun
  | [d] => { results := [.lit (.bool false)], args := [d] }
  | _ => none }
def FnLabelJoinWrongFalsely : Prop := fnLabelJoinRow.holds Try.pinned (OpenSpec.ofChange fnLabelJoinWrong)

/-- 'laws.FnLabelMeet': WHATEVER THE INPUT: true; the input reads as it did. -/
def fnLabelMeetSpec : ChangeSpec := { name := "fnLabelMeet", fn := fun _ => fun
  | [d] => { results := [.lit (.bool true)], args := [d] }
  | _ => none }
def fnLabelMeetRow : OpenClaim := { program := "ytmjjeiadoajkmaa", sum := "1254d0b69dd2f5e88cdd21479c53325ddc465c261c57db8970d7b0e2d58eb659", func := "loop.example/accesspolicies/laws.FnLabelMeet", spec := "fnLabelMeet", apart := false }
def FnLabelMeetSaid : Prop := fnLabelMeetRow.holds Try.pinned (OpenSpec.ofChange fnLabelMeetSpec)

/-- ITS FALSE NEIGHBOUR: 'it returns false'. Refute it at one input. -/
def fnLabelMeetWrong : ChangeSpec := { name := "fnLabelMeet", fn := fun _ => fun
  | [d] => { results := [.lit (.bool false)], args := [d] }
  | _ => none }
def FnLabelMeetWrongFalsely : Prop := fnLabelMeetRow.holds Try.pinned (OpenSpec.ofChange fnLabelMeetWrong)

/- THE SECOND FORM. 'bulk': how many values and letters a reading holds, each counted each time it is reached (what is shared counts as often as it is met; a slice's spare places count too). A statement '..UptoSaid' is the law's where the arguments, and the package variables that the reading takes, are together of bulk at most 1048576: NARROWER than '..Said'. Prove '..Said' where nothing that the law and all that it calls make is longer than what came in: it says more and counts as full. Else prove '..UptoSaid'. A law counts once. -/
mutual
def uptoBulk {H : Type} : DataW H → Nat
  | .lit (.string bytes) => bytes.length + 1
  | .lit _ => 1
  | .nil => 1
  | .ptr d => uptoBulk d + 1
  | .slice elems spare => uptoBulkAll elems + uptoBulkAll spare + 1
  | .agg parts => uptoBulkAll parts + 1
  | .iface _ d => uptoBulk d + 1
  | .map entries => uptoBulkEntries entries + 1
  | .held _ => 1
def uptoBulkAll {H : Type} : List (DataW H) → Nat
  | [] => 0
  | d :: r => uptoBulk d + uptoBulkAll r
def uptoBulkEntries {H : Type} : List (Lit × DataW H) → Nat
  | [] => 0
  | x :: r => uptoBulkEntry x + uptoBulkEntries r
def uptoBulkEntry {H : Type} : Lit × DataW H → Nat
  | (.string bytes, d) => bytes.length + uptoBulk d + 1
  | (_, d) => uptoBulk d + 1
 end
def uptoSmall : (H : Type) → List (DataW H) → Bool := fun _ ds => decide (uptoBulkAll ds ≤ 1048576)
def OpenSpec.upto (s : _root_.Go.ChangeSpec) : _root_.Go.OpenSpec := { _root_.Go.OpenSpec.ofChange s with cond := some uptoSmall }

/-- 'laws.FnExactLabelValid', WHERE WHAT IT READS IS OF BULK AT MOST 1048576: true; the input reads as it did. -/
def fnExactLabelValidUptoRow : OpenClaim := { program := "ytmjjeiadoajkmaa", sum := "1254d0b69dd2f5e88cdd21479c53325ddc465c261c57db8970d7b0e2d58eb659", func := "loop.example/accesspolicies/laws.FnExactLabelValid", spec := "fnExactLabelValid", apart := false, narrowed := true }
def FnExactLabelValidUptoSaid : Prop := fnExactLabelValidUptoRow.holds Try.pinned (OpenSpec.upto fnExactLabelValidSpec)

/-- 'laws.FnExactLabelBelow', WHERE WHAT IT READS IS OF BULK AT MOST 1048576: true; the input reads as it did. -/
def fnExactLabelBelowUptoRow : OpenClaim := { program := "ytmjjeiadoajkmaa", sum := "1254d0b69dd2f5e88cdd21479c53325ddc465c261c57db8970d7b0e2d58eb659", func := "loop.example/accesspolicies/laws.FnExactLabelBelow", spec := "fnExactLabelBelow", apart := false, narrowed := true }
def FnExactLabelBelowUptoSaid : Prop := fnExactLabelBelowUptoRow.holds Try.pinned (OpenSpec.upto fnExactLabelBelowSpec)

/-- 'laws.FnExactLabelMeet', WHERE WHAT IT READS IS OF BULK AT MOST 1048576: true; the input reads as it did. -/
def fnExactLabelMeetUptoRow : OpenClaim := { program := "ytmjjeiadoajkmaa", sum := "1254d0b69dd2f5e88cdd21479c53325ddc465c261c57db8970d7b0e2d58eb659", func := "loop.example/accesspolicies/laws.FnExactLabelMeet", spec := "fnExactLabelMeet", apart := false, narrowed := true }
def FnExactLabelMeetUptoSaid : Prop := fnExactLabelMeetUptoRow.holds Try.pinned (OpenSpec.upto fnExactLabelMeetSpec)

/-- 'laws.FnExactLabelJoin', WHERE WHAT IT READS IS OF BULK AT MOST 1048576: true; the input reads as it did. -/
def fnExactLabelJoinUptoRow : OpenClaim := { program := "ytmjjeiadoajkmaa", sum := "1254d0b69dd2f5e88cdd21479c53325ddc465c261c57db8970d7b0e2d58eb659", func := "loop.example/accesspolicies/laws.FnExactLabelJoin", spec := "fnExactLabelJoin", apart := false, narrowed := true }
def FnExactLabelJoinUptoSaid : Prop := fnExactLabelJoinUptoRow.holds Try.pinned (OpenSpec.upto fnExactLabelJoinSpec)

/-- 'laws.FnLabelValid', WHERE WHAT IT READS IS OF BULK AT MOST 1048576: true; the input reads as it did. -/
def fnLabelValidUptoRow : OpenClaim := { program := "ytmjjeiadoajkmaa", sum := "1254d0b69dd2f5e88cdd21479c53325ddc465c261c57db8970d7b0e2d58eb659", func := "loop.example/accesspolicies/laws.FnLabelValid", spec := "fnLabelValid", apart := false, narrowed := true }
def FnLabelValidUptoSaid : Prop := fnLabelValidUptoRow.holds Try.pinned (OpenSpec.upto fnLabelValidSpec)

/-- 'laws.FnLabelBelow', WHERE WHAT IT READS IS OF BULK AT MOST 1048576: true; the input reads as it did. -/
def fnLabelBelowUptoRow : OpenClaim := { program := "ytmjjeiadoajkmaa", sum := "1254d0b69dd2f5e88cdd21479c53325ddc465c261c57db8970d7b0e2d58eb659", func := "loop.example/accesspolicies/laws.FnLabelBelow", spec := "fnLabelBelow", apart := false, narrowed := true }
def FnLabelBelowUptoSaid : Prop := fnLabelBelowUptoRow.holds Try.pinned (OpenSpec.upto fnLabelBelowSpec)

/-- 'laws.FnLabelJoin', WHERE WHAT IT READS IS OF BULK AT MOST 1048576: true; the input reads as it did. -/
def fnLabelJoinUptoRow : OpenClaim := { program := "ytmjjeiadoajkmaa", sum := "1254d0b69dd2f5e88cdd21479c53325ddc465c261c57db8970d7b0e2d58eb659", func := "loop.example/accesspolicies/laws.FnLabelJoin", spec := "fnLabelJoin", apart := false, narrowed := true }
def FnLabelJoinUptoSaid : Prop := fnLabelJoinUptoRow.holds Try.pinned (OpenSpec.upto fnLabelJoinSpec)

/-- 'laws.FnLabelMeet', WHERE WHAT IT READS IS OF BULK AT MOST 1048576: true; the input reads as it did. -/
def fnLabelMeetUptoRow : OpenClaim := { program := "ytmjjeiadoajkmaa", sum := "1254d0b69dd2f5e88cdd21479c53325ddc465c261c57db8970d7b0e2d58eb659", func := "loop.example/accesspolicies/laws.FnLabelMeet", spec := "fnLabelMeet", apart := false, narrowed := true }
def FnLabelMeetUptoSaid : Prop := fnLabelMeetUptoRow.holds Try.pinned (OpenSpec.upto fnLabelMeetSpec)

end Rows
end Go.Proofs.Ytmjjeiadoajkmaa
