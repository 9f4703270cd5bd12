/-
  No cell of these rows narrows 'for every input' (looked for: loops, veiled, ifaces, maps, wideKeys, modest, calm, conditions, laid).
  DERIVED. THE GIVEN ROWS OF THIS SEAT. 11 by the template 'for every input the law returns true; each argument reads behind the call as it read before'; 0 by the template 'total and deterministic' (their statements: YtlcjkehpdlgdoaaTotals.lean).
  GIVEN WITH THE SEED: the statements are not yours to turn. If you find one false, say at which input.
  Laid BY PROGRAM, IN A SANDBOX (cutbox-rows.mjs): the forced cells as the released guide's own fill.sh prints them over the translation c9f541975a6e53cc… (all of the seat's roots in one cut). By AI agents, Wed Nov 11 2026. No macro, syntax, notation, axiom, sorry.
-/
import Derived.Test.YtlcjkehpdlgdoaaChecked
import GoSem.Claim
import GoSem.ClaimJoined
import GoSem.ClaimMapViews
import Derived.JoinedTies
import Derived.KernelRfl
namespace Go.Proofs.Ytlcjkehpdlgdoaa
/- THE CELL 'sum', in the pinned program and in every row, IS THE sha256 OF THE DUMP (.gsa) THAT YtlcjkehpdlgdoaaProg.lean LOADS. Nothing in Lean hashes anything: it is a label: what it is worth is what the hold of that sum in a sandbox is worth. -/
noncomputable def Try.pinned : Pinned := { name := "ytlcjkehpdlgdoaa", sum := "c9f541975a6e53cc3060ee1188d3f8ed7f828957b9091dd7f7216b4e199c0c6a", checked := Try.checked }
namespace Rows
def none {H : Type} : Left H := { results := [], args := [] }

/-- 'laws.FnExactGrantsValid': WHATEVER THE INPUT: true; the input reads as it did. -/
def fnExactGrantsValidSpec : ChangeSpec := { name := "fnExactGrantsValid", fn := fun _ => fun
  | [d1, d2] => { results := [.lit (.bool true)], args := [d1, d2] }
  | _ => none }
def fnExactGrantsValidRow : OpenClaim := { program := "ytlcjkehpdlgdoaa", sum := "c9f541975a6e53cc3060ee1188d3f8ed7f828957b9091dd7f7216b4e199c0c6a", func := "loop.example/accesspolicies/laws.FnExactGrantsValid", spec := "fnExactGrantsValid", apart := false }
def FnExactGrantsValidSaid : Prop := fnExactGrantsValidRow.holds Try.pinned (OpenSpec.ofChange fnExactGrantsValidSpec)

/-- ITS FALSE NEIGHBOUR: 'it returns false'. Refute it at one input. -/
def fnExactGrantsValidWrong : ChangeSpec := { name := "fnExactGrantsValid", fn := fun _ => fun
  | [d1, d2] => { results := [.lit (.bool false)], args := [d1, d2] }
  | _ => none }
def FnExactGrantsValidWrongFalsely : Prop := fnExactGrantsValidRow.holds Try.pinned (OpenSpec.ofChange fnExactGrantsValidWrong)

/-- 'laws.FnGrantsValid': WHATEVER THE INPUT: true; the input reads as it did. -/
def fnGrantsValidSpec : ChangeSpec := { name := "fnGrantsValid", fn := fun _ => fun
  | [d] => { results := [.lit (.bool true)], args := [d] }
  | _ => none }
def fnGrantsValidRow : OpenClaim := { program := "ytlcjkehpdlgdoaa", sum := "c9f541975a6e53cc3060ee1188d3f8ed7f828957b9091dd7f7216b4e199c0c6a", func := "loop.example/accesspolicies/laws.FnGrantsValid", spec := "fnGrantsValid", apart := false }
def FnGrantsValidSaid : Prop := fnGrantsValidRow.holds Try.pinned (OpenSpec.ofChange fnGrantsValidSpec)

/-- ITS FALSE NEIGHBOUR: 'it returns false'. Refute it at one input. -/
def fnGrantsValidWrong : ChangeSpec := { name := "fnGrantsValid", fn := fun _ => fun
  | [d] => { results := [.lit (.bool false)], args := [d] }
  | _ => none }
def FnGrantsValidWrongFalsely : Prop := fnGrantsValidRow.holds Try.pinned (OpenSpec.ofChange fnGrantsValidWrong)

/-- 'laws.FnExactGrantsAt': WHATEVER THE INPUT: true; the input reads as it did. -/
def fnExactGrantsAtSpec : ChangeSpec := { name := "fnExactGrantsAt", fn := fun _ => fun
  | [d1, d2, d3, d4] => { results := [.lit (.bool true)], args := [d1, d2, d3, d4] }
  | _ => none }
def fnExactGrantsAtRow : OpenClaim := { program := "ytlcjkehpdlgdoaa", sum := "c9f541975a6e53cc3060ee1188d3f8ed7f828957b9091dd7f7216b4e199c0c6a", func := "loop.example/accesspolicies/laws.FnExactGrantsAt", spec := "fnExactGrantsAt", apart := false }
def FnExactGrantsAtSaid : Prop := fnExactGrantsAtRow.holds Try.pinned (OpenSpec.ofChange fnExactGrantsAtSpec)

/-- ITS FALSE NEIGHBOUR: 'it returns false'. Refute it at one input. -/
def fnExactGrantsAtWrong : ChangeSpec := { name := "fnExactGrantsAt", fn := fun _ => fun
  | [d1, d2, d3, d4] => { results := [.lit (.bool false)], args := [d1, d2, d3, d4] }
  | _ => none }
def FnExactGrantsAtWrongFalsely : Prop := fnExactGrantsAtRow.holds Try.pinned (OpenSpec.ofChange fnExactGrantsAtWrong)

/-- 'laws.FnGrantsAt': WHATEVER THE INPUT: true; the input reads as it did. -/
def fnGrantsAtSpec : ChangeSpec := { name := "fnGrantsAt", fn := fun _ => fun
  | [d] => { results := [.lit (.bool true)], args := [d] }
  | _ => none }
def fnGrantsAtRow : OpenClaim := { program := "ytlcjkehpdlgdoaa", sum := "c9f541975a6e53cc3060ee1188d3f8ed7f828957b9091dd7f7216b4e199c0c6a", func := "loop.example/accesspolicies/laws.FnGrantsAt", spec := "fnGrantsAt", apart := false }
def FnGrantsAtSaid : Prop := fnGrantsAtRow.holds Try.pinned (OpenSpec.ofChange fnGrantsAtSpec)

/-- ITS FALSE NEIGHBOUR: 'it returns false'. Refute it at one input. -/
def fnGrantsAtWrong : ChangeSpec := { name := "fnGrantsAt", fn := fun _ => fun
  | [d] => { results := [.lit (.bool false)], args := [d] }
  | _ => none }
def FnGrantsAtWrongFalsely : Prop := fnGrantsAtRow.holds Try.pinned (OpenSpec.ofChange fnGrantsAtWrong)

/-- 'laws.FnExactEndGrants': WHATEVER THE INPUT: true; the input reads as it did. -/
def fnExactEndGrantsSpec : ChangeSpec := { name := "fnExactEndGrants", fn := fun _ => fun
  | [d1, d2, d3, d4] => { results := [.lit (.bool true)], args := [d1, d2, d3, d4] }
  | _ => none }
def fnExactEndGrantsRow : OpenClaim := { program := "ytlcjkehpdlgdoaa", sum := "c9f541975a6e53cc3060ee1188d3f8ed7f828957b9091dd7f7216b4e199c0c6a", func := "loop.example/accesspolicies/laws.FnExactEndGrants", spec := "fnExactEndGrants", apart := false }
def FnExactEndGrantsSaid : Prop := fnExactEndGrantsRow.holds Try.pinned (OpenSpec.ofChange fnExactEndGrantsSpec)

/-- ITS FALSE NEIGHBOUR: 'it returns false'. Refute it at one input. -/
def fnExactEndGrantsWrong : ChangeSpec := { name := "fnExactEndGrants", fn := fun _ => fun
  | [d1, d2, d3, d4] => { results := [.lit (.bool false)], args := [d1, d2, d3, d4] }
  | _ => none }
def FnExactEndGrantsWrongFalsely : Prop := fnExactEndGrantsRow.holds Try.pinned (OpenSpec.ofChange fnExactEndGrantsWrong)

/-- 'laws.FnEndGrants': WHATEVER THE INPUT: true; the input reads as it did. -/
def fnEndGrantsSpec : ChangeSpec := { name := "fnEndGrants", fn := fun _ => fun
  | [d] => { results := [.lit (.bool true)], args := [d] }
  | _ => none }
def fnEndGrantsRow : OpenClaim := { program := "ytlcjkehpdlgdoaa", sum := "c9f541975a6e53cc3060ee1188d3f8ed7f828957b9091dd7f7216b4e199c0c6a", func := "loop.example/accesspolicies/laws.FnEndGrants", spec := "fnEndGrants", apart := false }
def FnEndGrantsSaid : Prop := fnEndGrantsRow.holds Try.pinned (OpenSpec.ofChange fnEndGrantsSpec)

/-- ITS FALSE NEIGHBOUR: 'it returns false'. Refute it at one input. -/
def fnEndGrantsWrong : ChangeSpec := { name := "fnEndGrants", fn := fun _ => fun
  | [d] => { results := [.lit (.bool false)], args := [d] }
  | _ => none }
def FnEndGrantsWrongFalsely : Prop := fnEndGrantsRow.holds Try.pinned (OpenSpec.ofChange fnEndGrantsWrong)

/-- 'laws.FnExactRolesWith': WHATEVER THE INPUT: true; the input reads as it did. -/
def fnExactRolesWithSpec : ChangeSpec := { name := "fnExactRolesWith", fn := fun _ => fun
  | [d1, d2] => { results := [.lit (.bool true)], args := [d1, d2] }
  | _ => none }
def fnExactRolesWithRow : OpenClaim := { program := "ytlcjkehpdlgdoaa", sum := "c9f541975a6e53cc3060ee1188d3f8ed7f828957b9091dd7f7216b4e199c0c6a", func := "loop.example/accesspolicies/laws.FnExactRolesWith", spec := "fnExactRolesWith", apart := false }
def FnExactRolesWithSaid : Prop := fnExactRolesWithRow.holds Try.pinned (OpenSpec.ofChange fnExactRolesWithSpec)

/-- ITS FALSE NEIGHBOUR: 'it returns false'. Refute it at one input. -/
def fnExactRolesWithWrong : ChangeSpec := { name := "fnExactRolesWith", fn := fun _ => fun
  | [d1, d2] => { results := [.lit (.bool false)], args := [d1, d2] }
  | _ => none }
def FnExactRolesWithWrongFalsely : Prop := fnExactRolesWithRow.holds Try.pinned (OpenSpec.ofChange fnExactRolesWithWrong)

/-- 'laws.FnExactRoleActs': WHATEVER THE INPUT: true; the input reads as it did. -/
def fnExactRoleActsSpec : ChangeSpec := { name := "fnExactRoleActs", fn := fun _ => fun
  | [d1, d2] => { results := [.lit (.bool true)], args := [d1, d2] }
  | _ => none }
def fnExactRoleActsRow : OpenClaim := { program := "ytlcjkehpdlgdoaa", sum := "c9f541975a6e53cc3060ee1188d3f8ed7f828957b9091dd7f7216b4e199c0c6a", func := "loop.example/accesspolicies/laws.FnExactRoleActs", spec := "fnExactRoleActs", apart := false }
def FnExactRoleActsSaid : Prop := fnExactRoleActsRow.holds Try.pinned (OpenSpec.ofChange fnExactRoleActsSpec)

/-- ITS FALSE NEIGHBOUR: 'it returns false'. Refute it at one input. -/
def fnExactRoleActsWrong : ChangeSpec := { name := "fnExactRoleActs", fn := fun _ => fun
  | [d1, d2] => { results := [.lit (.bool false)], args := [d1, d2] }
  | _ => none }
def FnExactRoleActsWrongFalsely : Prop := fnExactRoleActsRow.holds Try.pinned (OpenSpec.ofChange fnExactRoleActsWrong)

/-- 'laws.FnRoleActs': WHATEVER THE INPUT: true; the input reads as it did. -/
def fnRoleActsSpec : ChangeSpec := { name := "fnRoleActs", fn := fun _ => fun
  | [d] => { results := [.lit (.bool true)], args := [d] }
  | _ => none }
def fnRoleActsRow : OpenClaim := { program := "ytlcjkehpdlgdoaa", sum := "c9f541975a6e53cc3060ee1188d3f8ed7f828957b9091dd7f7216b4e199c0c6a", func := "loop.example/accesspolicies/laws.FnRoleActs", spec := "fnRoleActs", apart := false }
def FnRoleActsSaid : Prop := fnRoleActsRow.holds Try.pinned (OpenSpec.ofChange fnRoleActsSpec)

/-- ITS FALSE NEIGHBOUR: 'it returns false'. Refute it at one input. -/
def fnRoleActsWrong : ChangeSpec := { name := "fnRoleActs", fn := fun _ => fun
  | [d] => { results := [.lit (.bool false)], args := [d] }
  | _ => none }
def FnRoleActsWrongFalsely : Prop := fnRoleActsRow.holds Try.pinned (OpenSpec.ofChange fnRoleActsWrong)

/-- 'laws.FnExactActsAt': WHATEVER THE INPUT: true; the input reads as it did. -/
def fnExactActsAtSpec : ChangeSpec := { name := "fnExactActsAt", fn := fun _ => fun
  | [d1, d2, d3, d4] => { results := [.lit (.bool true)], args := [d1, d2, d3, d4] }
  | _ => none }
def fnExactActsAtRow : OpenClaim := { program := "ytlcjkehpdlgdoaa", sum := "c9f541975a6e53cc3060ee1188d3f8ed7f828957b9091dd7f7216b4e199c0c6a", func := "loop.example/accesspolicies/laws.FnExactActsAt", spec := "fnExactActsAt", apart := false }
def FnExactActsAtSaid : Prop := fnExactActsAtRow.holds Try.pinned (OpenSpec.ofChange fnExactActsAtSpec)

/-- ITS FALSE NEIGHBOUR: 'it returns false'. Refute it at one input. -/
def fnExactActsAtWrong : ChangeSpec := { name := "fnExactActsAt", fn := fun _ => fun
  | [d1, d2, d3, d4] => { results := [.lit (.bool false)], args := [d1, d2, d3, d4] }
  | _ => none }
def FnExactActsAtWrongFalsely : Prop := fnExactActsAtRow.holds Try.pinned (OpenSpec.ofChange fnExactActsAtWrong)

/-- 'laws.FnActsAt': WHATEVER THE INPUT: true; the input reads as it did. -/
def fnActsAtSpec : ChangeSpec := { name := "fnActsAt", fn := fun _ => fun
  | [d] => { results := [.lit (.bool true)], args := [d] }
  | _ => none }
def fnActsAtRow : OpenClaim := { program := "ytlcjkehpdlgdoaa", sum := "c9f541975a6e53cc3060ee1188d3f8ed7f828957b9091dd7f7216b4e199c0c6a", func := "loop.example/accesspolicies/laws.FnActsAt", spec := "fnActsAt", apart := false }
def FnActsAtSaid : Prop := fnActsAtRow.holds Try.pinned (OpenSpec.ofChange fnActsAtSpec)

/-- ITS FALSE NEIGHBOUR: 'it returns false'. Refute it at one input. -/
def fnActsAtWrong : ChangeSpec := { name := "fnActsAt", fn := fun _ => fun
  | [d] => { results := [.lit (.bool false)], args := [d] }
  | _ => none }
def FnActsAtWrongFalsely : Prop := fnActsAtRow.holds Try.pinned (OpenSpec.ofChange fnActsAtWrong)

/- THE SECOND FORM. 'bulk': how many values and letters a reading holds, each counted each time it is reached (what is shared counts as often as it is met; a slice's spare places count too). A statement '..UptoSaid' is the law's where the arguments, and the package variables that the reading takes, are together of bulk at most 1048576: NARROWER than '..Said'. Prove '..Said' where nothing that the law and all that it calls make is longer than what came in: it says more and counts as full. Else prove '..UptoSaid'. A law counts once. -/
mutual
def uptoBulk {H : Type} : DataW H → Nat
  | .lit (.string bytes) => bytes.length + 1
  | .lit _ => 1
  | .nil => 1
  | .ptr d => uptoBulk d + 1
  | .slice elems spare => uptoBulkAll elems + uptoBulkAll spare + 1
  | .agg parts => uptoBulkAll parts + 1
  | .iface _ d => uptoBulk d + 1
  | .map entries => uptoBulkEntries entries + 1
  | .held _ => 1
def uptoBulkAll {H : Type} : List (DataW H) → Nat
  | [] => 0
  | d :: r => uptoBulk d + uptoBulkAll r
def uptoBulkEntries {H : Type} : List (Lit × DataW H) → Nat
  | [] => 0
  | x :: r => uptoBulkEntry x + uptoBulkEntries r
def uptoBulkEntry {H : Type} : Lit × DataW H → Nat
  | (.string bytes, d) => bytes.length + uptoBulk d + 1
  | (_, d) => uptoBulk d + 1
 end
def uptoSmall : (H : Type) → List (DataW H) → Bool := fun _ ds => decide (uptoBulkAll ds ≤ 1048576)
def OpenSpec.upto (s : _root_.Go.ChangeSpec) : _root_.Go.OpenSpec := { _root_.Go.OpenSpec.ofChange s with cond := some uptoSmall }

/-- 'laws.FnExactGrantsValid', WHERE WHAT IT READS IS OF BULK AT MOST 1048576: true; the input reads as it did. -/
def fnExactGrantsValidUptoRow : OpenClaim := { program := "ytlcjkehpdlgdoaa", sum := "c9f541975a6e53cc3060ee1188d3f8ed7f828957b9091dd7f7216b4e199c0c6a", func := "loop.example/accesspolicies/laws.FnExactGrantsValid", spec := "fnExactGrantsValid", apart := false, narrowed := true }
def FnExactGrantsValidUptoSaid : Prop := fnExactGrantsValidUptoRow.holds Try.pinned (OpenSpec.upto fnExactGrantsValidSpec)

/-- 'laws.FnGrantsValid', WHERE WHAT IT READS IS OF BULK AT MOST 1048576: true; the input reads as it did. -/
def fnGrantsValidUptoRow : OpenClaim := { program := "ytlcjkehpdlgdoaa", sum := "c9f541975a6e53cc3060ee1188d3f8ed7f828957b9091dd7f7216b4e199c0c6a", func := "loop.example/accesspolicies/laws.FnGrantsValid", spec := "fnGrantsValid", apart := false, narrowed := true }
def FnGrantsValidUptoSaid : Prop := fnGrantsValidUptoRow.holds Try.pinned (OpenSpec.upto fnGrantsValidSpec)

/-- 'laws.FnExactGrantsAt', WHERE WHAT IT READS IS OF BULK AT MOST 1048576: true; the input reads as it did. -/
def fnExactGrantsAtUptoRow : OpenClaim := { program := "ytlcjkehpdlgdoaa", sum := "c9f541975a6e53cc3060ee1188d3f8ed7f828957b9091dd7f7216b4e199c0c6a", func := "loop.example/accesspolicies/laws.FnExactGrantsAt", spec := "fnExactGrantsAt", apart := false, narrowed := true }
def FnExactGrantsAtUptoSaid : Prop := fnExactGrantsAtUptoRow.holds Try.pinned (OpenSpec.upto fnExactGrantsAtSpec)

/-- 'laws.FnGrantsAt', WHERE WHAT IT READS IS OF BULK AT MOST 1048576: true; the input reads as it did. -/
def fnGrantsAtUptoRow : OpenClaim := { program := "ytlcjkehpdlgdoaa", sum := "c9f541975a6e53cc3060ee1188d3f8ed7f828957b9091dd7f7216b4e199c0c6a", func := "loop.example/accesspolicies/laws.FnGrantsAt", spec := "fnGrantsAt", apart := false, narrowed := true }
def FnGrantsAtUptoSaid : Prop := fnGrantsAtUptoRow.holds Try.pinned (OpenSpec.upto fnGrantsAtSpec)

/-- 'laws.FnExactEndGrants', WHERE WHAT IT READS IS OF BULK AT MOST 1048576: true; the input reads as it did. -/
def fnExactEndGrantsUptoRow : OpenClaim := { program := "ytlcjkehpdlgdoaa", sum := "c9f541975a6e53cc3060ee1188d3f8ed7f828957b9091dd7f7216b4e199c0c6a", func := "loop.example/accesspolicies/laws.FnExactEndGrants", spec := "fnExactEndGrants", apart := false, narrowed := true }
def FnExactEndGrantsUptoSaid : Prop := fnExactEndGrantsUptoRow.holds Try.pinned (OpenSpec.upto fnExactEndGrantsSpec)

/-- 'laws.FnEndGrants', WHERE WHAT IT READS IS OF BULK AT MOST 1048576: true; the input reads as it did. -/
def fnEndGrantsUptoRow : OpenClaim := { program := "ytlcjkehpdlgdoaa", sum := "c9f541975a6e53cc3060ee1188d3f8ed7f828957b9091dd7f7216b4e199c0c6a", func := "loop.example/accesspolicies/laws.FnEndGrants", spec := "fnEndGrants", apart := false, narrowed := true }
def FnEndGrantsUptoSaid : Prop := fnEndGrantsUptoRow.holds Try.pinned (OpenSpec.upto fnEndGrantsSpec)

/-- 'laws.FnExactRolesWith', WHERE WHAT IT READS IS OF BULK AT MOST 1048576: true; the input reads as it did. -/
def fnExactRolesWithUptoRow : OpenClaim := { program := "ytlcjkehpdlgdoaa", sum := "c9f541975a6e53cc3060ee1188d3f8ed7f828957b9091dd7f7216b4e199c0c6a", func := "loop.example/accesspolicies/laws.FnExactRolesWith", spec := "fnExactRolesWith", apart := false, narrowed := true }
def FnExactRolesWithUptoSaid : Prop := fnExactRolesWithUptoRow.holds Try.pinned (OpenSpec.upto fnExactRolesWithSpec)

/-- 'laws.FnExactRoleActs', WHERE WHAT IT READS IS OF BULK AT MOST 1048576: true; the input reads as it did. -/
def fnExactRoleActsUptoRow : OpenClaim := { program := "ytlcjkehpdlgdoaa", sum := "c9f541975a6e53cc3060ee1188d3f8ed7f828957b9091dd7f7216b4e199c0c6a", func := "loop.example/accesspolicies/laws.FnExactRoleActs", spec := "fnExactRoleActs", apart := false, narrowed := true }
def FnExactRoleActsUptoSaid : Prop := fnExactRoleActsUptoRow.holds Try.pinned (OpenSpec.upto fnExactRoleActsSpec)

/-- 'laws.FnRoleActs', WHERE WHAT IT READS IS OF BULK AT MOST 1048576: true; the input reads as it did. -/
def fnRoleActsUptoRow : OpenClaim := { program := "ytlcjkehpdlgdoaa", sum := "c9f541975a6e53cc3060ee1188d3f8ed7f828957b9091dd7f7216b4e199c0c6a", func := "loop.example/accesspolicies/laws.FnRoleActs", spec := "fnRoleActs", apart := false, narrowed := true }
def FnRoleActsUptoSaid : Prop := fnRoleActsUptoRow.holds Try.pinned (OpenSpec.upto fnRoleActsSpec)

/-- 'laws.FnExactActsAt', WHERE WHAT IT READS IS OF BULK AT MOST 1048576: true; the input reads as it did. -/
def fnExactActsAtUptoRow : OpenClaim := { program := "ytlcjkehpdlgdoaa", sum := "c9f541975a6e53cc3060ee1188d3f8ed7f828957b9091dd7f7216b4e199c0c6a", func := "loop.example/accesspolicies/laws.FnExactActsAt", spec := "fnExactActsAt", apart := false, narrowed := true }
def FnExactActsAtUptoSaid : Prop := fnExactActsAtUptoRow.holds Try.pinned (OpenSpec.upto fnExactActsAtSpec)

/-- 'laws.FnActsAt', WHERE WHAT IT READS IS OF BULK AT MOST 1048576: true; the input reads as it did. -/
def fnActsAtUptoRow : OpenClaim := { program := "ytlcjkehpdlgdoaa", sum := "c9f541975a6e53cc3060ee1188d3f8ed7f828957b9091dd7f7216b4e199c0c6a", func := "loop.example/accesspolicies/laws.FnActsAt", spec := "fnActsAt", apart := false, narrowed := true }
def FnActsAtUptoSaid : Prop := fnActsAtUptoRow.holds Try.pinned (OpenSpec.upto fnActsAtSpec)

end Rows
end Go.Proofs.Ytlcjkehpdlgdoaa
