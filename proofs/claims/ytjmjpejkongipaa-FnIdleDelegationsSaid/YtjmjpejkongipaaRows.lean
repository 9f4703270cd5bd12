/-
  No cell of these rows narrows 'for every input' (looked for: loops, veiled, ifaces, maps, wideKeys, modest, calm, conditions, laid).
  DERIVED. THE GIVEN ROWS OF THIS SEAT. 6 by the template 'for every input the law returns true; each argument reads behind the call as it read before'; 0 by the template 'total and deterministic' (their statements: YtjmjpejkongipaaTotals.lean).
  GIVEN WITH THE SEED: the statements are not yours to turn. If you find one false, say at which input.
  Laid BY PROGRAM, IN A SANDBOX (cutbox-rows.mjs): the forced cells as the released guide's own fill.sh prints them over the translation ca66ed957f7f28c3… (all of the seat's roots in one cut). By AI agents, Wed Nov 11 2026. No macro, syntax, notation, axiom, sorry.
-/
import Derived.Test.YtjmjpejkongipaaChecked
import GoSem.Claim
import GoSem.ClaimJoined
import GoSem.ClaimMapViews
import Derived.JoinedTies
import Derived.KernelRfl
namespace Go.Proofs.Ytjmjpejkongipaa
/- THE CELL 'sum', in the pinned program and in every row, IS THE sha256 OF THE DUMP (.gsa) THAT YtjmjpejkongipaaProg.lean LOADS. Nothing in Lean hashes anything: it is a label: what it is worth is what the hold of that sum in a sandbox is worth. -/
noncomputable def Try.pinned : Pinned := { name := "ytjmjpejkongipaa", sum := "ca66ed957f7f28c3cfacac0756f4add2e5949c626f2413511ceeaa4aecc9446e", checked := Try.checked }
namespace Rows
def none {H : Type} : Left H := { results := [], args := [] }

/-- 'laws.FnExactDelegationsValid': WHATEVER THE INPUT: true; the input reads as it did. -/
def fnExactDelegationsValidSpec : ChangeSpec := { name := "fnExactDelegationsValid", fn := fun _ => fun
  | [d] => { results := [.lit (.bool true)], args := [d] }
  | _ => none }
def fnExactDelegationsValidRow : OpenClaim := { program := "ytjmjpejkongipaa", sum := "ca66ed957f7f28c3cfacac0756f4add2e5949c626f2413511ceeaa4aecc9446e", func := "loop.example/accesspolicies/laws.FnExactDelegationsValid", spec := "fnExactDelegationsValid", apart := false }
def FnExactDelegationsValidSaid : Prop := fnExactDelegationsValidRow.holds Try.pinned (OpenSpec.ofChange fnExactDelegationsValidSpec)

/-- ITS FALSE NEIGHBOUR: 'it returns false'. Refute it at one input. -/
def fnExactDelegationsValidWrong : ChangeSpec := { name := "fnExactDelegationsValid", fn := fun _ => fun
  | [d] => { results := [.lit (.bool false)], args := [d] }
  | _ => none }
def FnExactDelegationsValidWrongFalsely : Prop := fnExactDelegationsValidRow.holds Try.pinned (OpenSpec.ofChange fnExactDelegationsValidWrong)

/-- 'laws.FnDelegationsValid': WHATEVER THE INPUT: true; the input reads as it did. -/
def fnDelegationsValidSpec : ChangeSpec := { name := "fnDelegationsValid", fn := fun _ => fun
  | [d] => { results := [.lit (.bool true)], args := [d] }
  | _ => none }
def fnDelegationsValidRow : OpenClaim := { program := "ytjmjpejkongipaa", sum := "ca66ed957f7f28c3cfacac0756f4add2e5949c626f2413511ceeaa4aecc9446e", func := "loop.example/accesspolicies/laws.FnDelegationsValid", spec := "fnDelegationsValid", apart := false }
def FnDelegationsValidSaid : Prop := fnDelegationsValidRow.holds Try.pinned (OpenSpec.ofChange fnDelegationsValidSpec)

/-- ITS FALSE NEIGHBOUR: 'it returns false'. Refute it at one input. -/
def fnDelegationsValidWrong : ChangeSpec := { name := "fnDelegationsValid", fn := fun _ => fun
  | [d] => { results := [.lit (.bool false)], args := [d] }
  | _ => none }
def FnDelegationsValidWrongFalsely : Prop := fnDelegationsValidRow.holds Try.pinned (OpenSpec.ofChange fnDelegationsValidWrong)

/-- 'laws.FnExactDelegatedActs': WHATEVER THE INPUT: true; the input reads as it did. -/
def fnExactDelegatedActsSpec : ChangeSpec := { name := "fnExactDelegatedActs", fn := fun _ => fun
  | [d1, d2] => { results := [.lit (.bool true)], args := [d1, d2] }
  | _ => none }
def fnExactDelegatedActsRow : OpenClaim := { program := "ytjmjpejkongipaa", sum := "ca66ed957f7f28c3cfacac0756f4add2e5949c626f2413511ceeaa4aecc9446e", func := "loop.example/accesspolicies/laws.FnExactDelegatedActs", spec := "fnExactDelegatedActs", unfollowed := true, recurses := true, apart := false }
def FnExactDelegatedActsSaid : Prop := fnExactDelegatedActsRow.holds Try.pinned (OpenSpec.ofChange fnExactDelegatedActsSpec)

/-- ITS FALSE NEIGHBOUR: 'it returns false'. Refute it at one input. -/
def fnExactDelegatedActsWrong : ChangeSpec := { name := "fnExactDelegatedActs", fn := fun _ => fun
  | [d1, d2] => { results := [.lit (.bool false)], args := [d1, d2] }
  | _ => none }
def FnExactDelegatedActsWrongFalsely : Prop := fnExactDelegatedActsRow.holds Try.pinned (OpenSpec.ofChange fnExactDelegatedActsWrong)

/-- 'laws.FnDelegatedActs': WHATEVER THE INPUT: true; the input reads as it did. -/
def fnDelegatedActsSpec : ChangeSpec := { name := "fnDelegatedActs", fn := fun _ => fun
  | [d] => { results := [.lit (.bool true)], args := [d] }
  | _ => none }
def fnDelegatedActsRow : OpenClaim := { program := "ytjmjpejkongipaa", sum := "ca66ed957f7f28c3cfacac0756f4add2e5949c626f2413511ceeaa4aecc9446e", func := "loop.example/accesspolicies/laws.FnDelegatedActs", spec := "fnDelegatedActs", unfollowed := true, recurses := true, apart := false }
def FnDelegatedActsSaid : Prop := fnDelegatedActsRow.holds Try.pinned (OpenSpec.ofChange fnDelegatedActsSpec)

/-- ITS FALSE NEIGHBOUR: 'it returns false'. Refute it at one input. -/
def fnDelegatedActsWrong : ChangeSpec := { name := "fnDelegatedActs", fn := fun _ => fun
  | [d] => { results := [.lit (.bool false)], args := [d] }
  | _ => none }
def FnDelegatedActsWrongFalsely : Prop := fnDelegatedActsRow.holds Try.pinned (OpenSpec.ofChange fnDelegatedActsWrong)

/-- 'laws.FnExactIdleDelegations': WHATEVER THE INPUT: true; the input reads as it did. -/
def fnExactIdleDelegationsSpec : ChangeSpec := { name := "fnExactIdleDelegations", fn := fun _ => fun
  | [d1, d2] => { results := [.lit (.bool true)], args := [d1, d2] }
  | _ => none }
def fnExactIdleDelegationsRow : OpenClaim := { program := "ytjmjpejkongipaa", sum := "ca66ed957f7f28c3cfacac0756f4add2e5949c626f2413511ceeaa4aecc9446e", func := "loop.example/accesspolicies/laws.FnExactIdleDelegations", spec := "fnExactIdleDelegations", unfollowed := true, recurses := true, apart := false }
def FnExactIdleDelegationsSaid : Prop := fnExactIdleDelegationsRow.holds Try.pinned (OpenSpec.ofChange fnExactIdleDelegationsSpec)

/-- ITS FALSE NEIGHBOUR: 'it returns false'. Refute it at one input. -/
def fnExactIdleDelegationsWrong : ChangeSpec := { name := "fnExactIdleDelegations", fn := fun _ => fun
  | [d1, d2] => { results := [.lit (.bool false)], args := [d1, d2] }
  | _ => none }
def FnExactIdleDelegationsWrongFalsely : Prop := fnExactIdleDelegationsRow.holds Try.pinned (OpenSpec.ofChange fnExactIdleDelegationsWrong)

/-- 'laws.FnIdleDelegations': WHATEVER THE INPUT: true; the input reads as it did. -/
def fnIdleDelegationsSpec : ChangeSpec := { name := "fnIdleDelegations", fn := fun _ => fun
  | [d] => { results := [.lit (.bool true)], args := [d] }
  | _ => none }
def fnIdleDelegationsRow : OpenClaim := { program := "ytjmjpejkongipaa", sum := "ca66ed957f7f28c3cfacac0756f4add2e5949c626f2413511ceeaa4aecc9446e", func := "loop.example/accesspolicies/laws.FnIdleDelegations", spec := "fnIdleDelegations", unfollowed := true, recurses := true, apart := false }
def FnIdleDelegationsSaid : Prop := fnIdleDelegationsRow.holds Try.pinned (OpenSpec.ofChange fnIdleDelegationsSpec)

/-- ITS FALSE NEIGHBOUR: 'it returns false'. Refute it at one input. -/
def fnIdleDelegationsWrong : ChangeSpec := { name := "fnIdleDelegations", fn := fun _ => fun
  | [d] => { results := [.lit (.bool false)], args := [d] }
  | _ => none }
def FnIdleDelegationsWrongFalsely : Prop := fnIdleDelegationsRow.holds Try.pinned (OpenSpec.ofChange fnIdleDelegationsWrong)

/- THE SECOND FORM. 'bulk': how many values and letters a reading holds, each counted each time it is reached (what is shared counts as often as it is met; a slice's spare places count too). A statement '..UptoSaid' is the law's where the arguments, and the package variables that the reading takes, are together of bulk at most 1048576: NARROWER than '..Said'. Prove '..Said' where nothing that the law and all that it calls make is longer than what came in: it says more and counts as full. Else prove '..UptoSaid'. A law counts once. -/
mutual
def uptoBulk {H : Type} : DataW H → Nat
  | .lit (.string bytes) => bytes.length + 1
  | .lit _ => 1
  | .nil => 1
  | .ptr d => uptoBulk d + 1
  | .slice elems spare => uptoBulkAll elems + uptoBulkAll spare + 1
  | .agg parts => uptoBulkAll parts + 1
  | .iface _ d => uptoBulk d + 1
  | .map entries => uptoBulkEntries entries + 1
  | .held _ => 1
def uptoBulkAll {H : Type} : List (DataW H) → Nat
  | [] => 0
  | d :: r => uptoBulk d + uptoBulkAll r
def uptoBulkEntries {H : Type} : List (Lit × DataW H) → Nat
  | [] => 0
  | x :: r => uptoBulkEntry x + uptoBulkEntries r
def uptoBulkEntry {H : Type} : Lit × DataW H → Nat
  | (.string bytes, d) => bytes.length + uptoBulk d + 1
  | (_, d) => uptoBulk d + 1
 end
def uptoSmall : (H : Type) → List (DataW H) → Bool := fun _ ds => decide (uptoBulkAll ds ≤ 1048576)
def OpenSpec.upto (s : _root_.Go.ChangeSpec) : _root_.Go.OpenSpec := { _root_.Go.OpenSpec.ofChange s with cond := some uptoSmall }

/-- 'laws.FnExactDelegationsValid', WHERE WHAT IT READS IS OF BULK AT MOST 1048576: true; the input reads as it did. -/
def fnExactDelegationsValidUptoRow : OpenClaim := { program := "ytjmjpejkongipaa", sum := "ca66ed957f7f28c3cfacac0756f4add2e5949c626f2413511ceeaa4aecc9446e", func := "loop.example/accesspolicies/laws.FnExactDelegationsValid", spec := "fnExactDelegationsValid", apart := false, narrowed := true }
def FnExactDelegationsValidUptoSaid : Prop := fnExactDelegationsValidUptoRow.holds Try.pinned (OpenSpec.upto fnExactDelegationsValidSpec)

/-- 'laws.FnDelegationsValid', WHERE WHAT IT READS IS OF BULK AT MOST 1048576: true; the input reads as it did. -/
def fnDelegationsValidUptoRow : OpenClaim := { program := "ytjmjpejkongipaa", sum := "ca66ed957f7f28c3cfacac0756f4add2e5949c626f2413511ceeaa4aecc9446e", func := "loop.example/accesspolicies/laws.FnDelegationsValid", spec := "fnDelegationsValid", apart := false, narrowed := true }
def FnDelegationsValidUptoSaid : Prop := fnDelegationsValidUptoRow.holds Try.pinned (OpenSpec.upto fnDelegationsValidSpec)

/-- 'laws.FnExactDelegatedActs', WHERE WHAT IT READS IS OF BULK AT MOST 1048576: true; the input reads as it did. -/
def fnExactDelegatedActsUptoRow : OpenClaim := { program := "ytjmjpejkongipaa", sum := "ca66ed957f7f28c3cfacac0756f4add2e5949c626f2413511ceeaa4aecc9446e", func := "loop.example/accesspolicies/laws.FnExactDelegatedActs", spec := "fnExactDelegatedActs", unfollowed := true, recurses := true, apart := false, narrowed := true }
def FnExactDelegatedActsUptoSaid : Prop := fnExactDelegatedActsUptoRow.holds Try.pinned (OpenSpec.upto fnExactDelegatedActsSpec)

/-- 'laws.FnDelegatedActs', WHERE WHAT IT READS IS OF BULK AT MOST 1048576: true; the input reads as it did. -/
def fnDelegatedActsUptoRow : OpenClaim := { program := "ytjmjpejkongipaa", sum := "ca66ed957f7f28c3cfacac0756f4add2e5949c626f2413511ceeaa4aecc9446e", func := "loop.example/accesspolicies/laws.FnDelegatedActs", spec := "fnDelegatedActs", unfollowed := true, recurses := true, apart := false, narrowed := true }
def FnDelegatedActsUptoSaid : Prop := fnDelegatedActsUptoRow.holds Try.pinned (OpenSpec.upto fnDelegatedActsSpec)

/-- 'laws.FnExactIdleDelegations', WHERE WHAT IT READS IS OF BULK AT MOST 1048576: true; the input reads as it did. -/
def fnExactIdleDelegationsUptoRow : OpenClaim := { program := "ytjmjpejkongipaa", sum := "ca66ed957f7f28c3cfacac0756f4add2e5949c626f2413511ceeaa4aecc9446e", func := "loop.example/accesspolicies/laws.FnExactIdleDelegations", spec := "fnExactIdleDelegations", unfollowed := true, recurses := true, apart := false, narrowed := true }
def FnExactIdleDelegationsUptoSaid : Prop := fnExactIdleDelegationsUptoRow.holds Try.pinned (OpenSpec.upto fnExactIdleDelegationsSpec)

/-- 'laws.FnIdleDelegations', WHERE WHAT IT READS IS OF BULK AT MOST 1048576: true; the input reads as it did. -/
def fnIdleDelegationsUptoRow : OpenClaim := { program := "ytjmjpejkongipaa", sum := "ca66ed957f7f28c3cfacac0756f4add2e5949c626f2413511ceeaa4aecc9446e", func := "loop.example/accesspolicies/laws.FnIdleDelegations", spec := "fnIdleDelegations", unfollowed := true, recurses := true, apart := false, narrowed := true }
def FnIdleDelegationsUptoSaid : Prop := fnIdleDelegationsUptoRow.holds Try.pinned (OpenSpec.upto fnIdleDelegationsSpec)

end Rows
end Go.Proofs.Ytjmjpejkongipaa
