/-
  NARROWER THAN 'FOR EVERY INPUT', by the rows' own cells (each row's printed sentence says how): FnExactPathValid: laid · FnPathValid: laid · FnExactPatternValid: laid · FnPatternValid: laid · FnExactPathFits: laid · FnPathFits: laid · FnExactPatternCovers: laid · FnPatternCovers: laid.
  DERIVED. THE GIVEN ROWS OF THIS SEAT. 8 by the template 'for every input the law returns true; each argument reads behind the call as it read before'; 0 by the template 'total and deterministic' (their statements: YtamhnhojfhlanaaDoorTotals.lean).
  GIVEN WITH THE SEED: the statements are not yours to turn. If you find one false, say at which input.
  Laid BY PROGRAM, IN A SANDBOX (cutbox-rows.mjs): the forced cells as the released guide's own fill.sh prints them over the translation f325fd7acad9a3e7… (all of the seat's roots in one cut). By AI agents, Wed Nov 11 2026. No macro, syntax, notation, axiom, sorry.
-/
import Derived.Test.YtamhnhojfhlanaaDoorChecked
import GoSem.PinnedTables
import GoSem.Claim
import GoSem.ClaimJoined
import GoSem.ClaimMapViews
import Derived.JoinedTies
import Derived.KernelRfl
namespace Go.Proofs.YtamhnhojfhlanaaDoor
/- THE CELL 'sum', in the pinned program and in every row, IS THE sha256 OF THE DUMP (.gsa) THAT YtamhnhojfhlanaaDoorProg.lean LOADS. Nothing in Lean hashes anything: it is a label: what it is worth is what the hold of that sum in a sandbox is worth. -/
noncomputable def Tryd.pinned : Pinned := { name := "ytamhnhojfhlanaadoor", sum := "f325fd7acad9a3e782a9bf677f146e049b34a738137c8cea87f1a60bd6c2739c", checked := Tryd.checked }
namespace Rows
def none {H : Type} : Left H := { results := [], args := [] }

/- WHAT THE LISTED PACKAGE-LEVEL VARIABLES READ AS WHEN THE CALL BEGINS. Each datum BY PROGRAM (the guide's laid-datum.mjs) off the statement by which the dump's own 'gosem.cut.vars' lays the variable. In a bare row this is a premise. The card (YtamhnhojfhlanaaDoorCards.lean) ties it to the program's text. -/
def laid_unicode_utf8_acceptRanges {H : Type} : DataW H := .agg [.agg [.lit (.int .u8 128), .lit (.int .u8 191)], .agg [.lit (.int .u8 160), .lit (.int .u8 191)], .agg [.lit (.int .u8 128), .lit (.int .u8 159)], .agg [.lit (.int .u8 144), .lit (.int .u8 191)], .agg [.lit (.int .u8 128), .lit (.int .u8 143)], .agg [.lit (.int .u8 0), .lit (.int .u8 0)], .agg [.lit (.int .u8 0), .lit (.int .u8 0)], .agg [.lit (.int .u8 0), .lit (.int .u8 0)], .agg [.lit (.int .u8 0), .lit (.int .u8 0)], .agg [.lit (.int .u8 0), .lit (.int .u8 0)], .agg [.lit (.int .u8 0), .lit (.int .u8 0)], .agg [.lit (.int .u8 0), .lit (.int .u8 0)], .agg [.lit (.int .u8 0), .lit (.int .u8 0)], .agg [.lit (.int .u8 0), .lit (.int .u8 0)], .agg [.lit (.int .u8 0), .lit (.int .u8 0)], .agg [.lit (.int .u8 0), .lit (.int .u8 0)]]
/-- One of Go's own tables, pinned by name: the form's constant. -/
def laid_unicode_utf8_first : DataW Unit := Go.Pinned.utf8First

/-- 'laws.FnExactPathValid': WHATEVER THE INPUT: true; the input reads as it did. -/
def fnExactPathValidSpec : ChangeSpec := { name := "fnExactPathValid", fn := fun _ => fun
  | [d] => { results := [.lit (.bool true)], args := [d] }
  | _ => none }
def fnExactPathValidRow : OpenClaim := { program := "ytamhnhojfhlanaadoor", sum := "f325fd7acad9a3e782a9bf677f146e049b34a738137c8cea87f1a60bd6c2739c", func := "loop.example/accesspolicies/laws.FnExactPathValid", spec := "fnExactPathValid", inPlace := ["internal/bytealg.CountString", "internal/bytealg.IndexByteString", "internal/bytealg.IndexString"], unfollowed := true, recurses := true, named := ["unicode/utf8.first", "unicode/utf8.acceptRanges", "internal/bytealg.MaxLen"], apart := false, laid := [("unicode/utf8.acceptRanges", laid_unicode_utf8_acceptRanges), ("unicode/utf8.first", laid_unicode_utf8_first)] }
def FnExactPathValidSaid : Prop := fnExactPathValidRow.holds Tryd.pinned (OpenSpec.ofChange fnExactPathValidSpec)

/-- ITS FALSE NEIGHBOUR: 'it returns false'. Refute it at one input. -/
def fnExactPathValidWrong : ChangeSpec := { name := "fnExactPathValid", fn := fun _ => fun
  | [d] => { results := [.lit (.bool false)], args := [d] }
  | _ => none }
def FnExactPathValidWrongFalsely : Prop := fnExactPathValidRow.holds Tryd.pinned (OpenSpec.ofChange fnExactPathValidWrong)

/-- 'laws.FnPathValid': WHATEVER THE INPUT: true; the input reads as it did. -/
def fnPathValidSpec : ChangeSpec := { name := "fnPathValid", fn := fun _ => fun
  | [d] => { results := [.lit (.bool true)], args := [d] }
  | _ => none }
def fnPathValidRow : OpenClaim := { program := "ytamhnhojfhlanaadoor", sum := "f325fd7acad9a3e782a9bf677f146e049b34a738137c8cea87f1a60bd6c2739c", func := "loop.example/accesspolicies/laws.FnPathValid", spec := "fnPathValid", inPlace := ["internal/bytealg.CountString", "internal/bytealg.IndexByteString", "internal/bytealg.IndexString"], unfollowed := true, recurses := true, named := ["unicode/utf8.first", "unicode/utf8.acceptRanges", "internal/bytealg.MaxLen"], apart := false, laid := [("unicode/utf8.acceptRanges", laid_unicode_utf8_acceptRanges), ("unicode/utf8.first", laid_unicode_utf8_first)] }
def FnPathValidSaid : Prop := fnPathValidRow.holds Tryd.pinned (OpenSpec.ofChange fnPathValidSpec)

/-- ITS FALSE NEIGHBOUR: 'it returns false'. Refute it at one input. -/
def fnPathValidWrong : ChangeSpec := { name := "fnPathValid", fn := fun _ => fun
  | [d] => { results := [.lit (.bool false)], args := [d] }
  | _ => none }
def FnPathValidWrongFalsely : Prop := fnPathValidRow.holds Tryd.pinned (OpenSpec.ofChange fnPathValidWrong)

/-- 'laws.FnExactPatternValid': WHATEVER THE INPUT: true; the input reads as it did. -/
def fnExactPatternValidSpec : ChangeSpec := { name := "fnExactPatternValid", fn := fun _ => fun
  | [d] => { results := [.lit (.bool true)], args := [d] }
  | _ => none }
def fnExactPatternValidRow : OpenClaim := { program := "ytamhnhojfhlanaadoor", sum := "f325fd7acad9a3e782a9bf677f146e049b34a738137c8cea87f1a60bd6c2739c", func := "loop.example/accesspolicies/laws.FnExactPatternValid", spec := "fnExactPatternValid", inPlace := ["internal/bytealg.CountString", "internal/bytealg.IndexByteString", "internal/bytealg.IndexString"], named := ["unicode/utf8.first", "unicode/utf8.acceptRanges", "internal/bytealg.MaxLen"], apart := false, laid := [("unicode/utf8.acceptRanges", laid_unicode_utf8_acceptRanges), ("unicode/utf8.first", laid_unicode_utf8_first)] }
def FnExactPatternValidSaid : Prop := fnExactPatternValidRow.holds Tryd.pinned (OpenSpec.ofChange fnExactPatternValidSpec)

/-- ITS FALSE NEIGHBOUR: 'it returns false'. Refute it at one input. -/
def fnExactPatternValidWrong : ChangeSpec := { name := "fnExactPatternValid", fn := fun _ => fun
  | [d] => { results := [.lit (.bool false)], args := [d] }
  | _ => none }
def FnExactPatternValidWrongFalsely : Prop := fnExactPatternValidRow.holds Tryd.pinned (OpenSpec.ofChange fnExactPatternValidWrong)

/-- 'laws.FnPatternValid': WHATEVER THE INPUT: true; the input reads as it did. -/
def fnPatternValidSpec : ChangeSpec := { name := "fnPatternValid", fn := fun _ => fun
  | [d] => { results := [.lit (.bool true)], args := [d] }
  | _ => none }
def fnPatternValidRow : OpenClaim := { program := "ytamhnhojfhlanaadoor", sum := "f325fd7acad9a3e782a9bf677f146e049b34a738137c8cea87f1a60bd6c2739c", func := "loop.example/accesspolicies/laws.FnPatternValid", spec := "fnPatternValid", inPlace := ["internal/bytealg.CountString", "internal/bytealg.IndexByteString", "internal/bytealg.IndexString"], unfollowed := true, recurses := true, named := ["unicode/utf8.first", "unicode/utf8.acceptRanges", "internal/bytealg.MaxLen"], apart := false, laid := [("unicode/utf8.acceptRanges", laid_unicode_utf8_acceptRanges), ("unicode/utf8.first", laid_unicode_utf8_first)] }
def FnPatternValidSaid : Prop := fnPatternValidRow.holds Tryd.pinned (OpenSpec.ofChange fnPatternValidSpec)

/-- ITS FALSE NEIGHBOUR: 'it returns false'. Refute it at one input. -/
def fnPatternValidWrong : ChangeSpec := { name := "fnPatternValid", fn := fun _ => fun
  | [d] => { results := [.lit (.bool false)], args := [d] }
  | _ => none }
def FnPatternValidWrongFalsely : Prop := fnPatternValidRow.holds Tryd.pinned (OpenSpec.ofChange fnPatternValidWrong)

/-- 'laws.FnExactPathFits': WHATEVER THE INPUT: true; the input reads as it did. -/
def fnExactPathFitsSpec : ChangeSpec := { name := "fnExactPathFits", fn := fun _ => fun
  | [d1, d2] => { results := [.lit (.bool true)], args := [d1, d2] }
  | _ => none }
def fnExactPathFitsRow : OpenClaim := { program := "ytamhnhojfhlanaadoor", sum := "f325fd7acad9a3e782a9bf677f146e049b34a738137c8cea87f1a60bd6c2739c", func := "loop.example/accesspolicies/laws.FnExactPathFits", spec := "fnExactPathFits", inPlace := ["internal/bytealg.CountString", "internal/bytealg.IndexByteString", "internal/bytealg.IndexString"], unfollowed := true, recurses := true, named := ["unicode/utf8.first", "unicode/utf8.acceptRanges", "internal/bytealg.MaxLen"], apart := false, laid := [("unicode/utf8.acceptRanges", laid_unicode_utf8_acceptRanges), ("unicode/utf8.first", laid_unicode_utf8_first)] }
def FnExactPathFitsSaid : Prop := fnExactPathFitsRow.holds Tryd.pinned (OpenSpec.ofChange fnExactPathFitsSpec)

/-- ITS FALSE NEIGHBOUR: 'it returns false'. Refute it at one input. -/
def fnExactPathFitsWrong : ChangeSpec := { name := "fnExactPathFits", fn := fun _ => fun
  | [d1, d2] => { results := [.lit (.bool false)], args := [d1, d2] }
  | _ => none }
def FnExactPathFitsWrongFalsely : Prop := fnExactPathFitsRow.holds Tryd.pinned (OpenSpec.ofChange fnExactPathFitsWrong)

/-- 'laws.FnPathFits': WHATEVER THE INPUT: true; the input reads as it did. -/
def fnPathFitsSpec : ChangeSpec := { name := "fnPathFits", fn := fun _ => fun
  | [d] => { results := [.lit (.bool true)], args := [d] }
  | _ => none }
def fnPathFitsRow : OpenClaim := { program := "ytamhnhojfhlanaadoor", sum := "f325fd7acad9a3e782a9bf677f146e049b34a738137c8cea87f1a60bd6c2739c", func := "loop.example/accesspolicies/laws.FnPathFits", spec := "fnPathFits", inPlace := ["internal/bytealg.CountString", "internal/bytealg.IndexByteString", "internal/bytealg.IndexString"], unfollowed := true, recurses := true, named := ["unicode/utf8.first", "unicode/utf8.acceptRanges", "internal/bytealg.MaxLen"], apart := false, laid := [("unicode/utf8.acceptRanges", laid_unicode_utf8_acceptRanges), ("unicode/utf8.first", laid_unicode_utf8_first)] }
def FnPathFitsSaid : Prop := fnPathFitsRow.holds Tryd.pinned (OpenSpec.ofChange fnPathFitsSpec)

/-- ITS FALSE NEIGHBOUR: 'it returns false'. Refute it at one input. -/
def fnPathFitsWrong : ChangeSpec := { name := "fnPathFits", fn := fun _ => fun
  | [d] => { results := [.lit (.bool false)], args := [d] }
  | _ => none }
def FnPathFitsWrongFalsely : Prop := fnPathFitsRow.holds Tryd.pinned (OpenSpec.ofChange fnPathFitsWrong)

/-- 'laws.FnExactPatternCovers': WHATEVER THE INPUT: true; the input reads as it did. -/
def fnExactPatternCoversSpec : ChangeSpec := { name := "fnExactPatternCovers", fn := fun _ => fun
  | [d1, d2] => { results := [.lit (.bool true)], args := [d1, d2] }
  | _ => none }
def fnExactPatternCoversRow : OpenClaim := { program := "ytamhnhojfhlanaadoor", sum := "f325fd7acad9a3e782a9bf677f146e049b34a738137c8cea87f1a60bd6c2739c", func := "loop.example/accesspolicies/laws.FnExactPatternCovers", spec := "fnExactPatternCovers", inPlace := ["internal/bytealg.CountString", "internal/bytealg.IndexByteString", "internal/bytealg.IndexString"], unfollowed := true, recurses := true, named := ["unicode/utf8.first", "unicode/utf8.acceptRanges", "internal/bytealg.MaxLen"], apart := false, laid := [("unicode/utf8.acceptRanges", laid_unicode_utf8_acceptRanges), ("unicode/utf8.first", laid_unicode_utf8_first)] }
def FnExactPatternCoversSaid : Prop := fnExactPatternCoversRow.holds Tryd.pinned (OpenSpec.ofChange fnExactPatternCoversSpec)

/-- ITS FALSE NEIGHBOUR: 'it returns false'. Refute it at one input. -/
def fnExactPatternCoversWrong : ChangeSpec := { name := "fnExactPatternCovers", fn := fun _ => fun
  | [d1, d2] => { results := [.lit (.bool false)], args := [d1, d2] }
  | _ => none }
def FnExactPatternCoversWrongFalsely : Prop := fnExactPatternCoversRow.holds Tryd.pinned (OpenSpec.ofChange fnExactPatternCoversWrong)

/-- 'laws.FnPatternCovers': WHATEVER THE INPUT: true; the input reads as it did. -/
def fnPatternCoversSpec : ChangeSpec := { name := "fnPatternCovers", fn := fun _ => fun
  | [d] => { results := [.lit (.bool true)], args := [d] }
  | _ => none }
def fnPatternCoversRow : OpenClaim := { program := "ytamhnhojfhlanaadoor", sum := "f325fd7acad9a3e782a9bf677f146e049b34a738137c8cea87f1a60bd6c2739c", func := "loop.example/accesspolicies/laws.FnPatternCovers", spec := "fnPatternCovers", inPlace := ["internal/bytealg.CountString", "internal/bytealg.IndexByteString", "internal/bytealg.IndexString"], unfollowed := true, recurses := true, named := ["unicode/utf8.first", "unicode/utf8.acceptRanges", "internal/bytealg.MaxLen"], apart := false, laid := [("unicode/utf8.acceptRanges", laid_unicode_utf8_acceptRanges), ("unicode/utf8.first", laid_unicode_utf8_first)] }
def FnPatternCoversSaid : Prop := fnPatternCoversRow.holds Tryd.pinned (OpenSpec.ofChange fnPatternCoversSpec)

/-- ITS FALSE NEIGHBOUR: 'it returns false'. Refute it at one input. -/
def fnPatternCoversWrong : ChangeSpec := { name := "fnPatternCovers", fn := fun _ => fun
  | [d] => { results := [.lit (.bool false)], args := [d] }
  | _ => none }
def FnPatternCoversWrongFalsely : Prop := fnPatternCoversRow.holds Tryd.pinned (OpenSpec.ofChange fnPatternCoversWrong)

/- THE SECOND FORM. 'bulk': how many values and letters a reading holds, each counted each time it is reached (what is shared counts as often as it is met; a slice's spare places count too). A statement '..UptoSaid' is the law's where the arguments, and the package variables that the reading takes, are together of bulk at most 1048576: NARROWER than '..Said'. Prove '..Said' where nothing that the law and all that it calls make is longer than what came in: it says more and counts as full. Else prove '..UptoSaid'. A law counts once. -/
mutual
def uptoBulk {H : Type} : DataW H → Nat
  | .lit (.string bytes) => bytes.length + 1
  | .lit _ => 1
  | .nil => 1
  | .ptr d => uptoBulk d + 1
  | .slice elems spare => uptoBulkAll elems + uptoBulkAll spare + 1
  | .agg parts => uptoBulkAll parts + 1
  | .iface _ d => uptoBulk d + 1
  | .map entries => uptoBulkEntries entries + 1
  | .held _ => 1
def uptoBulkAll {H : Type} : List (DataW H) → Nat
  | [] => 0
  | d :: r => uptoBulk d + uptoBulkAll r
def uptoBulkEntries {H : Type} : List (Lit × DataW H) → Nat
  | [] => 0
  | x :: r => uptoBulkEntry x + uptoBulkEntries r
def uptoBulkEntry {H : Type} : Lit × DataW H → Nat
  | (.string bytes, d) => bytes.length + uptoBulk d + 1
  | (_, d) => uptoBulk d + 1
 end
def uptoSmall : (H : Type) → List (DataW H) → Bool := fun _ ds => decide (uptoBulkAll ds ≤ 1048576)
def OpenSpec.upto (s : _root_.Go.ChangeSpec) : _root_.Go.OpenSpec := { _root_.Go.OpenSpec.ofChange s with cond := some uptoSmall }

/-- 'laws.FnExactPathValid', WHERE WHAT IT READS IS OF BULK AT MOST 1048576: true; the input reads as it did. -/
def fnExactPathValidUptoRow : OpenClaim := { program := "ytamhnhojfhlanaadoor", sum := "f325fd7acad9a3e782a9bf677f146e049b34a738137c8cea87f1a60bd6c2739c", func := "loop.example/accesspolicies/laws.FnExactPathValid", spec := "fnExactPathValid", inPlace := ["internal/bytealg.CountString", "internal/bytealg.IndexByteString", "internal/bytealg.IndexString"], unfollowed := true, recurses := true, named := ["unicode/utf8.first", "unicode/utf8.acceptRanges", "internal/bytealg.MaxLen"], apart := false, laid := [("unicode/utf8.acceptRanges", laid_unicode_utf8_acceptRanges), ("unicode/utf8.first", laid_unicode_utf8_first)], narrowed := true }
def FnExactPathValidUptoSaid : Prop := fnExactPathValidUptoRow.holds Tryd.pinned (OpenSpec.upto fnExactPathValidSpec)

/-- 'laws.FnPathValid', WHERE WHAT IT READS IS OF BULK AT MOST 1048576: true; the input reads as it did. -/
def fnPathValidUptoRow : OpenClaim := { program := "ytamhnhojfhlanaadoor", sum := "f325fd7acad9a3e782a9bf677f146e049b34a738137c8cea87f1a60bd6c2739c", func := "loop.example/accesspolicies/laws.FnPathValid", spec := "fnPathValid", inPlace := ["internal/bytealg.CountString", "internal/bytealg.IndexByteString", "internal/bytealg.IndexString"], unfollowed := true, recurses := true, named := ["unicode/utf8.first", "unicode/utf8.acceptRanges", "internal/bytealg.MaxLen"], apart := false, laid := [("unicode/utf8.acceptRanges", laid_unicode_utf8_acceptRanges), ("unicode/utf8.first", laid_unicode_utf8_first)], narrowed := true }
def FnPathValidUptoSaid : Prop := fnPathValidUptoRow.holds Tryd.pinned (OpenSpec.upto fnPathValidSpec)

/-- 'laws.FnExactPatternValid', WHERE WHAT IT READS IS OF BULK AT MOST 1048576: true; the input reads as it did. -/
def fnExactPatternValidUptoRow : OpenClaim := { program := "ytamhnhojfhlanaadoor", sum := "f325fd7acad9a3e782a9bf677f146e049b34a738137c8cea87f1a60bd6c2739c", func := "loop.example/accesspolicies/laws.FnExactPatternValid", spec := "fnExactPatternValid", inPlace := ["internal/bytealg.CountString", "internal/bytealg.IndexByteString", "internal/bytealg.IndexString"], named := ["unicode/utf8.first", "unicode/utf8.acceptRanges", "internal/bytealg.MaxLen"], apart := false, laid := [("unicode/utf8.acceptRanges", laid_unicode_utf8_acceptRanges), ("unicode/utf8.first", laid_unicode_utf8_first)], narrowed := true }
def FnExactPatternValidUptoSaid : Prop := fnExactPatternValidUptoRow.holds Tryd.pinned (OpenSpec.upto fnExactPatternValidSpec)

/-- 'laws.FnPatternValid', WHERE WHAT IT READS IS OF BULK AT MOST 1048576: true; the input reads as it did. -/
def fnPatternValidUptoRow : OpenClaim := { program := "ytamhnhojfhlanaadoor", sum := "f325fd7acad9a3e782a9bf677f146e049b34a738137c8cea87f1a60bd6c2739c", func := "loop.example/accesspolicies/laws.FnPatternValid", spec := "fnPatternValid", inPlace := ["internal/bytealg.CountString", "internal/bytealg.IndexByteString", "internal/bytealg.IndexString"], unfollowed := true, recurses := true, named := ["unicode/utf8.first", "unicode/utf8.acceptRanges", "internal/bytealg.MaxLen"], apart := false, laid := [("unicode/utf8.acceptRanges", laid_unicode_utf8_acceptRanges), ("unicode/utf8.first", laid_unicode_utf8_first)], narrowed := true }
def FnPatternValidUptoSaid : Prop := fnPatternValidUptoRow.holds Tryd.pinned (OpenSpec.upto fnPatternValidSpec)

/-- 'laws.FnExactPathFits', WHERE WHAT IT READS IS OF BULK AT MOST 1048576: true; the input reads as it did. -/
def fnExactPathFitsUptoRow : OpenClaim := { program := "ytamhnhojfhlanaadoor", sum := "f325fd7acad9a3e782a9bf677f146e049b34a738137c8cea87f1a60bd6c2739c", func := "loop.example/accesspolicies/laws.FnExactPathFits", spec := "fnExactPathFits", inPlace := ["internal/bytealg.CountString", "internal/bytealg.IndexByteString", "internal/bytealg.IndexString"], unfollowed := true, recurses := true, named := ["unicode/utf8.first", "unicode/utf8.acceptRanges", "internal/bytealg.MaxLen"], apart := false, laid := [("unicode/utf8.acceptRanges", laid_unicode_utf8_acceptRanges), ("unicode/utf8.first", laid_unicode_utf8_first)], narrowed := true }
def FnExactPathFitsUptoSaid : Prop := fnExactPathFitsUptoRow.holds Tryd.pinned (OpenSpec.upto fnExactPathFitsSpec)

/-- 'laws.FnPathFits', WHERE WHAT IT READS IS OF BULK AT MOST 1048576: true; the input reads as it did. -/
def fnPathFitsUptoRow : OpenClaim := { program := "ytamhnhojfhlanaadoor", sum := "f325fd7acad9a3e782a9bf677f146e049b34a738137c8cea87f1a60bd6c2739c", func := "loop.example/accesspolicies/laws.FnPathFits", spec := "fnPathFits", inPlace := ["internal/bytealg.CountString", "internal/bytealg.IndexByteString", "internal/bytealg.IndexString"], unfollowed := true, recurses := true, named := ["unicode/utf8.first", "unicode/utf8.acceptRanges", "internal/bytealg.MaxLen"], apart := false, laid := [("unicode/utf8.acceptRanges", laid_unicode_utf8_acceptRanges), ("unicode/utf8.first", laid_unicode_utf8_first)], narrowed := true }
def FnPathFitsUptoSaid : Prop := fnPathFitsUptoRow.holds Tryd.pinned (OpenSpec.upto fnPathFitsSpec)

/-- 'laws.FnExactPatternCovers', WHERE WHAT IT READS IS OF BULK AT MOST 1048576: true; the input reads as it did. -/
def fnExactPatternCoversUptoRow : OpenClaim := { program := "ytamhnhojfhlanaadoor", sum := "f325fd7acad9a3e782a9bf677f146e049b34a738137c8cea87f1a60bd6c2739c", func := "loop.example/accesspolicies/laws.FnExactPatternCovers", spec := "fnExactPatternCovers", inPlace := ["internal/bytealg.CountString", "internal/bytealg.IndexByteString", "internal/bytealg.IndexString"], unfollowed := true, recurses := true, named := ["unicode/utf8.first", "unicode/utf8.acceptRanges", "internal/bytealg.MaxLen"], apart := false, laid := [("unicode/utf8.acceptRanges", laid_unicode_utf8_acceptRanges), ("unicode/utf8.first", laid_unicode_utf8_first)], narrowed := true }
def FnExactPatternCoversUptoSaid : Prop := fnExactPatternCoversUptoRow.holds Tryd.pinned (OpenSpec.upto fnExactPatternCoversSpec)

/-- 'laws.FnPatternCovers', WHERE WHAT IT READS IS OF BULK AT MOST 1048576: true; the input reads as it did. -/
def fnPatternCoversUptoRow : OpenClaim := { program := "ytamhnhojfhlanaadoor", sum := "f325fd7acad9a3e782a9bf677f146e049b34a738137c8cea87f1a60bd6c2739c", func := "loop.example/accesspolicies/laws.FnPatternCovers", spec := "fnPatternCovers", inPlace := ["internal/bytealg.CountString", "internal/bytealg.IndexByteString", "internal/bytealg.IndexString"], unfollowed := true, recurses := true, named := ["unicode/utf8.first", "unicode/utf8.acceptRanges", "internal/bytealg.MaxLen"], apart := false, laid := [("unicode/utf8.acceptRanges", laid_unicode_utf8_acceptRanges), ("unicode/utf8.first", laid_unicode_utf8_first)], narrowed := true }
def FnPatternCoversUptoSaid : Prop := fnPatternCoversUptoRow.holds Tryd.pinned (OpenSpec.upto fnPatternCoversSpec)

end Rows
end Go.Proofs.YtamhnhojfhlanaaDoor
