/-
  DERIVED. GIVEN WITH THE SEED: THE CARDS: each row of YtaefobabippnhaaDoorRows.lean that lists a variable, with what it lists TIED to the program's text (the seventh form; the later family's looks); each row that meets fmt, with fmt's text TOLD by the authors' own Lean function (tested against real Go, not proved from fmt's source: count such statements apart). THE CARD IS WHAT COUNTS. Prove the row's statement (the work); the ties are given (YtaefobabippnhaaDoorTie.lean); close each card by the builder's one call (the guide's Derived/Test/ToyasCard.lean, 'card_holds'). Laid BY PROGRAM, IN A SANDBOX (cutbox-door.mjs). By AI agents, Wed Nov 11 2026. No macro, syntax, notation, axiom, sorry.
-/
import Derived.Test.YtaefobabippnhaaDoorRows
import GoSem.ClaimSeven
namespace Go.Proofs.YtaefobabippnhaaDoor
namespace Rows

/-- THE TIED CARD OF 'laws.FnExactLabelText'. -/
def fnExactLabelTextCard : Claim7 := { stood := { row := fnExactLabelTextRow, standIns := [], harness := (true, "503f01856be4c8444c0ebeed13aff5cd5fbaed7da7eab55ddbed4cc558875e02"), looks := false }, kinds := [], alts := [], laidByText := true, laidKinds := [.data], laidTests := true, laidLooks := .later }
def FnExactLabelTextCardSaid : Prop := Claim7.holds Tryd.pinned (.plain (OpenSpec.ofChange fnExactLabelTextSpec)) fnExactLabelTextCard

/-- THE TIED CARD OF 'laws.FnExactReadLabel'. -/
def fnExactReadLabelCard : Claim7 := { stood := { row := fnExactReadLabelRow, standIns := [], harness := (true, "503f01856be4c8444c0ebeed13aff5cd5fbaed7da7eab55ddbed4cc558875e02"), looks := false }, kinds := [], alts := [], laidByText := true, laidKinds := [.data], laidTests := true, laidLooks := .later }
def FnExactReadLabelCardSaid : Prop := Claim7.holds Tryd.pinned (.plain (OpenSpec.ofChange fnExactReadLabelSpec)) fnExactReadLabelCard

/-- THE TIED CARD OF 'laws.FnLabelText'. -/
def fnLabelTextCard : Claim7 := { stood := { row := fnLabelTextRow, standIns := [], harness := (true, "503f01856be4c8444c0ebeed13aff5cd5fbaed7da7eab55ddbed4cc558875e02"), looks := false }, kinds := [], alts := [], laidByText := true, laidKinds := [.data], laidTests := true, laidLooks := .later }
def FnLabelTextCardSaid : Prop := Claim7.holds Tryd.pinned (.plain (OpenSpec.ofChange fnLabelTextSpec)) fnLabelTextCard

/-- THE TIED CARD OF 'laws.FnReadLabel'. -/
def fnReadLabelCard : Claim7 := { stood := { row := fnReadLabelRow, standIns := [], harness := (true, "503f01856be4c8444c0ebeed13aff5cd5fbaed7da7eab55ddbed4cc558875e02"), looks := false }, kinds := [], alts := [], laidByText := true, laidKinds := [.data], laidTests := true, laidLooks := .later }
def FnReadLabelCardSaid : Prop := Claim7.holds Tryd.pinned (.plain (OpenSpec.ofChange fnReadLabelSpec)) fnReadLabelCard

/-- THE SECOND FORM's CARD OF 'laws.FnExactLabelText'. -/
def fnExactLabelTextUptoCard : Claim7 := { stood := { row := fnExactLabelTextUptoRow, standIns := [], harness := (true, "503f01856be4c8444c0ebeed13aff5cd5fbaed7da7eab55ddbed4cc558875e02"), looks := false }, kinds := [], alts := [], laidByText := true, laidKinds := [.data], laidTests := true, laidLooks := .later }
def FnExactLabelTextUptoCardSaid : Prop := Claim7.holds Tryd.pinned (.plain (OpenSpec.upto fnExactLabelTextSpec)) fnExactLabelTextUptoCard

/-- THE SECOND FORM's CARD OF 'laws.FnExactReadLabel'. -/
def fnExactReadLabelUptoCard : Claim7 := { stood := { row := fnExactReadLabelUptoRow, standIns := [], harness := (true, "503f01856be4c8444c0ebeed13aff5cd5fbaed7da7eab55ddbed4cc558875e02"), looks := false }, kinds := [], alts := [], laidByText := true, laidKinds := [.data], laidTests := true, laidLooks := .later }
def FnExactReadLabelUptoCardSaid : Prop := Claim7.holds Tryd.pinned (.plain (OpenSpec.upto fnExactReadLabelSpec)) fnExactReadLabelUptoCard

/-- THE SECOND FORM's CARD OF 'laws.FnLabelText'. -/
def fnLabelTextUptoCard : Claim7 := { stood := { row := fnLabelTextUptoRow, standIns := [], harness := (true, "503f01856be4c8444c0ebeed13aff5cd5fbaed7da7eab55ddbed4cc558875e02"), looks := false }, kinds := [], alts := [], laidByText := true, laidKinds := [.data], laidTests := true, laidLooks := .later }
def FnLabelTextUptoCardSaid : Prop := Claim7.holds Tryd.pinned (.plain (OpenSpec.upto fnLabelTextSpec)) fnLabelTextUptoCard

/-- THE SECOND FORM's CARD OF 'laws.FnReadLabel'. -/
def fnReadLabelUptoCard : Claim7 := { stood := { row := fnReadLabelUptoRow, standIns := [], harness := (true, "503f01856be4c8444c0ebeed13aff5cd5fbaed7da7eab55ddbed4cc558875e02"), looks := false }, kinds := [], alts := [], laidByText := true, laidKinds := [.data], laidTests := true, laidLooks := .later }
def FnReadLabelUptoCardSaid : Prop := Claim7.holds Tryd.pinned (.plain (OpenSpec.upto fnReadLabelSpec)) fnReadLabelUptoCard
end Rows
end Go.Proofs.YtaefobabippnhaaDoor
