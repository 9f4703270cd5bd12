/-
  DERIVED. GIVEN WITH THE SEED: THE CARDS: each row of YtamhnhojfhlanaaDoorRows.lean that lists a variable, with what it lists TIED to the program's text (the seventh form; the later family's looks); each row that meets fmt, with fmt's text TOLD by the authors' own Lean function (tested against real Go, not proved from fmt's source: count such statements apart). THE CARD IS WHAT COUNTS. Prove the row's statement (the work); the ties are given (YtamhnhojfhlanaaDoorTie.lean); close each card by the builder's one call (the guide's Derived/Test/ToyasCard.lean, 'card_holds'). Laid BY PROGRAM, IN A SANDBOX (cutbox-door.mjs). By AI agents, Wed Nov 11 2026. No macro, syntax, notation, axiom, sorry.
-/
import Derived.Test.YtamhnhojfhlanaaDoorRows
import GoSem.ClaimSeven
namespace Go.Proofs.YtamhnhojfhlanaaDoor
namespace Rows

/-- THE TIED CARD OF 'laws.FnExactPathValid'. -/
def fnExactPathValidCard : Claim7 := { stood := { row := fnExactPathValidRow, standIns := [], harness := (true, "01baab6a49a6cd3cdaeb6c18bb890aa40b4bea4027369fec74c0a7e1742c3ae4"), looks := false }, kinds := [], alts := [], laidByText := true, laidKinds := [.data, .pinned], laidTests := true, laidLooks := .later }
def FnExactPathValidCardSaid : Prop := Claim7.holds Tryd.pinned (.plain (OpenSpec.ofChange fnExactPathValidSpec)) fnExactPathValidCard

/-- THE TIED CARD OF 'laws.FnPathValid'. -/
def fnPathValidCard : Claim7 := { stood := { row := fnPathValidRow, standIns := [], harness := (true, "01baab6a49a6cd3cdaeb6c18bb890aa40b4bea4027369fec74c0a7e1742c3ae4"), looks := false }, kinds := [], alts := [], laidByText := true, laidKinds := [.data, .pinned], laidTests := true, laidLooks := .later }
def FnPathValidCardSaid : Prop := Claim7.holds Tryd.pinned (.plain (OpenSpec.ofChange fnPathValidSpec)) fnPathValidCard

/-- THE TIED CARD OF 'laws.FnExactPatternValid'. -/
def fnExactPatternValidCard : Claim7 := { stood := { row := fnExactPatternValidRow, standIns := [], harness := (true, "01baab6a49a6cd3cdaeb6c18bb890aa40b4bea4027369fec74c0a7e1742c3ae4"), looks := false }, kinds := [], alts := [], laidByText := true, laidKinds := [.data, .pinned], laidTests := true, laidLooks := .later }
def FnExactPatternValidCardSaid : Prop := Claim7.holds Tryd.pinned (.plain (OpenSpec.ofChange fnExactPatternValidSpec)) fnExactPatternValidCard

/-- THE TIED CARD OF 'laws.FnPatternValid'. -/
def fnPatternValidCard : Claim7 := { stood := { row := fnPatternValidRow, standIns := [], harness := (true, "01baab6a49a6cd3cdaeb6c18bb890aa40b4bea4027369fec74c0a7e1742c3ae4"), looks := false }, kinds := [], alts := [], laidByText := true, laidKinds := [.data, .pinned], laidTests := true, laidLooks := .later }
def FnPatternValidCardSaid : Prop := Claim7.holds Tryd.pinned (.plain (OpenSpec.ofChange fnPatternValidSpec)) fnPatternValidCard

/-- THE TIED CARD OF 'laws.FnExactPathFits'. -/
def fnExactPathFitsCard : Claim7 := { stood := { row := fnExactPathFitsRow, standIns := [], harness := (true, "01baab6a49a6cd3cdaeb6c18bb890aa40b4bea4027369fec74c0a7e1742c3ae4"), looks := false }, kinds := [], alts := [], laidByText := true, laidKinds := [.data, .pinned], laidTests := true, laidLooks := .later }
def FnExactPathFitsCardSaid : Prop := Claim7.holds Tryd.pinned (.plain (OpenSpec.ofChange fnExactPathFitsSpec)) fnExactPathFitsCard

/-- THE TIED CARD OF 'laws.FnPathFits'. -/
def fnPathFitsCard : Claim7 := { stood := { row := fnPathFitsRow, standIns := [], harness := (true, "01baab6a49a6cd3cdaeb6c18bb890aa40b4bea4027369fec74c0a7e1742c3ae4"), looks := false }, kinds := [], alts := [], laidByText := true, laidKinds := [.data, .pinned], laidTests := true, laidLooks := .later }
def FnPathFitsCardSaid : Prop := Claim7.holds Tryd.pinned (.plain (OpenSpec.ofChange fnPathFitsSpec)) fnPathFitsCard

/-- THE TIED CARD OF 'laws.FnExactPatternCovers'. -/
def fnExactPatternCoversCard : Claim7 := { stood := { row := fnExactPatternCoversRow, standIns := [], harness := (true, "01baab6a49a6cd3cdaeb6c18bb890aa40b4bea4027369fec74c0a7e1742c3ae4"), looks := false }, kinds := [], alts := [], laidByText := true, laidKinds := [.data, .pinned], laidTests := true, laidLooks := .later }
def FnExactPatternCoversCardSaid : Prop := Claim7.holds Tryd.pinned (.plain (OpenSpec.ofChange fnExactPatternCoversSpec)) fnExactPatternCoversCard

/-- THE TIED CARD OF 'laws.FnPatternCovers'. -/
def fnPatternCoversCard : Claim7 := { stood := { row := fnPatternCoversRow, standIns := [], harness := (true, "01baab6a49a6cd3cdaeb6c18bb890aa40b4bea4027369fec74c0a7e1742c3ae4"), looks := false }, kinds := [], alts := [], laidByText := true, laidKinds := [.data, .pinned], laidTests := true, laidLooks := .later }
def FnPatternCoversCardSaid : Prop := Claim7.holds Tryd.pinned (.plain (OpenSpec.ofChange fnPatternCoversSpec)) fnPatternCoversCard

/-- THE SECOND FORM's CARD OF 'laws.FnExactPathValid'. -/
def fnExactPathValidUptoCard : Claim7 := { stood := { row := fnExactPathValidUptoRow, standIns := [], harness := (true, "01baab6a49a6cd3cdaeb6c18bb890aa40b4bea4027369fec74c0a7e1742c3ae4"), looks := false }, kinds := [], alts := [], laidByText := true, laidKinds := [.data, .pinned], laidTests := true, laidLooks := .later }
def FnExactPathValidUptoCardSaid : Prop := Claim7.holds Tryd.pinned (.plain (OpenSpec.upto fnExactPathValidSpec)) fnExactPathValidUptoCard

/-- THE SECOND FORM's CARD OF 'laws.FnPathValid'. -/
def fnPathValidUptoCard : Claim7 := { stood := { row := fnPathValidUptoRow, standIns := [], harness := (true, "01baab6a49a6cd3cdaeb6c18bb890aa40b4bea4027369fec74c0a7e1742c3ae4"), looks := false }, kinds := [], alts := [], laidByText := true, laidKinds := [.data, .pinned], laidTests := true, laidLooks := .later }
def FnPathValidUptoCardSaid : Prop := Claim7.holds Tryd.pinned (.plain (OpenSpec.upto fnPathValidSpec)) fnPathValidUptoCard

/-- THE SECOND FORM's CARD OF 'laws.FnExactPatternValid'. -/
def fnExactPatternValidUptoCard : Claim7 := { stood := { row := fnExactPatternValidUptoRow, standIns := [], harness := (true, "01baab6a49a6cd3cdaeb6c18bb890aa40b4bea4027369fec74c0a7e1742c3ae4"), looks := false }, kinds := [], alts := [], laidByText := true, laidKinds := [.data, .pinned], laidTests := true, laidLooks := .later }
def FnExactPatternValidUptoCardSaid : Prop := Claim7.holds Tryd.pinned (.plain (OpenSpec.upto fnExactPatternValidSpec)) fnExactPatternValidUptoCard

/-- THE SECOND FORM's CARD OF 'laws.FnPatternValid'. -/
def fnPatternValidUptoCard : Claim7 := { stood := { row := fnPatternValidUptoRow, standIns := [], harness := (true, "01baab6a49a6cd3cdaeb6c18bb890aa40b4bea4027369fec74c0a7e1742c3ae4"), looks := false }, kinds := [], alts := [], laidByText := true, laidKinds := [.data, .pinned], laidTests := true, laidLooks := .later }
def FnPatternValidUptoCardSaid : Prop := Claim7.holds Tryd.pinned (.plain (OpenSpec.upto fnPatternValidSpec)) fnPatternValidUptoCard

/-- THE SECOND FORM's CARD OF 'laws.FnExactPathFits'. -/
def fnExactPathFitsUptoCard : Claim7 := { stood := { row := fnExactPathFitsUptoRow, standIns := [], harness := (true, "01baab6a49a6cd3cdaeb6c18bb890aa40b4bea4027369fec74c0a7e1742c3ae4"), looks := false }, kinds := [], alts := [], laidByText := true, laidKinds := [.data, .pinned], laidTests := true, laidLooks := .later }
def FnExactPathFitsUptoCardSaid : Prop := Claim7.holds Tryd.pinned (.plain (OpenSpec.upto fnExactPathFitsSpec)) fnExactPathFitsUptoCard

/-- THE SECOND FORM's CARD OF 'laws.FnPathFits'. -/
def fnPathFitsUptoCard : Claim7 := { stood := { row := fnPathFitsUptoRow, standIns := [], harness := (true, "01baab6a49a6cd3cdaeb6c18bb890aa40b4bea4027369fec74c0a7e1742c3ae4"), looks := false }, kinds := [], alts := [], laidByText := true, laidKinds := [.data, .pinned], laidTests := true, laidLooks := .later }
def FnPathFitsUptoCardSaid : Prop := Claim7.holds Tryd.pinned (.plain (OpenSpec.upto fnPathFitsSpec)) fnPathFitsUptoCard

/-- THE SECOND FORM's CARD OF 'laws.FnExactPatternCovers'. -/
def fnExactPatternCoversUptoCard : Claim7 := { stood := { row := fnExactPatternCoversUptoRow, standIns := [], harness := (true, "01baab6a49a6cd3cdaeb6c18bb890aa40b4bea4027369fec74c0a7e1742c3ae4"), looks := false }, kinds := [], alts := [], laidByText := true, laidKinds := [.data, .pinned], laidTests := true, laidLooks := .later }
def FnExactPatternCoversUptoCardSaid : Prop := Claim7.holds Tryd.pinned (.plain (OpenSpec.upto fnExactPatternCoversSpec)) fnExactPatternCoversUptoCard

/-- THE SECOND FORM's CARD OF 'laws.FnPatternCovers'. -/
def fnPatternCoversUptoCard : Claim7 := { stood := { row := fnPatternCoversUptoRow, standIns := [], harness := (true, "01baab6a49a6cd3cdaeb6c18bb890aa40b4bea4027369fec74c0a7e1742c3ae4"), looks := false }, kinds := [], alts := [], laidByText := true, laidKinds := [.data, .pinned], laidTests := true, laidLooks := .later }
def FnPatternCoversUptoCardSaid : Prop := Claim7.holds Tryd.pinned (.plain (OpenSpec.upto fnPatternCoversSpec)) fnPatternCoversUptoCard
end Rows
end Go.Proofs.YtamhnhojfhlanaaDoor
