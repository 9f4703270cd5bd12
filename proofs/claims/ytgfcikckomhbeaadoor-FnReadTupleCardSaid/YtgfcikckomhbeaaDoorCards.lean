/-
  DERIVED. GIVEN WITH THE SEED: THE CARDS: each row of YtgfcikckomhbeaaDoorRows.lean that lists a variable, with what it lists TIED to the program's text (the seventh form; the later family's looks); each row that meets fmt, with fmt's text TOLD by the authors' own Lean function (tested against real Go, not proved from fmt's source: count such statements apart). THE CARD IS WHAT COUNTS. Prove the row's statement (the work); the ties are given (YtgfcikckomhbeaaDoorTie.lean); close each card by the builder's one call (the guide's Derived/Test/ToyasCard.lean, 'card_holds'). Laid BY PROGRAM, IN A SANDBOX (cutbox-door.mjs). By AI agents, Wed Nov 11 2026. No macro, syntax, notation, axiom, sorry.
-/
import Derived.Test.YtgfcikckomhbeaaDoorRows
import GoSem.ClaimSeven
namespace Go.Proofs.YtgfcikckomhbeaaDoor
namespace Rows

/-- THE TIED CARD OF 'laws.FnExactTupleText'. -/
def fnExactTupleTextCard : Claim7 := { stood := { row := fnExactTupleTextRow, standIns := [], harness := (true, "7f00bedeeb61d77d85068a8eb6ace18b47aae6fb1690ad649d7d931758f7f340"), looks := true }, kinds := [], alts := [], laidByText := true, laidKinds := [.data, .data, .data], laidTests := true, laidLooks := .later }
def FnExactTupleTextCardSaid : Prop := Claim7.holds Tryd.pinned (.plain (OpenSpec.ofChange fnExactTupleTextSpec)) fnExactTupleTextCard

/-- THE TIED CARD OF 'laws.FnTupleText'. -/
def fnTupleTextCard : Claim7 := { stood := { row := fnTupleTextRow, standIns := [], harness := (true, "7f00bedeeb61d77d85068a8eb6ace18b47aae6fb1690ad649d7d931758f7f340"), looks := true }, kinds := [], alts := [], laidByText := true, laidKinds := [.data, .data, .data, .sentinel, .sentinel], laidTests := true, laidLooks := .later }
def FnTupleTextCardSaid : Prop := Claim7.holds Tryd.pinned (.plain (OpenSpec.ofChange fnTupleTextSpec)) fnTupleTextCard

/-- THE TIED CARD OF 'laws.FnExactReadTuple'. -/
def fnExactReadTupleCard : Claim7 := { stood := { row := fnExactReadTupleRow, standIns := [], harness := (true, "7f00bedeeb61d77d85068a8eb6ace18b47aae6fb1690ad649d7d931758f7f340"), looks := true }, kinds := [], alts := [], laidByText := true, laidKinds := [.data, .data, .data, .sentinel, .sentinel], laidTests := true, laidLooks := .later }
def FnExactReadTupleCardSaid : Prop := Claim7.holds Tryd.pinned (.plain (OpenSpec.ofChange fnExactReadTupleSpec)) fnExactReadTupleCard

/-- THE TIED CARD OF 'laws.FnReadTuple'. -/
def fnReadTupleCard : Claim7 := { stood := { row := fnReadTupleRow, standIns := [], harness := (true, "7f00bedeeb61d77d85068a8eb6ace18b47aae6fb1690ad649d7d931758f7f340"), looks := true }, kinds := [], alts := [], laidByText := true, laidKinds := [.data, .data, .data, .sentinel, .sentinel], laidTests := true, laidLooks := .later }
def FnReadTupleCardSaid : Prop := Claim7.holds Tryd.pinned (.plain (OpenSpec.ofChange fnReadTupleSpec)) fnReadTupleCard

/-- THE SECOND FORM's CARD OF 'laws.FnExactTupleText'. -/
def fnExactTupleTextUptoCard : Claim7 := { stood := { row := fnExactTupleTextUptoRow, standIns := [], harness := (true, "7f00bedeeb61d77d85068a8eb6ace18b47aae6fb1690ad649d7d931758f7f340"), looks := true }, kinds := [], alts := [], laidByText := true, laidKinds := [.data, .data, .data], laidTests := true, laidLooks := .later }
def FnExactTupleTextUptoCardSaid : Prop := Claim7.holds Tryd.pinned (.plain (OpenSpec.upto fnExactTupleTextSpec)) fnExactTupleTextUptoCard

/-- THE SECOND FORM's CARD OF 'laws.FnTupleText'. -/
def fnTupleTextUptoCard : Claim7 := { stood := { row := fnTupleTextUptoRow, standIns := [], harness := (true, "7f00bedeeb61d77d85068a8eb6ace18b47aae6fb1690ad649d7d931758f7f340"), looks := true }, kinds := [], alts := [], laidByText := true, laidKinds := [.data, .data, .data, .sentinel, .sentinel], laidTests := true, laidLooks := .later }
def FnTupleTextUptoCardSaid : Prop := Claim7.holds Tryd.pinned (.plain (OpenSpec.upto fnTupleTextSpec)) fnTupleTextUptoCard

/-- THE SECOND FORM's CARD OF 'laws.FnExactReadTuple'. -/
def fnExactReadTupleUptoCard : Claim7 := { stood := { row := fnExactReadTupleUptoRow, standIns := [], harness := (true, "7f00bedeeb61d77d85068a8eb6ace18b47aae6fb1690ad649d7d931758f7f340"), looks := true }, kinds := [], alts := [], laidByText := true, laidKinds := [.data, .data, .data, .sentinel, .sentinel], laidTests := true, laidLooks := .later }
def FnExactReadTupleUptoCardSaid : Prop := Claim7.holds Tryd.pinned (.plain (OpenSpec.upto fnExactReadTupleSpec)) fnExactReadTupleUptoCard

/-- THE SECOND FORM's CARD OF 'laws.FnReadTuple'. -/
def fnReadTupleUptoCard : Claim7 := { stood := { row := fnReadTupleUptoRow, standIns := [], harness := (true, "7f00bedeeb61d77d85068a8eb6ace18b47aae6fb1690ad649d7d931758f7f340"), looks := true }, kinds := [], alts := [], laidByText := true, laidKinds := [.data, .data, .data, .sentinel, .sentinel], laidTests := true, laidLooks := .later }
def FnReadTupleUptoCardSaid : Prop := Claim7.holds Tryd.pinned (.plain (OpenSpec.upto fnReadTupleSpec)) fnReadTupleUptoCard
end Rows
end Go.Proofs.YtgfcikckomhbeaaDoor
