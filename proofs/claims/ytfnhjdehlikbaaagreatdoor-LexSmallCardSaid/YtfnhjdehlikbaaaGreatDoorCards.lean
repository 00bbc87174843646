/-
  DERIVED. GIVEN WITH THE SEED: THE CARDS: each row of YtfnhjdehlikbaaaGreatDoorRows.lean that lists a variable, with what it lists TIED to the program's text (the seventh form; the later family's looks); each row that meets fmt, with fmt's text TOLD by the authors' own Lean function (tested against real Go, not proved from fmt's source: count such statements apart). THE CARD IS WHAT COUNTS. Prove the row's statement (the work); the ties are given (YtfnhjdehlikbaaaGreatDoorTie.lean); close each card by the builder's one call (the guide's Derived/Test/ToyasCard.lean, 'card_holds'). Laid BY PROGRAM, IN A SANDBOX (cutbox-door.mjs). By AI agents, Wed Nov 11 2026. No macro, syntax, notation, axiom, sorry.
-/
import Derived.Test.YtfnhjdehlikbaaaGreatDoorRows
import GoSem.ClaimSeven
namespace Go.Proofs.YtfnhjdehlikbaaaGreatDoor
namespace Rows

/-- THE TIED CARD OF 'hoarstonelaw08.LexRaws'. -/
def lexRawsCard : Claim7 := { stood := { row := lexRawsRow, standIns := [], harness := (true, "6a10e736512ecaae73aea9a4ef843ccaa672223ce8255031464f2ec7bffc29d1"), looks := false }, kinds := [], alts := [], laidByText := true, laidKinds := [.data, .data, .data, .data, .pinned], laidTests := true, laidLooks := .later }
def LexRawsCardSaid : Prop := Claim7.holds Tryz.pinned (.plain (OpenSpec.ofChange lexRawsSpec)) lexRawsCard

/-- THE TIED CARD OF 'hoarstonelaw08.LexTokens'. -/
def lexTokensCard : Claim7 := { stood := { row := lexTokensRow, standIns := [], harness := (true, "6a10e736512ecaae73aea9a4ef843ccaa672223ce8255031464f2ec7bffc29d1"), looks := false }, kinds := [], alts := [], laidByText := true, laidKinds := [.data, .data, .data, .data, .pinned], laidTests := true, laidLooks := .later }
def LexTokensCardSaid : Prop := Claim7.holds Tryz.pinned (.plain (OpenSpec.ofChange lexTokensSpec)) lexTokensCard

/-- THE TIED CARD OF 'hoarstonelaw08.LexLaid'. -/
def lexLaidCard : Claim7 := { stood := { row := lexLaidRow, standIns := [], harness := (true, "6a10e736512ecaae73aea9a4ef843ccaa672223ce8255031464f2ec7bffc29d1"), looks := false }, kinds := [], alts := [], laidByText := true, laidKinds := [.data, .data, .data, .data, .pinned], laidTests := true, laidLooks := .later }
def LexLaidCardSaid : Prop := Claim7.holds Tryz.pinned (.plain (OpenSpec.ofChange lexLaidSpec)) lexLaidCard

/-- THE TIED CARD OF 'hoarstonelaw08.LexEnds'. -/
def lexEndsCard : Claim7 := { stood := { row := lexEndsRow, standIns := [], harness := (true, "6a10e736512ecaae73aea9a4ef843ccaa672223ce8255031464f2ec7bffc29d1"), looks := false }, kinds := [], alts := [], laidByText := true, laidKinds := [.data, .data, .data, .data, .pinned], laidTests := true, laidLooks := .later }
def LexEndsCardSaid : Prop := Claim7.holds Tryz.pinned (.plain (OpenSpec.ofChange lexEndsSpec)) lexEndsCard

/-- THE TIED CARD OF 'hoarstonelaw08.LexMoves'. -/
def lexMovesCard : Claim7 := { stood := { row := lexMovesRow, standIns := [], harness := (true, "6a10e736512ecaae73aea9a4ef843ccaa672223ce8255031464f2ec7bffc29d1"), looks := false }, kinds := [], alts := [], laidByText := true, laidKinds := [.data, .data, .data, .data, .pinned], laidTests := true, laidLooks := .later }
def LexMovesCardSaid : Prop := Claim7.holds Tryz.pinned (.plain (OpenSpec.ofChange lexMovesSpec)) lexMovesCard

/-- THE TIED CARD OF 'hoarstonelaw08.LexBlocks'. -/
def lexBlocksCard : Claim7 := { stood := { row := lexBlocksRow, standIns := [], harness := (true, "6a10e736512ecaae73aea9a4ef843ccaa672223ce8255031464f2ec7bffc29d1"), looks := false }, kinds := [], alts := [], laidByText := true, laidKinds := [.data, .data, .data, .data, .pinned], laidTests := true, laidLooks := .later }
def LexBlocksCardSaid : Prop := Claim7.holds Tryz.pinned (.plain (OpenSpec.ofChange lexBlocksSpec)) lexBlocksCard

/-- THE TIED CARD OF 'hoarstonelaw08.LexSets'. -/
def lexSetsCard : Claim7 := { stood := { row := lexSetsRow, standIns := [], harness := (true, "6a10e736512ecaae73aea9a4ef843ccaa672223ce8255031464f2ec7bffc29d1"), looks := false }, kinds := [], alts := [], laidByText := true, laidKinds := [.data, .data, .data, .data, .pinned], laidTests := true, laidLooks := .later }
def LexSetsCardSaid : Prop := Claim7.holds Tryz.pinned (.plain (OpenSpec.ofChange lexSetsSpec)) lexSetsCard

/-- THE TIED CARD OF 'hoarstonelaw08.LexLays'. -/
def lexLaysCard : Claim7 := { stood := { row := lexLaysRow, standIns := [], harness := (true, "6a10e736512ecaae73aea9a4ef843ccaa672223ce8255031464f2ec7bffc29d1"), looks := false }, kinds := [], alts := [], laidByText := true, laidKinds := [.data, .data, .data, .data, .pinned], laidTests := true, laidLooks := .later }
def LexLaysCardSaid : Prop := Claim7.holds Tryz.pinned (.plain (OpenSpec.ofChange lexLaysSpec)) lexLaysCard

/-- THE TIED CARD OF 'hoarstonelaw08.LexSmall'. -/
def lexSmallCard : Claim7 := { stood := { row := lexSmallRow, standIns := [], harness := (true, "6a10e736512ecaae73aea9a4ef843ccaa672223ce8255031464f2ec7bffc29d1"), looks := false }, kinds := [], alts := [], laidByText := true, laidKinds := [.data, .data, .data, .data, .pinned], laidTests := true, laidLooks := .later }
def LexSmallCardSaid : Prop := Claim7.holds Tryz.pinned (.plain (OpenSpec.ofChange lexSmallSpec)) lexSmallCard

/-- THE SECOND FORM's CARD OF 'hoarstonelaw08.LexRaws'. -/
def lexRawsUptoCard : Claim7 := { stood := { row := lexRawsUptoRow, standIns := [], harness := (true, "6a10e736512ecaae73aea9a4ef843ccaa672223ce8255031464f2ec7bffc29d1"), looks := false }, kinds := [], alts := [], laidByText := true, laidKinds := [.data, .data, .data, .data, .pinned], laidTests := true, laidLooks := .later }
def LexRawsUptoCardSaid : Prop := Claim7.holds Tryz.pinned (.plain (OpenSpec.upto lexRawsSpec)) lexRawsUptoCard

/-- THE SECOND FORM's CARD OF 'hoarstonelaw08.LexTokens'. -/
def lexTokensUptoCard : Claim7 := { stood := { row := lexTokensUptoRow, standIns := [], harness := (true, "6a10e736512ecaae73aea9a4ef843ccaa672223ce8255031464f2ec7bffc29d1"), looks := false }, kinds := [], alts := [], laidByText := true, laidKinds := [.data, .data, .data, .data, .pinned], laidTests := true, laidLooks := .later }
def LexTokensUptoCardSaid : Prop := Claim7.holds Tryz.pinned (.plain (OpenSpec.upto lexTokensSpec)) lexTokensUptoCard

/-- THE SECOND FORM's CARD OF 'hoarstonelaw08.LexLaid'. -/
def lexLaidUptoCard : Claim7 := { stood := { row := lexLaidUptoRow, standIns := [], harness := (true, "6a10e736512ecaae73aea9a4ef843ccaa672223ce8255031464f2ec7bffc29d1"), looks := false }, kinds := [], alts := [], laidByText := true, laidKinds := [.data, .data, .data, .data, .pinned], laidTests := true, laidLooks := .later }
def LexLaidUptoCardSaid : Prop := Claim7.holds Tryz.pinned (.plain (OpenSpec.upto lexLaidSpec)) lexLaidUptoCard

/-- THE SECOND FORM's CARD OF 'hoarstonelaw08.LexEnds'. -/
def lexEndsUptoCard : Claim7 := { stood := { row := lexEndsUptoRow, standIns := [], harness := (true, "6a10e736512ecaae73aea9a4ef843ccaa672223ce8255031464f2ec7bffc29d1"), looks := false }, kinds := [], alts := [], laidByText := true, laidKinds := [.data, .data, .data, .data, .pinned], laidTests := true, laidLooks := .later }
def LexEndsUptoCardSaid : Prop := Claim7.holds Tryz.pinned (.plain (OpenSpec.upto lexEndsSpec)) lexEndsUptoCard

/-- THE SECOND FORM's CARD OF 'hoarstonelaw08.LexMoves'. -/
def lexMovesUptoCard : Claim7 := { stood := { row := lexMovesUptoRow, standIns := [], harness := (true, "6a10e736512ecaae73aea9a4ef843ccaa672223ce8255031464f2ec7bffc29d1"), looks := false }, kinds := [], alts := [], laidByText := true, laidKinds := [.data, .data, .data, .data, .pinned], laidTests := true, laidLooks := .later }
def LexMovesUptoCardSaid : Prop := Claim7.holds Tryz.pinned (.plain (OpenSpec.upto lexMovesSpec)) lexMovesUptoCard

/-- THE SECOND FORM's CARD OF 'hoarstonelaw08.LexBlocks'. -/
def lexBlocksUptoCard : Claim7 := { stood := { row := lexBlocksUptoRow, standIns := [], harness := (true, "6a10e736512ecaae73aea9a4ef843ccaa672223ce8255031464f2ec7bffc29d1"), looks := false }, kinds := [], alts := [], laidByText := true, laidKinds := [.data, .data, .data, .data, .pinned], laidTests := true, laidLooks := .later }
def LexBlocksUptoCardSaid : Prop := Claim7.holds Tryz.pinned (.plain (OpenSpec.upto lexBlocksSpec)) lexBlocksUptoCard

/-- THE SECOND FORM's CARD OF 'hoarstonelaw08.LexSets'. -/
def lexSetsUptoCard : Claim7 := { stood := { row := lexSetsUptoRow, standIns := [], harness := (true, "6a10e736512ecaae73aea9a4ef843ccaa672223ce8255031464f2ec7bffc29d1"), looks := false }, kinds := [], alts := [], laidByText := true, laidKinds := [.data, .data, .data, .data, .pinned], laidTests := true, laidLooks := .later }
def LexSetsUptoCardSaid : Prop := Claim7.holds Tryz.pinned (.plain (OpenSpec.upto lexSetsSpec)) lexSetsUptoCard

/-- THE SECOND FORM's CARD OF 'hoarstonelaw08.LexLays'. -/
def lexLaysUptoCard : Claim7 := { stood := { row := lexLaysUptoRow, standIns := [], harness := (true, "6a10e736512ecaae73aea9a4ef843ccaa672223ce8255031464f2ec7bffc29d1"), looks := false }, kinds := [], alts := [], laidByText := true, laidKinds := [.data, .data, .data, .data, .pinned], laidTests := true, laidLooks := .later }
def LexLaysUptoCardSaid : Prop := Claim7.holds Tryz.pinned (.plain (OpenSpec.upto lexLaysSpec)) lexLaysUptoCard

/-- THE SECOND FORM's CARD OF 'hoarstonelaw08.LexSmall'. -/
def lexSmallUptoCard : Claim7 := { stood := { row := lexSmallUptoRow, standIns := [], harness := (true, "6a10e736512ecaae73aea9a4ef843ccaa672223ce8255031464f2ec7bffc29d1"), looks := false }, kinds := [], alts := [], laidByText := true, laidKinds := [.data, .data, .data, .data, .pinned], laidTests := true, laidLooks := .later }
def LexSmallUptoCardSaid : Prop := Claim7.holds Tryz.pinned (.plain (OpenSpec.upto lexSmallSpec)) lexSmallUptoCard
end Rows
end Go.Proofs.YtfnhjdehlikbaaaGreatDoor
