/-
  DERIVED. GIVEN WITH THE SEED: THE CARDS: each row of YtiejpbhkchcmkaaDoorRows.lean that lists a variable, with what it lists TIED to the program's text (the seventh form; the later family's looks); each row that meets fmt, with fmt's text TOLD by the authors' own Lean function (tested against real Go, not proved from fmt's source: count such statements apart). THE CARD IS WHAT COUNTS. Prove the row's statement (the work); the ties are given (YtiejpbhkchcmkaaDoorTie.lean); close each card by the builder's one call (the guide's Derived/Test/ToyasCard.lean, 'card_holds'). Laid BY PROGRAM, IN A SANDBOX (cutbox-door.mjs). By AI agents, Wed Nov 11 2026. No macro, syntax, notation, axiom, sorry.
-/
import Derived.Test.YtiejpbhkchcmkaaDoorRows
import GoSem.ClaimSeven
namespace Go.Proofs.YtiejpbhkchcmkaaDoor
namespace Rows

/-- THE TIED CARD OF 'tandemlaw2.MapperNews'. -/
def mapperNewsCard : Claim7 := { stood := { row := mapperNewsRow, standIns := [], harness := (true, "9561a2589bc0badb7c31e78138e338353604206ab2884af1f087d3c4aec0d9ad"), looks := true }, kinds := [], alts := [], laidByText := true, laidKinds := [.data], laidTests := true, laidLooks := .later }
def MapperNewsCardSaid : Prop := Claim7.holds Tryd.pinned (.plain (OpenSpec.ofChange mapperNewsSpec)) mapperNewsCard

/-- THE TIED CARD OF 'tandemlaw2.MapperValids'. -/
def mapperValidsCard : Claim7 := { stood := { row := mapperValidsRow, standIns := [], harness := (true, "9561a2589bc0badb7c31e78138e338353604206ab2884af1f087d3c4aec0d9ad"), looks := true }, kinds := [], alts := [], laidByText := true, laidKinds := [.data], laidTests := true, laidLooks := .later }
def MapperValidsCardSaid : Prop := Claim7.holds Tryd.pinned (.plain (OpenSpec.ofChange mapperValidsSpec)) mapperValidsCard

/-- THE TIED CARD OF 'tandemlaw2.MapperClocks'. -/
def mapperClocksCard : Claim7 := { stood := { row := mapperClocksRow, standIns := [], harness := (true, "9561a2589bc0badb7c31e78138e338353604206ab2884af1f087d3c4aec0d9ad"), looks := true }, kinds := [], alts := [], laidByText := true, laidKinds := [.data], laidTests := true, laidLooks := .later }
def MapperClocksCardSaid : Prop := Claim7.holds Tryd.pinned (.plain (OpenSpec.ofChange mapperClocksSpec)) mapperClocksCard

/-- THE TIED CARD OF 'tandemlaw2.MapperSees'. -/
def mapperSeesCard : Claim7 := { stood := { row := mapperSeesRow, standIns := [], harness := (true, "9561a2589bc0badb7c31e78138e338353604206ab2884af1f087d3c4aec0d9ad"), looks := true }, kinds := [], alts := [], laidByText := true, laidKinds := [.data], laidTests := true, laidLooks := .later }
def MapperSeesCardSaid : Prop := Claim7.holds Tryd.pinned (.plain (OpenSpec.ofChange mapperSeesSpec)) mapperSeesCard

/-- THE TIED CARD OF 'tandemlaw2.MapperWrites'. -/
def mapperWritesCard : Claim7 := { stood := { row := mapperWritesRow, standIns := [], harness := (true, "9561a2589bc0badb7c31e78138e338353604206ab2884af1f087d3c4aec0d9ad"), looks := true }, kinds := [], alts := [], laidByText := true, laidKinds := [.data], laidTests := true, laidLooks := .later }
def MapperWritesCardSaid : Prop := Claim7.holds Tryd.pinned (.plain (OpenSpec.ofChange mapperWritesSpec)) mapperWritesCard

/-- THE TIED CARD OF 'tandemlaw2.MapperDoubles'. -/
def mapperDoublesCard : Claim7 := { stood := { row := mapperDoublesRow, standIns := [], harness := (true, "9561a2589bc0badb7c31e78138e338353604206ab2884af1f087d3c4aec0d9ad"), looks := true }, kinds := [], alts := [], laidByText := true, laidKinds := [.data], laidTests := true, laidLooks := .later }
def MapperDoublesCardSaid : Prop := Claim7.holds Tryd.pinned (.plain (OpenSpec.ofChange mapperDoublesSpec)) mapperDoublesCard

/-- THE TIED CARD OF 'tandemlaw2.MapperSerial'. -/
def mapperSerialCard : Claim7 := { stood := { row := mapperSerialRow, standIns := [], harness := (true, "9561a2589bc0badb7c31e78138e338353604206ab2884af1f087d3c4aec0d9ad"), looks := true }, kinds := [], alts := [], laidByText := true, laidKinds := [.data], laidTests := true, laidLooks := .later }
def MapperSerialCardSaid : Prop := Claim7.holds Tryd.pinned (.plain (OpenSpec.ofChange mapperSerialSpec)) mapperSerialCard

/-- THE TIED CARD OF 'tandemlaw2.MapperTwins'. -/
def mapperTwinsCard : Claim7 := { stood := { row := mapperTwinsRow, standIns := [], harness := (true, "9561a2589bc0badb7c31e78138e338353604206ab2884af1f087d3c4aec0d9ad"), looks := true }, kinds := [], alts := [], laidByText := true, laidKinds := [.data], laidTests := true, laidLooks := .later }
def MapperTwinsCardSaid : Prop := Claim7.holds Tryd.pinned (.plain (OpenSpec.ofChange mapperTwinsSpec)) mapperTwinsCard

/-- THE TIED CARD OF 'tandemlaw2.MapperFixed'. -/
def mapperFixedCard : Claim7 := { stood := { row := mapperFixedRow, standIns := [], harness := (true, "9561a2589bc0badb7c31e78138e338353604206ab2884af1f087d3c4aec0d9ad"), looks := true }, kinds := [], alts := [], laidByText := true, laidKinds := [.data], laidTests := true, laidLooks := .later }
def MapperFixedCardSaid : Prop := Claim7.holds Tryd.pinned (.plain (OpenSpec.ofChange mapperFixedSpec)) mapperFixedCard

/-- THE TIED CARD OF 'tandemlaw2.MapperEpochs'. -/
def mapperEpochsCard : Claim7 := { stood := { row := mapperEpochsRow, standIns := [], harness := (true, "9561a2589bc0badb7c31e78138e338353604206ab2884af1f087d3c4aec0d9ad"), looks := true }, kinds := [], alts := [], laidByText := true, laidKinds := [.data], laidTests := true, laidLooks := .later }
def MapperEpochsCardSaid : Prop := Claim7.holds Tryd.pinned (.plain (OpenSpec.ofChange mapperEpochsSpec)) mapperEpochsCard

/-- THE TIED CARD OF 'tandemlaw2.MapperScanlines'. -/
def mapperScanlinesCard : Claim7 := { stood := { row := mapperScanlinesRow, standIns := [], harness := (true, "9561a2589bc0badb7c31e78138e338353604206ab2884af1f087d3c4aec0d9ad"), looks := true }, kinds := [], alts := [], laidByText := true, laidKinds := [.data], laidTests := true, laidLooks := .later }
def MapperScanlinesCardSaid : Prop := Claim7.holds Tryd.pinned (.plain (OpenSpec.ofChange mapperScanlinesSpec)) mapperScanlinesCard

/-- THE TIED CARD OF 'tandemlaw2.MapperSums'. -/
def mapperSumsCard : Claim7 := { stood := { row := mapperSumsRow, standIns := [], harness := (true, "9561a2589bc0badb7c31e78138e338353604206ab2884af1f087d3c4aec0d9ad"), looks := true }, kinds := [], alts := [], laidByText := true, laidKinds := [.data], laidTests := true, laidLooks := .later }
def MapperSumsCardSaid : Prop := Claim7.holds Tryd.pinned (.plain (OpenSpec.ofChange mapperSumsSpec)) mapperSumsCard

/-- THE TIED CARD OF 'tandemlaw2.MapperMirrors'. -/
def mapperMirrorsCard : Claim7 := { stood := { row := mapperMirrorsRow, standIns := [], harness := (true, "9561a2589bc0badb7c31e78138e338353604206ab2884af1f087d3c4aec0d9ad"), looks := true }, kinds := [], alts := [], laidByText := true, laidKinds := [.data], laidTests := true, laidLooks := .later }
def MapperMirrorsCardSaid : Prop := Claim7.holds Tryd.pinned (.plain (OpenSpec.ofChange mapperMirrorsSpec)) mapperMirrorsCard

/-- THE TIED CARD OF 'tandemlaw2.MapperInside'. -/
def mapperInsideCard : Claim7 := { stood := { row := mapperInsideRow, standIns := [], harness := (true, "9561a2589bc0badb7c31e78138e338353604206ab2884af1f087d3c4aec0d9ad"), looks := true }, kinds := [], alts := [], laidByText := true, laidKinds := [.data], laidTests := true, laidLooks := .later }
def MapperInsideCardSaid : Prop := Claim7.holds Tryd.pinned (.plain (OpenSpec.ofChange mapperInsideSpec)) mapperInsideCard

/-- THE TIED CARD OF 'tandemlaw2.MapperPlays'. -/
def mapperPlaysCard : Claim7 := { stood := { row := mapperPlaysRow, standIns := [], harness := (true, "9561a2589bc0badb7c31e78138e338353604206ab2884af1f087d3c4aec0d9ad"), looks := true }, kinds := [], alts := [], laidByText := true, laidKinds := [.data], laidTests := true, laidLooks := .later }
def MapperPlaysCardSaid : Prop := Claim7.holds Tryd.pinned (.plain (OpenSpec.ofChange mapperPlaysSpec)) mapperPlaysCard

/-- THE TIED CARD OF 'tandemlaw2.MapperImage'. -/
def mapperImageCard : Claim7 := { stood := { row := mapperImageRow, standIns := [], harness := (true, "9561a2589bc0badb7c31e78138e338353604206ab2884af1f087d3c4aec0d9ad"), looks := true }, kinds := [], alts := [], laidByText := true, laidKinds := [.widerDeep, .data, .data], laidTests := true, laidLooks := .later }
def MapperImageCardSaid : Prop := Claim7.holds Tryd.pinned (.plain (OpenSpec.ofChange mapperImageSpec)) mapperImageCard

/-- THE SECOND FORM's CARD OF 'tandemlaw2.MapperNews'. -/
def mapperNewsUptoCard : Claim7 := { stood := { row := mapperNewsUptoRow, standIns := [], harness := (true, "9561a2589bc0badb7c31e78138e338353604206ab2884af1f087d3c4aec0d9ad"), looks := true }, kinds := [], alts := [], laidByText := true, laidKinds := [.data], laidTests := true, laidLooks := .later }
def MapperNewsUptoCardSaid : Prop := Claim7.holds Tryd.pinned (.plain (OpenSpec.upto mapperNewsSpec)) mapperNewsUptoCard

/-- THE SECOND FORM's CARD OF 'tandemlaw2.MapperValids'. -/
def mapperValidsUptoCard : Claim7 := { stood := { row := mapperValidsUptoRow, standIns := [], harness := (true, "9561a2589bc0badb7c31e78138e338353604206ab2884af1f087d3c4aec0d9ad"), looks := true }, kinds := [], alts := [], laidByText := true, laidKinds := [.data], laidTests := true, laidLooks := .later }
def MapperValidsUptoCardSaid : Prop := Claim7.holds Tryd.pinned (.plain (OpenSpec.upto mapperValidsSpec)) mapperValidsUptoCard

/-- THE SECOND FORM's CARD OF 'tandemlaw2.MapperClocks'. -/
def mapperClocksUptoCard : Claim7 := { stood := { row := mapperClocksUptoRow, standIns := [], harness := (true, "9561a2589bc0badb7c31e78138e338353604206ab2884af1f087d3c4aec0d9ad"), looks := true }, kinds := [], alts := [], laidByText := true, laidKinds := [.data], laidTests := true, laidLooks := .later }
def MapperClocksUptoCardSaid : Prop := Claim7.holds Tryd.pinned (.plain (OpenSpec.upto mapperClocksSpec)) mapperClocksUptoCard

/-- THE SECOND FORM's CARD OF 'tandemlaw2.MapperSees'. -/
def mapperSeesUptoCard : Claim7 := { stood := { row := mapperSeesUptoRow, standIns := [], harness := (true, "9561a2589bc0badb7c31e78138e338353604206ab2884af1f087d3c4aec0d9ad"), looks := true }, kinds := [], alts := [], laidByText := true, laidKinds := [.data], laidTests := true, laidLooks := .later }
def MapperSeesUptoCardSaid : Prop := Claim7.holds Tryd.pinned (.plain (OpenSpec.upto mapperSeesSpec)) mapperSeesUptoCard

/-- THE SECOND FORM's CARD OF 'tandemlaw2.MapperWrites'. -/
def mapperWritesUptoCard : Claim7 := { stood := { row := mapperWritesUptoRow, standIns := [], harness := (true, "9561a2589bc0badb7c31e78138e338353604206ab2884af1f087d3c4aec0d9ad"), looks := true }, kinds := [], alts := [], laidByText := true, laidKinds := [.data], laidTests := true, laidLooks := .later }
def MapperWritesUptoCardSaid : Prop := Claim7.holds Tryd.pinned (.plain (OpenSpec.upto mapperWritesSpec)) mapperWritesUptoCard

/-- THE SECOND FORM's CARD OF 'tandemlaw2.MapperDoubles'. -/
def mapperDoublesUptoCard : Claim7 := { stood := { row := mapperDoublesUptoRow, standIns := [], harness := (true, "9561a2589bc0badb7c31e78138e338353604206ab2884af1f087d3c4aec0d9ad"), looks := true }, kinds := [], alts := [], laidByText := true, laidKinds := [.data], laidTests := true, laidLooks := .later }
def MapperDoublesUptoCardSaid : Prop := Claim7.holds Tryd.pinned (.plain (OpenSpec.upto mapperDoublesSpec)) mapperDoublesUptoCard

/-- THE SECOND FORM's CARD OF 'tandemlaw2.MapperSerial'. -/
def mapperSerialUptoCard : Claim7 := { stood := { row := mapperSerialUptoRow, standIns := [], harness := (true, "9561a2589bc0badb7c31e78138e338353604206ab2884af1f087d3c4aec0d9ad"), looks := true }, kinds := [], alts := [], laidByText := true, laidKinds := [.data], laidTests := true, laidLooks := .later }
def MapperSerialUptoCardSaid : Prop := Claim7.holds Tryd.pinned (.plain (OpenSpec.upto mapperSerialSpec)) mapperSerialUptoCard

/-- THE SECOND FORM's CARD OF 'tandemlaw2.MapperTwins'. -/
def mapperTwinsUptoCard : Claim7 := { stood := { row := mapperTwinsUptoRow, standIns := [], harness := (true, "9561a2589bc0badb7c31e78138e338353604206ab2884af1f087d3c4aec0d9ad"), looks := true }, kinds := [], alts := [], laidByText := true, laidKinds := [.data], laidTests := true, laidLooks := .later }
def MapperTwinsUptoCardSaid : Prop := Claim7.holds Tryd.pinned (.plain (OpenSpec.upto mapperTwinsSpec)) mapperTwinsUptoCard

/-- THE SECOND FORM's CARD OF 'tandemlaw2.MapperFixed'. -/
def mapperFixedUptoCard : Claim7 := { stood := { row := mapperFixedUptoRow, standIns := [], harness := (true, "9561a2589bc0badb7c31e78138e338353604206ab2884af1f087d3c4aec0d9ad"), looks := true }, kinds := [], alts := [], laidByText := true, laidKinds := [.data], laidTests := true, laidLooks := .later }
def MapperFixedUptoCardSaid : Prop := Claim7.holds Tryd.pinned (.plain (OpenSpec.upto mapperFixedSpec)) mapperFixedUptoCard

/-- THE SECOND FORM's CARD OF 'tandemlaw2.MapperEpochs'. -/
def mapperEpochsUptoCard : Claim7 := { stood := { row := mapperEpochsUptoRow, standIns := [], harness := (true, "9561a2589bc0badb7c31e78138e338353604206ab2884af1f087d3c4aec0d9ad"), looks := true }, kinds := [], alts := [], laidByText := true, laidKinds := [.data], laidTests := true, laidLooks := .later }
def MapperEpochsUptoCardSaid : Prop := Claim7.holds Tryd.pinned (.plain (OpenSpec.upto mapperEpochsSpec)) mapperEpochsUptoCard

/-- THE SECOND FORM's CARD OF 'tandemlaw2.MapperScanlines'. -/
def mapperScanlinesUptoCard : Claim7 := { stood := { row := mapperScanlinesUptoRow, standIns := [], harness := (true, "9561a2589bc0badb7c31e78138e338353604206ab2884af1f087d3c4aec0d9ad"), looks := true }, kinds := [], alts := [], laidByText := true, laidKinds := [.data], laidTests := true, laidLooks := .later }
def MapperScanlinesUptoCardSaid : Prop := Claim7.holds Tryd.pinned (.plain (OpenSpec.upto mapperScanlinesSpec)) mapperScanlinesUptoCard

/-- THE SECOND FORM's CARD OF 'tandemlaw2.MapperSums'. -/
def mapperSumsUptoCard : Claim7 := { stood := { row := mapperSumsUptoRow, standIns := [], harness := (true, "9561a2589bc0badb7c31e78138e338353604206ab2884af1f087d3c4aec0d9ad"), looks := true }, kinds := [], alts := [], laidByText := true, laidKinds := [.data], laidTests := true, laidLooks := .later }
def MapperSumsUptoCardSaid : Prop := Claim7.holds Tryd.pinned (.plain (OpenSpec.upto mapperSumsSpec)) mapperSumsUptoCard

/-- THE SECOND FORM's CARD OF 'tandemlaw2.MapperMirrors'. -/
def mapperMirrorsUptoCard : Claim7 := { stood := { row := mapperMirrorsUptoRow, standIns := [], harness := (true, "9561a2589bc0badb7c31e78138e338353604206ab2884af1f087d3c4aec0d9ad"), looks := true }, kinds := [], alts := [], laidByText := true, laidKinds := [.data], laidTests := true, laidLooks := .later }
def MapperMirrorsUptoCardSaid : Prop := Claim7.holds Tryd.pinned (.plain (OpenSpec.upto mapperMirrorsSpec)) mapperMirrorsUptoCard

/-- THE SECOND FORM's CARD OF 'tandemlaw2.MapperInside'. -/
def mapperInsideUptoCard : Claim7 := { stood := { row := mapperInsideUptoRow, standIns := [], harness := (true, "9561a2589bc0badb7c31e78138e338353604206ab2884af1f087d3c4aec0d9ad"), looks := true }, kinds := [], alts := [], laidByText := true, laidKinds := [.data], laidTests := true, laidLooks := .later }
def MapperInsideUptoCardSaid : Prop := Claim7.holds Tryd.pinned (.plain (OpenSpec.upto mapperInsideSpec)) mapperInsideUptoCard

/-- THE SECOND FORM's CARD OF 'tandemlaw2.MapperPlays'. -/
def mapperPlaysUptoCard : Claim7 := { stood := { row := mapperPlaysUptoRow, standIns := [], harness := (true, "9561a2589bc0badb7c31e78138e338353604206ab2884af1f087d3c4aec0d9ad"), looks := true }, kinds := [], alts := [], laidByText := true, laidKinds := [.data], laidTests := true, laidLooks := .later }
def MapperPlaysUptoCardSaid : Prop := Claim7.holds Tryd.pinned (.plain (OpenSpec.upto mapperPlaysSpec)) mapperPlaysUptoCard

/-- THE SECOND FORM's CARD OF 'tandemlaw2.MapperImage'. -/
def mapperImageUptoCard : Claim7 := { stood := { row := mapperImageUptoRow, standIns := [], harness := (true, "9561a2589bc0badb7c31e78138e338353604206ab2884af1f087d3c4aec0d9ad"), looks := true }, kinds := [], alts := [], laidByText := true, laidKinds := [.widerDeep, .data, .data], laidTests := true, laidLooks := .later }
def MapperImageUptoCardSaid : Prop := Claim7.holds Tryd.pinned (.plain (OpenSpec.upto mapperImageSpec)) mapperImageUptoCard
end Rows
end Go.Proofs.YtiejpbhkchcmkaaDoor
