/-
  NARROWER THAN 'FOR EVERY INPUT', by the rows' own cells (each row's printed sentence says how): MapperNews: laid · MapperValids: laid · MapperClocks: laid · MapperSees: laid · MapperWrites: laid · MapperDoubles: laid · MapperSerial: laid · MapperTwins: laid · MapperFixed: laid · MapperEpochs: laid · MapperScanlines: laid · MapperSums: laid · MapperMirrors: laid · MapperInside: laid · MapperPlays: laid · MapperImage: laid.
  DERIVED. THE GIVEN ROWS OF THIS SEAT. 16 by the template 'for every input the law returns true; each argument reads behind the call as it read before'; 0 by the template 'total and deterministic' (their statements: YtiejpbhkchcmkaaDoorTotals.lean).
  GIVEN WITH THE SEED: the statements are not yours to turn. If you find one false, say at which input.
  Laid BY PROGRAM, IN A SANDBOX (cutbox-rows.mjs): the forced cells as the released guide's own fill.sh prints them over the translation 490d26b7061648ce… (all of the seat's roots in one cut). By AI agents, Wed Nov 11 2026. No macro, syntax, notation, axiom, sorry.
-/
import Derived.Test.YtiejpbhkchcmkaaDoorChecked
import GoSem.Claim
import GoSem.ClaimJoined
import GoSem.ClaimMapViews
import Derived.JoinedTies
import Derived.KernelRfl
namespace Go.Proofs.YtiejpbhkchcmkaaDoor
/- THE CELL 'sum', in the pinned program and in every row, IS THE sha256 OF THE DUMP (.gsa) THAT YtiejpbhkchcmkaaDoorProg.lean LOADS. Nothing in Lean hashes anything: it is a label: what it is worth is what the hold of that sum in a sandbox is worth. -/
noncomputable def Tryd.pinned : Pinned := { name := "ytiejpbhkchcmkaadoor", sum := "490d26b7061648ce28e484e658bb7c4b9e84628efe092cc039aa3323924cc494", checked := Tryd.checked }
namespace Rows
def none {H : Type} : Left H := { results := [], args := [] }

/- WHAT THE LISTED PACKAGE-LEVEL VARIABLES READ AS WHEN THE CALL BEGINS. Each datum BY PROGRAM (the guide's laid-datum.mjs) off the statement by which the dump's own 'gosem.cut.vars' lays the variable. In a bare row this is a premise. The card (YtiejpbhkchcmkaaDoorCards.lean) ties it to the program's text. -/
def laid_tandem_mapper_subs {H : Type} : DataW H := .agg [.lit (.int .u8 1), .lit (.int .u8 33), .lit (.int .u8 7), .lit (.int .u8 7), .lit (.int .u8 17), .lit (.int .u8 0), .lit (.int .u8 0), .lit (.int .u8 7)]
def laid_tandem_cart_magic {H : Type} : DataW H := .agg [.lit (.int .u8 78), .lit (.int .u8 69), .lit (.int .u8 83), .lit (.int .u8 26)]
def laid_tandem_tandemref1_magic {H : Type} : DataW H := .agg [.lit (.int .u8 78), .lit (.int .u8 69), .lit (.int .u8 83), .lit (.int .u8 26)]

/-- 'tandemlaw2.MapperNews': WHATEVER THE INPUT: true; the input reads as it did. -/
def mapperNewsSpec : ChangeSpec := { name := "mapperNews", fn := fun _ => fun
  | [d] => { results := [.lit (.bool true)], args := [d] }
  | _ => none }
def mapperNewsRow : OpenClaim := { program := "ytiejpbhkchcmkaadoor", sum := "490d26b7061648ce28e484e658bb7c4b9e84628efe092cc039aa3323924cc494", func := "tandem/tandemlaw2.MapperNews", spec := "mapperNews", named := ["tandem/mapper.subs"], apart := false, laid := [("tandem/mapper.subs", laid_tandem_mapper_subs)] }
def MapperNewsSaid : Prop := mapperNewsRow.holds Tryd.pinned (OpenSpec.ofChange mapperNewsSpec)

/-- ITS FALSE NEIGHBOUR: 'it returns false'. Refute it at one input. -/
def mapperNewsWrong : ChangeSpec := { name := "mapperNews", fn := fun _ => fun
  | [d] => { results := [.lit (.bool false)], args := [d] }
  | _ => none }
def MapperNewsWrongFalsely : Prop := mapperNewsRow.holds Tryd.pinned (OpenSpec.ofChange mapperNewsWrong)

/-- 'tandemlaw2.MapperValids': WHATEVER THE INPUT: true; the input reads as it did. -/
def mapperValidsSpec : ChangeSpec := { name := "mapperValids", fn := fun _ => fun
  | [d] => { results := [.lit (.bool true)], args := [d] }
  | _ => none }
def mapperValidsRow : OpenClaim := { program := "ytiejpbhkchcmkaadoor", sum := "490d26b7061648ce28e484e658bb7c4b9e84628efe092cc039aa3323924cc494", func := "tandem/tandemlaw2.MapperValids", spec := "mapperValids", named := ["tandem/mapper.subs"], apart := false, laid := [("tandem/mapper.subs", laid_tandem_mapper_subs)] }
def MapperValidsSaid : Prop := mapperValidsRow.holds Tryd.pinned (OpenSpec.ofChange mapperValidsSpec)

/-- ITS FALSE NEIGHBOUR: 'it returns false'. Refute it at one input. -/
def mapperValidsWrong : ChangeSpec := { name := "mapperValids", fn := fun _ => fun
  | [d] => { results := [.lit (.bool false)], args := [d] }
  | _ => none }
def MapperValidsWrongFalsely : Prop := mapperValidsRow.holds Tryd.pinned (OpenSpec.ofChange mapperValidsWrong)

/-- 'tandemlaw2.MapperClocks': WHATEVER THE INPUT: true; the input reads as it did. -/
def mapperClocksSpec : ChangeSpec := { name := "mapperClocks", fn := fun _ => fun
  | [d1, d2] => { results := [.lit (.bool true)], args := [d1, d2] }
  | _ => none }
def mapperClocksRow : OpenClaim := { program := "ytiejpbhkchcmkaadoor", sum := "490d26b7061648ce28e484e658bb7c4b9e84628efe092cc039aa3323924cc494", func := "tandem/tandemlaw2.MapperClocks", spec := "mapperClocks", unfollowed := true, recurses := true, named := ["tandem/mapper.subs"], apart := false, laid := [("tandem/mapper.subs", laid_tandem_mapper_subs)] }
def MapperClocksSaid : Prop := mapperClocksRow.holds Tryd.pinned (OpenSpec.ofChange mapperClocksSpec)

/-- ITS FALSE NEIGHBOUR: 'it returns false'. Refute it at one input. -/
def mapperClocksWrong : ChangeSpec := { name := "mapperClocks", fn := fun _ => fun
  | [d1, d2] => { results := [.lit (.bool false)], args := [d1, d2] }
  | _ => none }
def MapperClocksWrongFalsely : Prop := mapperClocksRow.holds Tryd.pinned (OpenSpec.ofChange mapperClocksWrong)

/-- 'tandemlaw2.MapperSees': WHATEVER THE INPUT: true; the input reads as it did. -/
def mapperSeesSpec : ChangeSpec := { name := "mapperSees", fn := fun _ => fun
  | [d1, d2, d3] => { results := [.lit (.bool true)], args := [d1, d2, d3] }
  | _ => none }
def mapperSeesRow : OpenClaim := { program := "ytiejpbhkchcmkaadoor", sum := "490d26b7061648ce28e484e658bb7c4b9e84628efe092cc039aa3323924cc494", func := "tandem/tandemlaw2.MapperSees", spec := "mapperSees", unfollowed := true, recurses := true, named := ["tandem/mapper.subs"], apart := false, laid := [("tandem/mapper.subs", laid_tandem_mapper_subs)] }
def MapperSeesSaid : Prop := mapperSeesRow.holds Tryd.pinned (OpenSpec.ofChange mapperSeesSpec)

/-- ITS FALSE NEIGHBOUR: 'it returns false'. Refute it at one input. -/
def mapperSeesWrong : ChangeSpec := { name := "mapperSees", fn := fun _ => fun
  | [d1, d2, d3] => { results := [.lit (.bool false)], args := [d1, d2, d3] }
  | _ => none }
def MapperSeesWrongFalsely : Prop := mapperSeesRow.holds Tryd.pinned (OpenSpec.ofChange mapperSeesWrong)

/-- 'tandemlaw2.MapperWrites': WHATEVER THE INPUT: true; the input reads as it did. -/
def mapperWritesSpec : ChangeSpec := { name := "mapperWrites", fn := fun _ => fun
  | [d1, d2] => { results := [.lit (.bool true)], args := [d1, d2] }
  | _ => none }
def mapperWritesRow : OpenClaim := { program := "ytiejpbhkchcmkaadoor", sum := "490d26b7061648ce28e484e658bb7c4b9e84628efe092cc039aa3323924cc494", func := "tandem/tandemlaw2.MapperWrites", spec := "mapperWrites", unfollowed := true, recurses := true, named := ["tandem/mapper.subs"], apart := false, laid := [("tandem/mapper.subs", laid_tandem_mapper_subs)] }
def MapperWritesSaid : Prop := mapperWritesRow.holds Tryd.pinned (OpenSpec.ofChange mapperWritesSpec)

/-- ITS FALSE NEIGHBOUR: 'it returns false'. Refute it at one input. -/
def mapperWritesWrong : ChangeSpec := { name := "mapperWrites", fn := fun _ => fun
  | [d1, d2] => { results := [.lit (.bool false)], args := [d1, d2] }
  | _ => none }
def MapperWritesWrongFalsely : Prop := mapperWritesRow.holds Tryd.pinned (OpenSpec.ofChange mapperWritesWrong)

/-- 'tandemlaw2.MapperDoubles': WHATEVER THE INPUT: true; the input reads as it did. -/
def mapperDoublesSpec : ChangeSpec := { name := "mapperDoubles", fn := fun _ => fun
  | [d1, d2, d3] => { results := [.lit (.bool true)], args := [d1, d2, d3] }
  | _ => none }
def mapperDoublesRow : OpenClaim := { program := "ytiejpbhkchcmkaadoor", sum := "490d26b7061648ce28e484e658bb7c4b9e84628efe092cc039aa3323924cc494", func := "tandem/tandemlaw2.MapperDoubles", spec := "mapperDoubles", unfollowed := true, recurses := true, named := ["tandem/mapper.subs"], apart := false, laid := [("tandem/mapper.subs", laid_tandem_mapper_subs)] }
def MapperDoublesSaid : Prop := mapperDoublesRow.holds Tryd.pinned (OpenSpec.ofChange mapperDoublesSpec)

/-- ITS FALSE NEIGHBOUR: 'it returns false'. Refute it at one input. -/
def mapperDoublesWrong : ChangeSpec := { name := "mapperDoubles", fn := fun _ => fun
  | [d1, d2, d3] => { results := [.lit (.bool false)], args := [d1, d2, d3] }
  | _ => none }
def MapperDoublesWrongFalsely : Prop := mapperDoublesRow.holds Tryd.pinned (OpenSpec.ofChange mapperDoublesWrong)

/-- 'tandemlaw2.MapperSerial': WHATEVER THE INPUT: true; the input reads as it did. -/
def mapperSerialSpec : ChangeSpec := { name := "mapperSerial", fn := fun _ => fun
  | [d1, d2, d3, d4, d5] => { results := [.lit (.bool true)], args := [d1, d2, d3, d4, d5] }
  | _ => none }
def mapperSerialRow : OpenClaim := { program := "ytiejpbhkchcmkaadoor", sum := "490d26b7061648ce28e484e658bb7c4b9e84628efe092cc039aa3323924cc494", func := "tandem/tandemlaw2.MapperSerial", spec := "mapperSerial", unfollowed := true, recurses := true, named := ["tandem/mapper.subs"], apart := false, laid := [("tandem/mapper.subs", laid_tandem_mapper_subs)] }
def MapperSerialSaid : Prop := mapperSerialRow.holds Tryd.pinned (OpenSpec.ofChange mapperSerialSpec)

/-- ITS FALSE NEIGHBOUR: 'it returns false'. Refute it at one input. -/
def mapperSerialWrong : ChangeSpec := { name := "mapperSerial", fn := fun _ => fun
  | [d1, d2, d3, d4, d5] => { results := [.lit (.bool false)], args := [d1, d2, d3, d4, d5] }
  | _ => none }
def MapperSerialWrongFalsely : Prop := mapperSerialRow.holds Tryd.pinned (OpenSpec.ofChange mapperSerialWrong)

/-- 'tandemlaw2.MapperTwins': WHATEVER THE INPUT: true; the input reads as it did. -/
def mapperTwinsSpec : ChangeSpec := { name := "mapperTwins", fn := fun _ => fun
  | [d1, d2, d3] => { results := [.lit (.bool true)], args := [d1, d2, d3] }
  | _ => none }
def mapperTwinsRow : OpenClaim := { program := "ytiejpbhkchcmkaadoor", sum := "490d26b7061648ce28e484e658bb7c4b9e84628efe092cc039aa3323924cc494", func := "tandem/tandemlaw2.MapperTwins", spec := "mapperTwins", unfollowed := true, recurses := true, named := ["tandem/mapper.subs"], apart := false, laid := [("tandem/mapper.subs", laid_tandem_mapper_subs)] }
def MapperTwinsSaid : Prop := mapperTwinsRow.holds Tryd.pinned (OpenSpec.ofChange mapperTwinsSpec)

/-- ITS FALSE NEIGHBOUR: 'it returns false'. Refute it at one input. -/
def mapperTwinsWrong : ChangeSpec := { name := "mapperTwins", fn := fun _ => fun
  | [d1, d2, d3] => { results := [.lit (.bool false)], args := [d1, d2, d3] }
  | _ => none }
def MapperTwinsWrongFalsely : Prop := mapperTwinsRow.holds Tryd.pinned (OpenSpec.ofChange mapperTwinsWrong)

/-- 'tandemlaw2.MapperFixed': WHATEVER THE INPUT: true; the input reads as it did. -/
def mapperFixedSpec : ChangeSpec := { name := "mapperFixed", fn := fun _ => fun
  | [d1, d2] => { results := [.lit (.bool true)], args := [d1, d2] }
  | _ => none }
def mapperFixedRow : OpenClaim := { program := "ytiejpbhkchcmkaadoor", sum := "490d26b7061648ce28e484e658bb7c4b9e84628efe092cc039aa3323924cc494", func := "tandem/tandemlaw2.MapperFixed", spec := "mapperFixed", unfollowed := true, recurses := true, named := ["tandem/mapper.subs"], apart := false, laid := [("tandem/mapper.subs", laid_tandem_mapper_subs)] }
def MapperFixedSaid : Prop := mapperFixedRow.holds Tryd.pinned (OpenSpec.ofChange mapperFixedSpec)

/-- ITS FALSE NEIGHBOUR: 'it returns false'. Refute it at one input. -/
def mapperFixedWrong : ChangeSpec := { name := "mapperFixed", fn := fun _ => fun
  | [d1, d2] => { results := [.lit (.bool false)], args := [d1, d2] }
  | _ => none }
def MapperFixedWrongFalsely : Prop := mapperFixedRow.holds Tryd.pinned (OpenSpec.ofChange mapperFixedWrong)

/-- 'tandemlaw2.MapperEpochs': WHATEVER THE INPUT: true; the input reads as it did. -/
def mapperEpochsSpec : ChangeSpec := { name := "mapperEpochs", fn := fun _ => fun
  | [d1, d2] => { results := [.lit (.bool true)], args := [d1, d2] }
  | _ => none }
def mapperEpochsRow : OpenClaim := { program := "ytiejpbhkchcmkaadoor", sum := "490d26b7061648ce28e484e658bb7c4b9e84628efe092cc039aa3323924cc494", func := "tandem/tandemlaw2.MapperEpochs", spec := "mapperEpochs", unfollowed := true, recurses := true, named := ["tandem/mapper.subs"], apart := false, laid := [("tandem/mapper.subs", laid_tandem_mapper_subs)] }
def MapperEpochsSaid : Prop := mapperEpochsRow.holds Tryd.pinned (OpenSpec.ofChange mapperEpochsSpec)

/-- ITS FALSE NEIGHBOUR: 'it returns false'. Refute it at one input. -/
def mapperEpochsWrong : ChangeSpec := { name := "mapperEpochs", fn := fun _ => fun
  | [d1, d2] => { results := [.lit (.bool false)], args := [d1, d2] }
  | _ => none }
def MapperEpochsWrongFalsely : Prop := mapperEpochsRow.holds Tryd.pinned (OpenSpec.ofChange mapperEpochsWrong)

/-- 'tandemlaw2.MapperScanlines': WHATEVER THE INPUT: true; the input reads as it did. -/
def mapperScanlinesSpec : ChangeSpec := { name := "mapperScanlines", fn := fun _ => fun
  | [d1, d2, d3] => { results := [.lit (.bool true)], args := [d1, d2, d3] }
  | _ => none }
def mapperScanlinesRow : OpenClaim := { program := "ytiejpbhkchcmkaadoor", sum := "490d26b7061648ce28e484e658bb7c4b9e84628efe092cc039aa3323924cc494", func := "tandem/tandemlaw2.MapperScanlines", spec := "mapperScanlines", unfollowed := true, recurses := true, named := ["tandem/mapper.subs"], apart := false, laid := [("tandem/mapper.subs", laid_tandem_mapper_subs)] }
def MapperScanlinesSaid : Prop := mapperScanlinesRow.holds Tryd.pinned (OpenSpec.ofChange mapperScanlinesSpec)

/-- ITS FALSE NEIGHBOUR: 'it returns false'. Refute it at one input. -/
def mapperScanlinesWrong : ChangeSpec := { name := "mapperScanlines", fn := fun _ => fun
  | [d1, d2, d3] => { results := [.lit (.bool false)], args := [d1, d2, d3] }
  | _ => none }
def MapperScanlinesWrongFalsely : Prop := mapperScanlinesRow.holds Tryd.pinned (OpenSpec.ofChange mapperScanlinesWrong)

/-- 'tandemlaw2.MapperSums': WHATEVER THE INPUT: true; the input reads as it did. -/
def mapperSumsSpec : ChangeSpec := { name := "mapperSums", fn := fun _ => fun
  | [d1, d2, d3] => { results := [.lit (.bool true)], args := [d1, d2, d3] }
  | _ => none }
def mapperSumsRow : OpenClaim := { program := "ytiejpbhkchcmkaadoor", sum := "490d26b7061648ce28e484e658bb7c4b9e84628efe092cc039aa3323924cc494", func := "tandem/tandemlaw2.MapperSums", spec := "mapperSums", unfollowed := true, recurses := true, named := ["tandem/mapper.subs"], apart := false, laid := [("tandem/mapper.subs", laid_tandem_mapper_subs)] }
def MapperSumsSaid : Prop := mapperSumsRow.holds Tryd.pinned (OpenSpec.ofChange mapperSumsSpec)

/-- ITS FALSE NEIGHBOUR: 'it returns false'. Refute it at one input. -/
def mapperSumsWrong : ChangeSpec := { name := "mapperSums", fn := fun _ => fun
  | [d1, d2, d3] => { results := [.lit (.bool false)], args := [d1, d2, d3] }
  | _ => none }
def MapperSumsWrongFalsely : Prop := mapperSumsRow.holds Tryd.pinned (OpenSpec.ofChange mapperSumsWrong)

/-- 'tandemlaw2.MapperMirrors': WHATEVER THE INPUT: true; the input reads as it did. -/
def mapperMirrorsSpec : ChangeSpec := { name := "mapperMirrors", fn := fun _ => fun
  | [d1, d2, d3] => { results := [.lit (.bool true)], args := [d1, d2, d3] }
  | _ => none }
def mapperMirrorsRow : OpenClaim := { program := "ytiejpbhkchcmkaadoor", sum := "490d26b7061648ce28e484e658bb7c4b9e84628efe092cc039aa3323924cc494", func := "tandem/tandemlaw2.MapperMirrors", spec := "mapperMirrors", unfollowed := true, recurses := true, named := ["tandem/mapper.subs"], apart := false, laid := [("tandem/mapper.subs", laid_tandem_mapper_subs)] }
def MapperMirrorsSaid : Prop := mapperMirrorsRow.holds Tryd.pinned (OpenSpec.ofChange mapperMirrorsSpec)

/-- ITS FALSE NEIGHBOUR: 'it returns false'. Refute it at one input. -/
def mapperMirrorsWrong : ChangeSpec := { name := "mapperMirrors", fn := fun _ => fun
  | [d1, d2, d3] => { results := [.lit (.bool false)], args := [d1, d2, d3] }
  | _ => none }
def MapperMirrorsWrongFalsely : Prop := mapperMirrorsRow.holds Tryd.pinned (OpenSpec.ofChange mapperMirrorsWrong)

/-- 'tandemlaw2.MapperInside': WHATEVER THE INPUT: true; the input reads as it did. -/
def mapperInsideSpec : ChangeSpec := { name := "mapperInside", fn := fun _ => fun
  | [d1, d2] => { results := [.lit (.bool true)], args := [d1, d2] }
  | _ => none }
def mapperInsideRow : OpenClaim := { program := "ytiejpbhkchcmkaadoor", sum := "490d26b7061648ce28e484e658bb7c4b9e84628efe092cc039aa3323924cc494", func := "tandem/tandemlaw2.MapperInside", spec := "mapperInside", unfollowed := true, recurses := true, named := ["tandem/mapper.subs"], apart := false, laid := [("tandem/mapper.subs", laid_tandem_mapper_subs)] }
def MapperInsideSaid : Prop := mapperInsideRow.holds Tryd.pinned (OpenSpec.ofChange mapperInsideSpec)

/-- ITS FALSE NEIGHBOUR: 'it returns false'. Refute it at one input. -/
def mapperInsideWrong : ChangeSpec := { name := "mapperInside", fn := fun _ => fun
  | [d1, d2] => { results := [.lit (.bool false)], args := [d1, d2] }
  | _ => none }
def MapperInsideWrongFalsely : Prop := mapperInsideRow.holds Tryd.pinned (OpenSpec.ofChange mapperInsideWrong)

/-- 'tandemlaw2.MapperPlays': WHATEVER THE INPUT: true; the input reads as it did. -/
def mapperPlaysSpec : ChangeSpec := { name := "mapperPlays", fn := fun _ => fun
  | [d1, d2] => { results := [.lit (.bool true)], args := [d1, d2] }
  | _ => none }
def mapperPlaysRow : OpenClaim := { program := "ytiejpbhkchcmkaadoor", sum := "490d26b7061648ce28e484e658bb7c4b9e84628efe092cc039aa3323924cc494", func := "tandem/tandemlaw2.MapperPlays", spec := "mapperPlays", unfollowed := true, recurses := true, named := ["tandem/mapper.subs"], apart := false, laid := [("tandem/mapper.subs", laid_tandem_mapper_subs)] }
def MapperPlaysSaid : Prop := mapperPlaysRow.holds Tryd.pinned (OpenSpec.ofChange mapperPlaysSpec)

/-- ITS FALSE NEIGHBOUR: 'it returns false'. Refute it at one input. -/
def mapperPlaysWrong : ChangeSpec := { name := "mapperPlays", fn := fun _ => fun
  | [d1, d2] => { results := [.lit (.bool false)], args := [d1, d2] }
  | _ => none }
def MapperPlaysWrongFalsely : Prop := mapperPlaysRow.holds Tryd.pinned (OpenSpec.ofChange mapperPlaysWrong)

/-- 'tandemlaw2.MapperImage': WHATEVER THE INPUT: true; the input reads as it did. -/
def mapperImageSpec : ChangeSpec := { name := "mapperImage", fn := fun _ => fun
  | [d1, d2] => { results := [.lit (.bool true)], args := [d1, d2] }
  | _ => none }
def mapperImageRow : OpenClaim := { program := "ytiejpbhkchcmkaadoor", sum := "490d26b7061648ce28e484e658bb7c4b9e84628efe092cc039aa3323924cc494", func := "tandem/tandemlaw2.MapperImage", spec := "mapperImage", unfollowed := true, recurses := true, named := ["tandem/tandemref1.magic", "tandem/cart.magic", "tandem/mapper.subs"], apart := false, laid := [("tandem/cart.magic", laid_tandem_cart_magic), ("tandem/mapper.subs", laid_tandem_mapper_subs), ("tandem/tandemref1.magic", laid_tandem_tandemref1_magic)] }
def MapperImageSaid : Prop := mapperImageRow.holds Tryd.pinned (OpenSpec.ofChange mapperImageSpec)

/-- ITS FALSE NEIGHBOUR: 'it returns false'. Refute it at one input. -/
def mapperImageWrong : ChangeSpec := { name := "mapperImage", fn := fun _ => fun
  | [d1, d2] => { results := [.lit (.bool false)], args := [d1, d2] }
  | _ => none }
def MapperImageWrongFalsely : Prop := mapperImageRow.holds Tryd.pinned (OpenSpec.ofChange mapperImageWrong)

/- THE SECOND FORM. 'bulk': how many values and letters a reading holds, each counted each time it is reached (what is shared counts as often as it is met; a slice's spare places count too). A statement '..UptoSaid' is the law's where the arguments, and the package variables that the reading takes, are together of bulk at most 1048576: NARROWER than '..Said'. Prove '..Said' where nothing that the law and all that it calls make is longer than what came in: it says more and counts as full. Else prove '..UptoSaid'. A law counts once. -/
mutual
def uptoBulk {H : Type} : DataW H → Nat
  | .lit (.string bytes) => bytes.length + 1
  | .lit _ => 1
  | .nil => 1
  | .ptr d => uptoBulk d + 1
  | .slice elems spare => uptoBulkAll elems + uptoBulkAll spare + 1
  | .agg parts => uptoBulkAll parts + 1
  | .iface _ d => uptoBulk d + 1
  | .map entries => uptoBulkEntries entries + 1
  | .held _ => 1
def uptoBulkAll {H : Type} : List (DataW H) → Nat
  | [] => 0
  | d :: r => uptoBulk d + uptoBulkAll r
def uptoBulkEntries {H : Type} : List (Lit × DataW H) → Nat
  | [] => 0
  | x :: r => uptoBulkEntry x + uptoBulkEntries r
def uptoBulkEntry {H : Type} : Lit × DataW H → Nat
  | (.string bytes, d) => bytes.length + uptoBulk d + 1
  | (_, d) => uptoBulk d + 1
 end
def uptoSmall : (H : Type) → List (DataW H) → Bool := fun _ ds => decide (uptoBulkAll ds ≤ 1048576)
def OpenSpec.upto (s : _root_.Go.ChangeSpec) : _root_.Go.OpenSpec := { _root_.Go.OpenSpec.ofChange s with cond := some uptoSmall }

/-- 'tandemlaw2.MapperNews', WHERE WHAT IT READS IS OF BULK AT MOST 1048576: true; the input reads as it did. -/
def mapperNewsUptoRow : OpenClaim := { program := "ytiejpbhkchcmkaadoor", sum := "490d26b7061648ce28e484e658bb7c4b9e84628efe092cc039aa3323924cc494", func := "tandem/tandemlaw2.MapperNews", spec := "mapperNews", named := ["tandem/mapper.subs"], apart := false, laid := [("tandem/mapper.subs", laid_tandem_mapper_subs)], narrowed := true }
def MapperNewsUptoSaid : Prop := mapperNewsUptoRow.holds Tryd.pinned (OpenSpec.upto mapperNewsSpec)

/-- 'tandemlaw2.MapperValids', WHERE WHAT IT READS IS OF BULK AT MOST 1048576: true; the input reads as it did. -/
def mapperValidsUptoRow : OpenClaim := { program := "ytiejpbhkchcmkaadoor", sum := "490d26b7061648ce28e484e658bb7c4b9e84628efe092cc039aa3323924cc494", func := "tandem/tandemlaw2.MapperValids", spec := "mapperValids", named := ["tandem/mapper.subs"], apart := false, laid := [("tandem/mapper.subs", laid_tandem_mapper_subs)], narrowed := true }
def MapperValidsUptoSaid : Prop := mapperValidsUptoRow.holds Tryd.pinned (OpenSpec.upto mapperValidsSpec)

/-- 'tandemlaw2.MapperClocks', WHERE WHAT IT READS IS OF BULK AT MOST 1048576: true; the input reads as it did. -/
def mapperClocksUptoRow : OpenClaim := { program := "ytiejpbhkchcmkaadoor", sum := "490d26b7061648ce28e484e658bb7c4b9e84628efe092cc039aa3323924cc494", func := "tandem/tandemlaw2.MapperClocks", spec := "mapperClocks", unfollowed := true, recurses := true, named := ["tandem/mapper.subs"], apart := false, laid := [("tandem/mapper.subs", laid_tandem_mapper_subs)], narrowed := true }
def MapperClocksUptoSaid : Prop := mapperClocksUptoRow.holds Tryd.pinned (OpenSpec.upto mapperClocksSpec)

/-- 'tandemlaw2.MapperSees', WHERE WHAT IT READS IS OF BULK AT MOST 1048576: true; the input reads as it did. -/
def mapperSeesUptoRow : OpenClaim := { program := "ytiejpbhkchcmkaadoor", sum := "490d26b7061648ce28e484e658bb7c4b9e84628efe092cc039aa3323924cc494", func := "tandem/tandemlaw2.MapperSees", spec := "mapperSees", unfollowed := true, recurses := true, named := ["tandem/mapper.subs"], apart := false, laid := [("tandem/mapper.subs", laid_tandem_mapper_subs)], narrowed := true }
def MapperSeesUptoSaid : Prop := mapperSeesUptoRow.holds Tryd.pinned (OpenSpec.upto mapperSeesSpec)

/-- 'tandemlaw2.MapperWrites', WHERE WHAT IT READS IS OF BULK AT MOST 1048576: true; the input reads as it did. -/
def mapperWritesUptoRow : OpenClaim := { program := "ytiejpbhkchcmkaadoor", sum := "490d26b7061648ce28e484e658bb7c4b9e84628efe092cc039aa3323924cc494", func := "tandem/tandemlaw2.MapperWrites", spec := "mapperWrites", unfollowed := true, recurses := true, named := ["tandem/mapper.subs"], apart := false, laid := [("tandem/mapper.subs", laid_tandem_mapper_subs)], narrowed := true }
def MapperWritesUptoSaid : Prop := mapperWritesUptoRow.holds Tryd.pinned (OpenSpec.upto mapperWritesSpec)

/-- 'tandemlaw2.MapperDoubles', WHERE WHAT IT READS IS OF BULK AT MOST 1048576: true; the input reads as it did. -/
def mapperDoublesUptoRow : OpenClaim := { program := "ytiejpbhkchcmkaadoor", sum := "490d26b7061648ce28e484e658bb7c4b9e84628efe092cc039aa3323924cc494", func := "tandem/tandemlaw2.MapperDoubles", spec := "mapperDoubles", unfollowed := true, recurses := true, named := ["tandem/mapper.subs"], apart := false, laid := [("tandem/mapper.subs", laid_tandem_mapper_subs)], narrowed := true }
def MapperDoublesUptoSaid : Prop := mapperDoublesUptoRow.holds Tryd.pinned (OpenSpec.upto mapperDoublesSpec)

/-- 'tandemlaw2.MapperSerial', WHERE WHAT IT READS IS OF BULK AT MOST 1048576: true; the input reads as it did. -/
def mapperSerialUptoRow : OpenClaim := { program := "ytiejpbhkchcmkaadoor", sum := "490d26b7061648ce28e484e658bb7c4b9e84628efe092cc039aa3323924cc494", func := "tandem/tandemlaw2.MapperSerial", spec := "mapperSerial", unfollowed := true, recurses := true, named := ["tandem/mapper.subs"], apart := false, laid := [("tandem/mapper.subs", laid_tandem_mapper_subs)], narrowed := true }
def MapperSerialUptoSaid : Prop := mapperSerialUptoRow.holds Tryd.pinned (OpenSpec.upto mapperSerialSpec)

/-- 'tandemlaw2.MapperTwins', WHERE WHAT IT READS IS OF BULK AT MOST 1048576: true; the input reads as it did. -/
def mapperTwinsUptoRow : OpenClaim := { program := "ytiejpbhkchcmkaadoor", sum := "490d26b7061648ce28e484e658bb7c4b9e84628efe092cc039aa3323924cc494", func := "tandem/tandemlaw2.MapperTwins", spec := "mapperTwins", unfollowed := true, recurses := true, named := ["tandem/mapper.subs"], apart := false, laid := [("tandem/mapper.subs", laid_tandem_mapper_subs)], narrowed := true }
def MapperTwinsUptoSaid : Prop := mapperTwinsUptoRow.holds Tryd.pinned (OpenSpec.upto mapperTwinsSpec)

/-- 'tandemlaw2.MapperFixed', WHERE WHAT IT READS IS OF BULK AT MOST 1048576: true; the input reads as it did. -/
def mapperFixedUptoRow : OpenClaim := { program := "ytiejpbhkchcmkaadoor", sum := "490d26b7061648ce28e484e658bb7c4b9e84628efe092cc039aa3323924cc494", func := "tandem/tandemlaw2.MapperFixed", spec := "mapperFixed", unfollowed := true, recurses := true, named := ["tandem/mapper.subs"], apart := false, laid := [("tandem/mapper.subs", laid_tandem_mapper_subs)], narrowed := true }
def MapperFixedUptoSaid : Prop := mapperFixedUptoRow.holds Tryd.pinned (OpenSpec.upto mapperFixedSpec)

/-- 'tandemlaw2.MapperEpochs', WHERE WHAT IT READS IS OF BULK AT MOST 1048576: true; the input reads as it did. -/
def mapperEpochsUptoRow : OpenClaim := { program := "ytiejpbhkchcmkaadoor", sum := "490d26b7061648ce28e484e658bb7c4b9e84628efe092cc039aa3323924cc494", func := "tandem/tandemlaw2.MapperEpochs", spec := "mapperEpochs", unfollowed := true, recurses := true, named := ["tandem/mapper.subs"], apart := false, laid := [("tandem/mapper.subs", laid_tandem_mapper_subs)], narrowed := true }
def MapperEpochsUptoSaid : Prop := mapperEpochsUptoRow.holds Tryd.pinned (OpenSpec.upto mapperEpochsSpec)

/-- 'tandemlaw2.MapperScanlines', WHERE WHAT IT READS IS OF BULK AT MOST 1048576: true; the input reads as it did. -/
def mapperScanlinesUptoRow : OpenClaim := { program := "ytiejpbhkchcmkaadoor", sum := "490d26b7061648ce28e484e658bb7c4b9e84628efe092cc039aa3323924cc494", func := "tandem/tandemlaw2.MapperScanlines", spec := "mapperScanlines", unfollowed := true, recurses := true, named := ["tandem/mapper.subs"], apart := false, laid := [("tandem/mapper.subs", laid_tandem_mapper_subs)], narrowed := true }
def MapperScanlinesUptoSaid : Prop := mapperScanlinesUptoRow.holds Tryd.pinned (OpenSpec.upto mapperScanlinesSpec)

/-- 'tandemlaw2.MapperSums', WHERE WHAT IT READS IS OF BULK AT MOST 1048576: true; the input reads as it did. -/
def mapperSumsUptoRow : OpenClaim := { program := "ytiejpbhkchcmkaadoor", sum := "490d26b7061648ce28e484e658bb7c4b9e84628efe092cc039aa3323924cc494", func := "tandem/tandemlaw2.MapperSums", spec := "mapperSums", unfollowed := true, recurses := true, named := ["tandem/mapper.subs"], apart := false, laid := [("tandem/mapper.subs", laid_tandem_mapper_subs)], narrowed := true }
def MapperSumsUptoSaid : Prop := mapperSumsUptoRow.holds Tryd.pinned (OpenSpec.upto mapperSumsSpec)

/-- 'tandemlaw2.MapperMirrors', WHERE WHAT IT READS IS OF BULK AT MOST 1048576: true; the input reads as it did. -/
def mapperMirrorsUptoRow : OpenClaim := { program := "ytiejpbhkchcmkaadoor", sum := "490d26b7061648ce28e484e658bb7c4b9e84628efe092cc039aa3323924cc494", func := "tandem/tandemlaw2.MapperMirrors", spec := "mapperMirrors", unfollowed := true, recurses := true, named := ["tandem/mapper.subs"], apart := false, laid := [("tandem/mapper.subs", laid_tandem_mapper_subs)], narrowed := true }
def MapperMirrorsUptoSaid : Prop := mapperMirrorsUptoRow.holds Tryd.pinned (OpenSpec.upto mapperMirrorsSpec)

/-- 'tandemlaw2.MapperInside', WHERE WHAT IT READS IS OF BULK AT MOST 1048576: true; the input reads as it did. -/
def mapperInsideUptoRow : OpenClaim := { program := "ytiejpbhkchcmkaadoor", sum := "490d26b7061648ce28e484e658bb7c4b9e84628efe092cc039aa3323924cc494", func := "tandem/tandemlaw2.MapperInside", spec := "mapperInside", unfollowed := true, recurses := true, named := ["tandem/mapper.subs"], apart := false, laid := [("tandem/mapper.subs", laid_tandem_mapper_subs)], narrowed := true }
def MapperInsideUptoSaid : Prop := mapperInsideUptoRow.holds Tryd.pinned (OpenSpec.upto mapperInsideSpec)

/-- 'tandemlaw2.MapperPlays', WHERE WHAT IT READS IS OF BULK AT MOST 1048576: true; the input reads as it did. -/
def mapperPlaysUptoRow : OpenClaim := { program := "ytiejpbhkchcmkaadoor", sum := "490d26b7061648ce28e484e658bb7c4b9e84628efe092cc039aa3323924cc494", func := "tandem/tandemlaw2.MapperPlays", spec := "mapperPlays", unfollowed := true, recurses := true, named := ["tandem/mapper.subs"], apart := false, laid := [("tandem/mapper.subs", laid_tandem_mapper_subs)], narrowed := true }
def MapperPlaysUptoSaid : Prop := mapperPlaysUptoRow.holds Tryd.pinned (OpenSpec.upto mapperPlaysSpec)

/-- 'tandemlaw2.MapperImage', WHERE WHAT IT READS IS OF BULK AT MOST 1048576: true; the input reads as it did. -/
def mapperImageUptoRow : OpenClaim := { program := "ytiejpbhkchcmkaadoor", sum := "490d26b7061648ce28e484e658bb7c4b9e84628efe092cc039aa3323924cc494", func := "tandem/tandemlaw2.MapperImage", spec := "mapperImage", unfollowed := true, recurses := true, named := ["tandem/tandemref1.magic", "tandem/cart.magic", "tandem/mapper.subs"], apart := false, laid := [("tandem/cart.magic", laid_tandem_cart_magic), ("tandem/mapper.subs", laid_tandem_mapper_subs), ("tandem/tandemref1.magic", laid_tandem_tandemref1_magic)], narrowed := true }
def MapperImageUptoSaid : Prop := mapperImageUptoRow.holds Tryd.pinned (OpenSpec.upto mapperImageSpec)

end Rows
end Go.Proofs.YtiejpbhkchcmkaaDoor
