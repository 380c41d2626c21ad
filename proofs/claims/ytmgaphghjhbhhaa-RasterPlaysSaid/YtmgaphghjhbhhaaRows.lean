/-
  No cell of these rows narrows 'for every input' (looked for: loops, veiled, ifaces, maps, wideKeys, modest, calm, conditions, laid).
  DERIVED. THE GIVEN ROWS OF THIS SEAT. 12 by the template 'for every input the law returns true; each argument reads behind the call as it read before'; 0 by the template 'total and deterministic' (their statements: YtmgaphghjhbhhaaTotals.lean).
  GIVEN WITH THE SEED: the statements are not yours to turn. If you find one false, say at which input.
  Laid BY PROGRAM, IN A SANDBOX (cutbox-rows.mjs): the forced cells as the released guide's own fill.sh prints them over the translation 0488e4b2278f89e2… (all of the seat's roots in one cut). By AI agents, Wed Nov 11 2026. No macro, syntax, notation, axiom, sorry.
-/
import Derived.Test.YtmgaphghjhbhhaaChecked
import GoSem.Claim
import GoSem.ClaimJoined
import GoSem.ClaimMapViews
import Derived.JoinedTies
import Derived.KernelRfl
namespace Go.Proofs.Ytmgaphghjhbhhaa
/- THE CELL 'sum', in the pinned program and in every row, IS THE sha256 OF THE DUMP (.gsa) THAT YtmgaphghjhbhhaaProg.lean LOADS. Nothing in Lean hashes anything: it is a label: what it is worth is what the hold of that sum in a sandbox is worth. -/
noncomputable def Try.pinned : Pinned := { name := "ytmgaphghjhbhhaa", sum := "0488e4b2278f89e232a7929fe9280cc941474d85f5868d0b7cdd5cabe49d4b1b", checked := Try.checked }
namespace Rows
def none {H : Type} : Left H := { results := [], args := [] }

/-- 'tandemlaw7.RasterToggled': WHATEVER THE INPUT: true; the input reads as it did. -/
def rasterToggledSpec : ChangeSpec := { name := "rasterToggled", fn := fun _ => fun
  | [d1, d2, d3] => { results := [.lit (.bool true)], args := [d1, d2, d3] }
  | _ => none }
def rasterToggledRow : OpenClaim := { program := "ytmgaphghjhbhhaa", sum := "0488e4b2278f89e232a7929fe9280cc941474d85f5868d0b7cdd5cabe49d4b1b", func := "tandem/tandemlaw7.RasterToggled", spec := "rasterToggled", apart := false }
def RasterToggledSaid : Prop := rasterToggledRow.holds Try.pinned (OpenSpec.ofChange rasterToggledSpec)

/-- ITS FALSE NEIGHBOUR: 'it returns false'. Refute it at one input. -/
def rasterToggledWrong : ChangeSpec := { name := "rasterToggled", fn := fun _ => fun
  | [d1, d2, d3] => { results := [.lit (.bool false)], args := [d1, d2, d3] }
  | _ => none }
def RasterToggledWrongFalsely : Prop := rasterToggledRow.holds Try.pinned (OpenSpec.ofChange rasterToggledWrong)

/-- 'tandemlaw7.RasterTouched': WHATEVER THE INPUT: true; the input reads as it did. -/
def rasterTouchedSpec : ChangeSpec := { name := "rasterTouched", fn := fun _ => fun
  | [d1, d2] => { results := [.lit (.bool true)], args := [d1, d2] }
  | _ => none }
def rasterTouchedRow : OpenClaim := { program := "ytmgaphghjhbhhaa", sum := "0488e4b2278f89e232a7929fe9280cc941474d85f5868d0b7cdd5cabe49d4b1b", func := "tandem/tandemlaw7.RasterTouched", spec := "rasterTouched", apart := false }
def RasterTouchedSaid : Prop := rasterTouchedRow.holds Try.pinned (OpenSpec.ofChange rasterTouchedSpec)

/-- ITS FALSE NEIGHBOUR: 'it returns false'. Refute it at one input. -/
def rasterTouchedWrong : ChangeSpec := { name := "rasterTouched", fn := fun _ => fun
  | [d1, d2] => { results := [.lit (.bool false)], args := [d1, d2] }
  | _ => none }
def RasterTouchedWrongFalsely : Prop := rasterTouchedRow.holds Try.pinned (OpenSpec.ofChange rasterTouchedWrong)

/-- 'tandemlaw7.RasterDots': WHATEVER THE INPUT: true; the input reads as it did. -/
def rasterDotsSpec : ChangeSpec := { name := "rasterDots", fn := fun _ => fun
  | [d] => { results := [.lit (.bool true)], args := [d] }
  | _ => none }
def rasterDotsRow : OpenClaim := { program := "ytmgaphghjhbhhaa", sum := "0488e4b2278f89e232a7929fe9280cc941474d85f5868d0b7cdd5cabe49d4b1b", func := "tandem/tandemlaw7.RasterDots", spec := "rasterDots", unfollowed := true, recurses := true, apart := false }
def RasterDotsSaid : Prop := rasterDotsRow.holds Try.pinned (OpenSpec.ofChange rasterDotsSpec)

/-- ITS FALSE NEIGHBOUR: 'it returns false'. Refute it at one input. -/
def rasterDotsWrong : ChangeSpec := { name := "rasterDots", fn := fun _ => fun
  | [d] => { results := [.lit (.bool false)], args := [d] }
  | _ => none }
def RasterDotsWrongFalsely : Prop := rasterDotsRow.holds Try.pinned (OpenSpec.ofChange rasterDotsWrong)

/-- 'tandemlaw7.RasterNexts': WHATEVER THE INPUT: true; the input reads as it did. -/
def rasterNextsSpec : ChangeSpec := { name := "rasterNexts", fn := fun _ => fun
  | [d1, d2] => { results := [.lit (.bool true)], args := [d1, d2] }
  | _ => none }
def rasterNextsRow : OpenClaim := { program := "ytmgaphghjhbhhaa", sum := "0488e4b2278f89e232a7929fe9280cc941474d85f5868d0b7cdd5cabe49d4b1b", func := "tandem/tandemlaw7.RasterNexts", spec := "rasterNexts", apart := false }
def RasterNextsSaid : Prop := rasterNextsRow.holds Try.pinned (OpenSpec.ofChange rasterNextsSpec)

/-- ITS FALSE NEIGHBOUR: 'it returns false'. Refute it at one input. -/
def rasterNextsWrong : ChangeSpec := { name := "rasterNexts", fn := fun _ => fun
  | [d1, d2] => { results := [.lit (.bool false)], args := [d1, d2] }
  | _ => none }
def RasterNextsWrongFalsely : Prop := rasterNextsRow.holds Try.pinned (OpenSpec.ofChange rasterNextsWrong)

/-- 'tandemlaw7.RasterAdvances': WHATEVER THE INPUT: true; the input reads as it did. -/
def rasterAdvancesSpec : ChangeSpec := { name := "rasterAdvances", fn := fun _ => fun
  | [d1, d2] => { results := [.lit (.bool true)], args := [d1, d2] }
  | _ => none }
def rasterAdvancesRow : OpenClaim := { program := "ytmgaphghjhbhhaa", sum := "0488e4b2278f89e232a7929fe9280cc941474d85f5868d0b7cdd5cabe49d4b1b", func := "tandem/tandemlaw7.RasterAdvances", spec := "rasterAdvances", unfollowed := true, recurses := true, apart := false }
def RasterAdvancesSaid : Prop := rasterAdvancesRow.holds Try.pinned (OpenSpec.ofChange rasterAdvancesSpec)

/-- ITS FALSE NEIGHBOUR: 'it returns false'. Refute it at one input. -/
def rasterAdvancesWrong : ChangeSpec := { name := "rasterAdvances", fn := fun _ => fun
  | [d1, d2] => { results := [.lit (.bool false)], args := [d1, d2] }
  | _ => none }
def RasterAdvancesWrongFalsely : Prop := rasterAdvancesRow.holds Try.pinned (OpenSpec.ofChange rasterAdvancesWrong)

/-- 'tandemlaw7.RasterFrames': WHATEVER THE INPUT: true; the input reads as it did. -/
def rasterFramesSpec : ChangeSpec := { name := "rasterFrames", fn := fun _ => fun
  | [d] => { results := [.lit (.bool true)], args := [d] }
  | _ => none }
def rasterFramesRow : OpenClaim := { program := "ytmgaphghjhbhhaa", sum := "0488e4b2278f89e232a7929fe9280cc941474d85f5868d0b7cdd5cabe49d4b1b", func := "tandem/tandemlaw7.RasterFrames", spec := "rasterFrames", unfollowed := true, recurses := true, apart := false }
def RasterFramesSaid : Prop := rasterFramesRow.holds Try.pinned (OpenSpec.ofChange rasterFramesSpec)

/-- ITS FALSE NEIGHBOUR: 'it returns false'. Refute it at one input. -/
def rasterFramesWrong : ChangeSpec := { name := "rasterFrames", fn := fun _ => fun
  | [d] => { results := [.lit (.bool false)], args := [d] }
  | _ => none }
def RasterFramesWrongFalsely : Prop := rasterFramesRow.holds Try.pinned (OpenSpec.ofChange rasterFramesWrong)

/-- 'tandemlaw7.RasterAdds': WHATEVER THE INPUT: true; the input reads as it did. -/
def rasterAddsSpec : ChangeSpec := { name := "rasterAdds", fn := fun _ => fun
  | [d1, d2, d3] => { results := [.lit (.bool true)], args := [d1, d2, d3] }
  | _ => none }
def rasterAddsRow : OpenClaim := { program := "ytmgaphghjhbhhaa", sum := "0488e4b2278f89e232a7929fe9280cc941474d85f5868d0b7cdd5cabe49d4b1b", func := "tandem/tandemlaw7.RasterAdds", spec := "rasterAdds", unfollowed := true, recurses := true, apart := false }
def RasterAddsSaid : Prop := rasterAddsRow.holds Try.pinned (OpenSpec.ofChange rasterAddsSpec)

/-- ITS FALSE NEIGHBOUR: 'it returns false'. Refute it at one input. -/
def rasterAddsWrong : ChangeSpec := { name := "rasterAdds", fn := fun _ => fun
  | [d1, d2, d3] => { results := [.lit (.bool false)], args := [d1, d2, d3] }
  | _ => none }
def RasterAddsWrongFalsely : Prop := rasterAddsRow.holds Try.pinned (OpenSpec.ofChange rasterAddsWrong)

/-- 'tandemlaw7.RasterLines': WHATEVER THE INPUT: true; the input reads as it did. -/
def rasterLinesSpec : ChangeSpec := { name := "rasterLines", fn := fun _ => fun
  | [d] => { results := [.lit (.bool true)], args := [d] }
  | _ => none }
def rasterLinesRow : OpenClaim := { program := "ytmgaphghjhbhhaa", sum := "0488e4b2278f89e232a7929fe9280cc941474d85f5868d0b7cdd5cabe49d4b1b", func := "tandem/tandemlaw7.RasterLines", spec := "rasterLines", unfollowed := true, recurses := true, apart := false }
def RasterLinesSaid : Prop := rasterLinesRow.holds Try.pinned (OpenSpec.ofChange rasterLinesSpec)

/-- ITS FALSE NEIGHBOUR: 'it returns false'. Refute it at one input. -/
def rasterLinesWrong : ChangeSpec := { name := "rasterLines", fn := fun _ => fun
  | [d] => { results := [.lit (.bool false)], args := [d] }
  | _ => none }
def RasterLinesWrongFalsely : Prop := rasterLinesRow.holds Try.pinned (OpenSpec.ofChange rasterLinesWrong)

/-- 'tandemlaw7.RasterPlays': WHATEVER THE INPUT: true; the input reads as it did. -/
def rasterPlaysSpec : ChangeSpec := { name := "rasterPlays", fn := fun _ => fun
  | [d] => { results := [.lit (.bool true)], args := [d] }
  | _ => none }
def rasterPlaysRow : OpenClaim := { program := "ytmgaphghjhbhhaa", sum := "0488e4b2278f89e232a7929fe9280cc941474d85f5868d0b7cdd5cabe49d4b1b", func := "tandem/tandemlaw7.RasterPlays", spec := "rasterPlays", unfollowed := true, recurses := true, apart := false }
def RasterPlaysSaid : Prop := rasterPlaysRow.holds Try.pinned (OpenSpec.ofChange rasterPlaysSpec)

/-- ITS FALSE NEIGHBOUR: 'it returns false'. Refute it at one input. -/
def rasterPlaysWrong : ChangeSpec := { name := "rasterPlays", fn := fun _ => fun
  | [d] => { results := [.lit (.bool false)], args := [d] }
  | _ => none }
def RasterPlaysWrongFalsely : Prop := rasterPlaysRow.holds Try.pinned (OpenSpec.ofChange rasterPlaysWrong)

/-- 'tandemlaw7.RasterRace': WHATEVER THE INPUT: true; the input reads as it did. -/
def rasterRaceSpec : ChangeSpec := { name := "rasterRace", fn := fun _ => fun
  | [d1, d2] => { results := [.lit (.bool true)], args := [d1, d2] }
  | _ => none }
def rasterRaceRow : OpenClaim := { program := "ytmgaphghjhbhhaa", sum := "0488e4b2278f89e232a7929fe9280cc941474d85f5868d0b7cdd5cabe49d4b1b", func := "tandem/tandemlaw7.RasterRace", spec := "rasterRace", unfollowed := true, recurses := true, apart := false }
def RasterRaceSaid : Prop := rasterRaceRow.holds Try.pinned (OpenSpec.ofChange rasterRaceSpec)

/-- ITS FALSE NEIGHBOUR: 'it returns false'. Refute it at one input. -/
def rasterRaceWrong : ChangeSpec := { name := "rasterRace", fn := fun _ => fun
  | [d1, d2] => { results := [.lit (.bool false)], args := [d1, d2] }
  | _ => none }
def RasterRaceWrongFalsely : Prop := rasterRaceRow.holds Try.pinned (OpenSpec.ofChange rasterRaceWrong)

/-- 'tandemlaw7.RasterExact': WHATEVER THE INPUT: true; the input reads as it did. -/
def rasterExactSpec : ChangeSpec := { name := "rasterExact", fn := fun _ => fun
  | [d1, d2] => { results := [.lit (.bool true)], args := [d1, d2] }
  | _ => none }
def rasterExactRow : OpenClaim := { program := "ytmgaphghjhbhhaa", sum := "0488e4b2278f89e232a7929fe9280cc941474d85f5868d0b7cdd5cabe49d4b1b", func := "tandem/tandemlaw7.RasterExact", spec := "rasterExact", unfollowed := true, recurses := true, apart := false }
def RasterExactSaid : Prop := rasterExactRow.holds Try.pinned (OpenSpec.ofChange rasterExactSpec)

/-- ITS FALSE NEIGHBOUR: 'it returns false'. Refute it at one input. -/
def rasterExactWrong : ChangeSpec := { name := "rasterExact", fn := fun _ => fun
  | [d1, d2] => { results := [.lit (.bool false)], args := [d1, d2] }
  | _ => none }
def RasterExactWrongFalsely : Prop := rasterExactRow.holds Try.pinned (OpenSpec.ofChange rasterExactWrong)

/-- 'tandemtop.TopNames': WHATEVER THE INPUT: true; the input reads as it did. -/
def topNamesSpec : ChangeSpec := { name := "topNames", fn := fun _ => fun
  | [] => { results := [.lit (.bool true)], args := [] }
  | _ => none }
def topNamesRow : OpenClaim := { program := "ytmgaphghjhbhhaa", sum := "0488e4b2278f89e232a7929fe9280cc941474d85f5868d0b7cdd5cabe49d4b1b", func := "tandem/tandemtop.TopNames", spec := "topNames", apart := false }
def TopNamesSaid : Prop := topNamesRow.holds Try.pinned (OpenSpec.ofChange topNamesSpec)

/-- ITS FALSE NEIGHBOUR: 'it returns false'. Refute it at one input. -/
def topNamesWrong : ChangeSpec := { name := "topNames", fn := fun _ => fun
  | [] => { results := [.lit (.bool false)], args := [] }
  | _ => none }
def TopNamesWrongFalsely : Prop := topNamesRow.holds Try.pinned (OpenSpec.ofChange topNamesWrong)

/- THE SECOND FORM. 'bulk': how many values and letters a reading holds, each counted each time it is reached (what is shared counts as often as it is met; a slice's spare places count too). A statement '..UptoSaid' is the law's where the arguments, and the package variables that the reading takes, are together of bulk at most 1048576: NARROWER than '..Said'. Prove '..Said' where nothing that the law and all that it calls make is longer than what came in: it says more and counts as full. Else prove '..UptoSaid'. A law counts once. -/
mutual
def uptoBulk {H : Type} : DataW H → Nat
  | .lit (.string bytes) => bytes.length + 1
  | .lit _ => 1
  | .nil => 1
  | .ptr d => uptoBulk d + 1
  | .slice elems spare => uptoBulkAll elems + uptoBulkAll spare + 1
  | .agg parts => uptoBulkAll parts + 1
  | .iface _ d => uptoBulk d + 1
  | .map entries => uptoBulkEntries entries + 1
  | .held _ => 1
def uptoBulkAll {H : Type} : List (DataW H) → Nat
  | [] => 0
  | d :: r => uptoBulk d + uptoBulkAll r
def uptoBulkEntries {H : Type} : List (Lit × DataW H) → Nat
  | [] => 0
  | x :: r => uptoBulkEntry x + uptoBulkEntries r
def uptoBulkEntry {H : Type} : Lit × DataW H → Nat
  | (.string bytes, d) => bytes.length + uptoBulk d + 1
  | (_, d) => uptoBulk d + 1
 end
def uptoSmall : (H : Type) → List (DataW H) → Bool := fun _ ds => decide (uptoBulkAll ds ≤ 1048576)
def OpenSpec.upto (s : _root_.Go.ChangeSpec) : _root_.Go.OpenSpec := { _root_.Go.OpenSpec.ofChange s with cond := some uptoSmall }

/-- 'tandemlaw7.RasterToggled', WHERE WHAT IT READS IS OF BULK AT MOST 1048576: true; the input reads as it did. -/
def rasterToggledUptoRow : OpenClaim := { program := "ytmgaphghjhbhhaa", sum := "0488e4b2278f89e232a7929fe9280cc941474d85f5868d0b7cdd5cabe49d4b1b", func := "tandem/tandemlaw7.RasterToggled", spec := "rasterToggled", apart := false, narrowed := true }
def RasterToggledUptoSaid : Prop := rasterToggledUptoRow.holds Try.pinned (OpenSpec.upto rasterToggledSpec)

/-- 'tandemlaw7.RasterTouched', WHERE WHAT IT READS IS OF BULK AT MOST 1048576: true; the input reads as it did. -/
def rasterTouchedUptoRow : OpenClaim := { program := "ytmgaphghjhbhhaa", sum := "0488e4b2278f89e232a7929fe9280cc941474d85f5868d0b7cdd5cabe49d4b1b", func := "tandem/tandemlaw7.RasterTouched", spec := "rasterTouched", apart := false, narrowed := true }
def RasterTouchedUptoSaid : Prop := rasterTouchedUptoRow.holds Try.pinned (OpenSpec.upto rasterTouchedSpec)

/-- 'tandemlaw7.RasterDots', WHERE WHAT IT READS IS OF BULK AT MOST 1048576: true; the input reads as it did. -/
def rasterDotsUptoRow : OpenClaim := { program := "ytmgaphghjhbhhaa", sum := "0488e4b2278f89e232a7929fe9280cc941474d85f5868d0b7cdd5cabe49d4b1b", func := "tandem/tandemlaw7.RasterDots", spec := "rasterDots", unfollowed := true, recurses := true, apart := false, narrowed := true }
def RasterDotsUptoSaid : Prop := rasterDotsUptoRow.holds Try.pinned (OpenSpec.upto rasterDotsSpec)

/-- 'tandemlaw7.RasterNexts', WHERE WHAT IT READS IS OF BULK AT MOST 1048576: true; the input reads as it did. -/
def rasterNextsUptoRow : OpenClaim := { program := "ytmgaphghjhbhhaa", sum := "0488e4b2278f89e232a7929fe9280cc941474d85f5868d0b7cdd5cabe49d4b1b", func := "tandem/tandemlaw7.RasterNexts", spec := "rasterNexts", apart := false, narrowed := true }
def RasterNextsUptoSaid : Prop := rasterNextsUptoRow.holds Try.pinned (OpenSpec.upto rasterNextsSpec)

/-- 'tandemlaw7.RasterAdvances', WHERE WHAT IT READS IS OF BULK AT MOST 1048576: true; the input reads as it did. -/
def rasterAdvancesUptoRow : OpenClaim := { program := "ytmgaphghjhbhhaa", sum := "0488e4b2278f89e232a7929fe9280cc941474d85f5868d0b7cdd5cabe49d4b1b", func := "tandem/tandemlaw7.RasterAdvances", spec := "rasterAdvances", unfollowed := true, recurses := true, apart := false, narrowed := true }
def RasterAdvancesUptoSaid : Prop := rasterAdvancesUptoRow.holds Try.pinned (OpenSpec.upto rasterAdvancesSpec)

/-- 'tandemlaw7.RasterFrames', WHERE WHAT IT READS IS OF BULK AT MOST 1048576: true; the input reads as it did. -/
def rasterFramesUptoRow : OpenClaim := { program := "ytmgaphghjhbhhaa", sum := "0488e4b2278f89e232a7929fe9280cc941474d85f5868d0b7cdd5cabe49d4b1b", func := "tandem/tandemlaw7.RasterFrames", spec := "rasterFrames", unfollowed := true, recurses := true, apart := false, narrowed := true }
def RasterFramesUptoSaid : Prop := rasterFramesUptoRow.holds Try.pinned (OpenSpec.upto rasterFramesSpec)

/-- 'tandemlaw7.RasterAdds', WHERE WHAT IT READS IS OF BULK AT MOST 1048576: true; the input reads as it did. -/
def rasterAddsUptoRow : OpenClaim := { program := "ytmgaphghjhbhhaa", sum := "0488e4b2278f89e232a7929fe9280cc941474d85f5868d0b7cdd5cabe49d4b1b", func := "tandem/tandemlaw7.RasterAdds", spec := "rasterAdds", unfollowed := true, recurses := true, apart := false, narrowed := true }
def RasterAddsUptoSaid : Prop := rasterAddsUptoRow.holds Try.pinned (OpenSpec.upto rasterAddsSpec)

/-- 'tandemlaw7.RasterLines', WHERE WHAT IT READS IS OF BULK AT MOST 1048576: true; the input reads as it did. -/
def rasterLinesUptoRow : OpenClaim := { program := "ytmgaphghjhbhhaa", sum := "0488e4b2278f89e232a7929fe9280cc941474d85f5868d0b7cdd5cabe49d4b1b", func := "tandem/tandemlaw7.RasterLines", spec := "rasterLines", unfollowed := true, recurses := true, apart := false, narrowed := true }
def RasterLinesUptoSaid : Prop := rasterLinesUptoRow.holds Try.pinned (OpenSpec.upto rasterLinesSpec)

/-- 'tandemlaw7.RasterPlays', WHERE WHAT IT READS IS OF BULK AT MOST 1048576: true; the input reads as it did. -/
def rasterPlaysUptoRow : OpenClaim := { program := "ytmgaphghjhbhhaa", sum := "0488e4b2278f89e232a7929fe9280cc941474d85f5868d0b7cdd5cabe49d4b1b", func := "tandem/tandemlaw7.RasterPlays", spec := "rasterPlays", unfollowed := true, recurses := true, apart := false, narrowed := true }
def RasterPlaysUptoSaid : Prop := rasterPlaysUptoRow.holds Try.pinned (OpenSpec.upto rasterPlaysSpec)

/-- 'tandemlaw7.RasterRace', WHERE WHAT IT READS IS OF BULK AT MOST 1048576: true; the input reads as it did. -/
def rasterRaceUptoRow : OpenClaim := { program := "ytmgaphghjhbhhaa", sum := "0488e4b2278f89e232a7929fe9280cc941474d85f5868d0b7cdd5cabe49d4b1b", func := "tandem/tandemlaw7.RasterRace", spec := "rasterRace", unfollowed := true, recurses := true, apart := false, narrowed := true }
def RasterRaceUptoSaid : Prop := rasterRaceUptoRow.holds Try.pinned (OpenSpec.upto rasterRaceSpec)

/-- 'tandemlaw7.RasterExact', WHERE WHAT IT READS IS OF BULK AT MOST 1048576: true; the input reads as it did. -/
def rasterExactUptoRow : OpenClaim := { program := "ytmgaphghjhbhhaa", sum := "0488e4b2278f89e232a7929fe9280cc941474d85f5868d0b7cdd5cabe49d4b1b", func := "tandem/tandemlaw7.RasterExact", spec := "rasterExact", unfollowed := true, recurses := true, apart := false, narrowed := true }
def RasterExactUptoSaid : Prop := rasterExactUptoRow.holds Try.pinned (OpenSpec.upto rasterExactSpec)

/-- 'tandemtop.TopNames', WHERE WHAT IT READS IS OF BULK AT MOST 1048576: true; the input reads as it did. -/
def topNamesUptoRow : OpenClaim := { program := "ytmgaphghjhbhhaa", sum := "0488e4b2278f89e232a7929fe9280cc941474d85f5868d0b7cdd5cabe49d4b1b", func := "tandem/tandemtop.TopNames", spec := "topNames", apart := false, narrowed := true }
def TopNamesUptoSaid : Prop := topNamesUptoRow.holds Try.pinned (OpenSpec.upto topNamesSpec)

end Rows
end Go.Proofs.Ytmgaphghjhbhhaa
