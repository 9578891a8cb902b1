/-
  No cell of these rows narrows 'for every input' (looked for: loops, veiled, ifaces, maps, wideKeys, modest, calm, conditions, laid).
  DERIVED. THE GIVEN ROWS OF THIS SEAT. 10 by the template 'for every input the law returns true; each argument reads behind the call as it read before'; 0 by the template 'total and deterministic' (their statements: YtddbmckbankmeaaTotals.lean).
  GIVEN WITH THE SEED: the statements are not yours to turn. If you find one false, say at which input.
  Laid BY PROGRAM, IN A SANDBOX (cutbox-rows.mjs): the forced cells as the released guide's own fill.sh prints them over the translation 55d9fe1c54c41b25… (all of the seat's roots in one cut). By AI agents, Wed Nov 11 2026. No macro, syntax, notation, axiom, sorry.
-/
import Derived.Test.YtddbmckbankmeaaChecked
import GoSem.Claim
import GoSem.ClaimJoined
import GoSem.ClaimMapViews
import Derived.JoinedTies
import Derived.KernelRfl
namespace Go.Proofs.Ytddbmckbankmeaa
/- THE CELL 'sum', in the pinned program and in every row, IS THE sha256 OF THE DUMP (.gsa) THAT YtddbmckbankmeaaProg.lean LOADS. Nothing in Lean hashes anything: it is a label: what it is worth is what the hold of that sum in a sandbox is worth. -/
noncomputable def Try.pinned : Pinned := { name := "ytddbmckbankmeaa", sum := "55d9fe1c54c41b2529fb6776cae7faef1a20a18e8a09205c1ba177edd8717bb2", checked := Try.checked }
namespace Rows
def none {H : Type} : Left H := { results := [], args := [] }

/-- 'cantinglaw03.StampApplies': WHATEVER THE INPUT: true; the input reads as it did. -/
def stampAppliesSpec : ChangeSpec := { name := "stampApplies", fn := fun _ => fun
  | [d1, d2] => { results := [.lit (.bool true)], args := [d1, d2] }
  | _ => none }
def stampAppliesRow : OpenClaim := { program := "ytddbmckbankmeaa", sum := "55d9fe1c54c41b2529fb6776cae7faef1a20a18e8a09205c1ba177edd8717bb2", func := "canting/cantinglaw03.StampApplies", spec := "stampApplies", unfollowed := true, recurses := true, plainKeys := false, apart := false }
def StampAppliesSaid : Prop := stampAppliesRow.holds Try.pinned (OpenSpec.ofChange stampAppliesSpec)

/-- ITS FALSE NEIGHBOUR: 'it returns false'. Refute it at one input. -/
def stampAppliesWrong : ChangeSpec := { name := "stampApplies", fn := fun _ => fun
  | [d1, d2] => { results := [.lit (.bool false)], args := [d1, d2] }
  | _ => none }
def StampAppliesWrongFalsely : Prop := stampAppliesRow.holds Try.pinned (OpenSpec.ofChange stampAppliesWrong)

/-- 'cantinglaw03.StampAfter': WHATEVER THE INPUT: true; the input reads as it did. -/
def stampAfterSpec : ChangeSpec := { name := "stampAfter", fn := fun _ => fun
  | [d1, d2, d3, d4] => { results := [.lit (.bool true)], args := [d1, d2, d3, d4] }
  | _ => none }
def stampAfterRow : OpenClaim := { program := "ytddbmckbankmeaa", sum := "55d9fe1c54c41b2529fb6776cae7faef1a20a18e8a09205c1ba177edd8717bb2", func := "canting/cantinglaw03.StampAfter", spec := "stampAfter", unfollowed := true, recurses := true, plainKeys := false, apart := false }
def StampAfterSaid : Prop := stampAfterRow.holds Try.pinned (OpenSpec.ofChange stampAfterSpec)

/-- ITS FALSE NEIGHBOUR: 'it returns false'. Refute it at one input. -/
def stampAfterWrong : ChangeSpec := { name := "stampAfter", fn := fun _ => fun
  | [d1, d2, d3, d4] => { results := [.lit (.bool false)], args := [d1, d2, d3, d4] }
  | _ => none }
def StampAfterWrongFalsely : Prop := stampAfterRow.holds Try.pinned (OpenSpec.ofChange stampAfterWrong)

/-- 'cantinglaw03.StampGroups': WHATEVER THE INPUT: true; the input reads as it did. -/
def stampGroupsSpec : ChangeSpec := { name := "stampGroups", fn := fun _ => fun
  | [d1, d2, d3, d4] => { results := [.lit (.bool true)], args := [d1, d2, d3, d4] }
  | _ => none }
def stampGroupsRow : OpenClaim := { program := "ytddbmckbankmeaa", sum := "55d9fe1c54c41b2529fb6776cae7faef1a20a18e8a09205c1ba177edd8717bb2", func := "canting/cantinglaw03.StampGroups", spec := "stampGroups", unfollowed := true, recurses := true, plainKeys := false, apart := false }
def StampGroupsSaid : Prop := stampGroupsRow.holds Try.pinned (OpenSpec.ofChange stampGroupsSpec)

/-- ITS FALSE NEIGHBOUR: 'it returns false'. Refute it at one input. -/
def stampGroupsWrong : ChangeSpec := { name := "stampGroups", fn := fun _ => fun
  | [d1, d2, d3, d4] => { results := [.lit (.bool false)], args := [d1, d2, d3, d4] }
  | _ => none }
def StampGroupsWrongFalsely : Prop := stampGroupsRow.holds Try.pinned (OpenSpec.ofChange stampGroupsWrong)

/-- 'cantinglaw03.StampCells': WHATEVER THE INPUT: true; the input reads as it did. -/
def stampCellsSpec : ChangeSpec := { name := "stampCells", fn := fun _ => fun
  | [d1, d2, d3] => { results := [.lit (.bool true)], args := [d1, d2, d3] }
  | _ => none }
def stampCellsRow : OpenClaim := { program := "ytddbmckbankmeaa", sum := "55d9fe1c54c41b2529fb6776cae7faef1a20a18e8a09205c1ba177edd8717bb2", func := "canting/cantinglaw03.StampCells", spec := "stampCells", unfollowed := true, recurses := true, plainKeys := false, apart := false }
def StampCellsSaid : Prop := stampCellsRow.holds Try.pinned (OpenSpec.ofChange stampCellsSpec)

/-- ITS FALSE NEIGHBOUR: 'it returns false'. Refute it at one input. -/
def stampCellsWrong : ChangeSpec := { name := "stampCells", fn := fun _ => fun
  | [d1, d2, d3] => { results := [.lit (.bool false)], args := [d1, d2, d3] }
  | _ => none }
def StampCellsWrongFalsely : Prop := stampCellsRow.holds Try.pinned (OpenSpec.ofChange stampCellsWrong)

/-- 'cantinglaw03.StampKinds': WHATEVER THE INPUT: true; the input reads as it did. -/
def stampKindsSpec : ChangeSpec := { name := "stampKinds", fn := fun _ => fun
  | [d] => { results := [.lit (.bool true)], args := [d] }
  | _ => none }
def stampKindsRow : OpenClaim := { program := "ytddbmckbankmeaa", sum := "55d9fe1c54c41b2529fb6776cae7faef1a20a18e8a09205c1ba177edd8717bb2", func := "canting/cantinglaw03.StampKinds", spec := "stampKinds", unfollowed := true, recurses := true, plainKeys := false, apart := false }
def StampKindsSaid : Prop := stampKindsRow.holds Try.pinned (OpenSpec.ofChange stampKindsSpec)

/-- ITS FALSE NEIGHBOUR: 'it returns false'. Refute it at one input. -/
def stampKindsWrong : ChangeSpec := { name := "stampKinds", fn := fun _ => fun
  | [d] => { results := [.lit (.bool false)], args := [d] }
  | _ => none }
def StampKindsWrongFalsely : Prop := stampKindsRow.holds Try.pinned (OpenSpec.ofChange stampKindsWrong)

/-- 'cantinglaw03.StampSame': WHATEVER THE INPUT: true; the input reads as it did. -/
def stampSameSpec : ChangeSpec := { name := "stampSame", fn := fun _ => fun
  | [d1, d2, d3] => { results := [.lit (.bool true)], args := [d1, d2, d3] }
  | _ => none }
def stampSameRow : OpenClaim := { program := "ytddbmckbankmeaa", sum := "55d9fe1c54c41b2529fb6776cae7faef1a20a18e8a09205c1ba177edd8717bb2", func := "canting/cantinglaw03.StampSame", spec := "stampSame", unfollowed := true, recurses := true, plainKeys := false, apart := false }
def StampSameSaid : Prop := stampSameRow.holds Try.pinned (OpenSpec.ofChange stampSameSpec)

/-- ITS FALSE NEIGHBOUR: 'it returns false'. Refute it at one input. -/
def stampSameWrong : ChangeSpec := { name := "stampSame", fn := fun _ => fun
  | [d1, d2, d3] => { results := [.lit (.bool false)], args := [d1, d2, d3] }
  | _ => none }
def StampSameWrongFalsely : Prop := stampSameRow.holds Try.pinned (OpenSpec.ofChange stampSameWrong)

/-- 'cantinglaw03.StampMoves': WHATEVER THE INPUT: true; the input reads as it did. -/
def stampMovesSpec : ChangeSpec := { name := "stampMoves", fn := fun _ => fun
  | [d1, d2, d3] => { results := [.lit (.bool true)], args := [d1, d2, d3] }
  | _ => none }
def stampMovesRow : OpenClaim := { program := "ytddbmckbankmeaa", sum := "55d9fe1c54c41b2529fb6776cae7faef1a20a18e8a09205c1ba177edd8717bb2", func := "canting/cantinglaw03.StampMoves", spec := "stampMoves", unfollowed := true, recurses := true, plainKeys := false, apart := false }
def StampMovesSaid : Prop := stampMovesRow.holds Try.pinned (OpenSpec.ofChange stampMovesSpec)

/-- ITS FALSE NEIGHBOUR: 'it returns false'. Refute it at one input. -/
def stampMovesWrong : ChangeSpec := { name := "stampMoves", fn := fun _ => fun
  | [d1, d2, d3] => { results := [.lit (.bool false)], args := [d1, d2, d3] }
  | _ => none }
def StampMovesWrongFalsely : Prop := stampMovesRow.holds Try.pinned (OpenSpec.ofChange stampMovesWrong)

/-- 'cantinglaw03.StampAll': WHATEVER THE INPUT: true; the input reads as it did. -/
def stampAllSpec : ChangeSpec := { name := "stampAll", fn := fun _ => fun
  | [d1, d2, d3, d4] => { results := [.lit (.bool true)], args := [d1, d2, d3, d4] }
  | _ => none }
def stampAllRow : OpenClaim := { program := "ytddbmckbankmeaa", sum := "55d9fe1c54c41b2529fb6776cae7faef1a20a18e8a09205c1ba177edd8717bb2", func := "canting/cantinglaw03.StampAll", spec := "stampAll", unfollowed := true, recurses := true, plainKeys := false, apart := false }
def StampAllSaid : Prop := stampAllRow.holds Try.pinned (OpenSpec.ofChange stampAllSpec)

/-- ITS FALSE NEIGHBOUR: 'it returns false'. Refute it at one input. -/
def stampAllWrong : ChangeSpec := { name := "stampAll", fn := fun _ => fun
  | [d1, d2, d3, d4] => { results := [.lit (.bool false)], args := [d1, d2, d3, d4] }
  | _ => none }
def StampAllWrongFalsely : Prop := stampAllRow.holds Try.pinned (OpenSpec.ofChange stampAllWrong)

/-- 'cantinglaw03.StampOrbits': WHATEVER THE INPUT: true; the input reads as it did. -/
def stampOrbitsSpec : ChangeSpec := { name := "stampOrbits", fn := fun _ => fun
  | [d1, d2] => { results := [.lit (.bool true)], args := [d1, d2] }
  | _ => none }
def stampOrbitsRow : OpenClaim := { program := "ytddbmckbankmeaa", sum := "55d9fe1c54c41b2529fb6776cae7faef1a20a18e8a09205c1ba177edd8717bb2", func := "canting/cantinglaw03.StampOrbits", spec := "stampOrbits", unfollowed := true, recurses := true, plainKeys := false, apart := false }
def StampOrbitsSaid : Prop := stampOrbitsRow.holds Try.pinned (OpenSpec.ofChange stampOrbitsSpec)

/-- ITS FALSE NEIGHBOUR: 'it returns false'. Refute it at one input. -/
def stampOrbitsWrong : ChangeSpec := { name := "stampOrbits", fn := fun _ => fun
  | [d1, d2] => { results := [.lit (.bool false)], args := [d1, d2] }
  | _ => none }
def StampOrbitsWrongFalsely : Prop := stampOrbitsRow.holds Try.pinned (OpenSpec.ofChange stampOrbitsWrong)

/-- 'cantinglaw03.StampStabilizer': WHATEVER THE INPUT: true; the input reads as it did. -/
def stampStabilizerSpec : ChangeSpec := { name := "stampStabilizer", fn := fun _ => fun
  | [d1, d2] => { results := [.lit (.bool true)], args := [d1, d2] }
  | _ => none }
def stampStabilizerRow : OpenClaim := { program := "ytddbmckbankmeaa", sum := "55d9fe1c54c41b2529fb6776cae7faef1a20a18e8a09205c1ba177edd8717bb2", func := "canting/cantinglaw03.StampStabilizer", spec := "stampStabilizer", unfollowed := true, recurses := true, plainKeys := false, apart := false }
def StampStabilizerSaid : Prop := stampStabilizerRow.holds Try.pinned (OpenSpec.ofChange stampStabilizerSpec)

/-- ITS FALSE NEIGHBOUR: 'it returns false'. Refute it at one input. -/
def stampStabilizerWrong : ChangeSpec := { name := "stampStabilizer", fn := fun _ => fun
  | [d1, d2] => { results := [.lit (.bool false)], args := [d1, d2] }
  | _ => none }
def StampStabilizerWrongFalsely : Prop := stampStabilizerRow.holds Try.pinned (OpenSpec.ofChange stampStabilizerWrong)

/- THE SECOND FORM. 'bulk': how many values and letters a reading holds, each counted each time it is reached (what is shared counts as often as it is met; a slice's spare places count too). A statement '..UptoSaid' is the law's where the arguments, and the package variables that the reading takes, are together of bulk at most 1048576: NARROWER than '..Said'. Prove '..Said' where nothing that the law and all that it calls make is longer than what came in: it says more and counts as full. Else prove '..UptoSaid'. A law counts once. -/
mutual
def uptoBulk {H : Type} : DataW H → Nat
  | .lit (.string bytes) => bytes.length + 1
  | .lit _ => 1
  | .nil => 1
  | .ptr d => uptoBulk d + 1
  | .slice elems spare => uptoBulkAll elems + uptoBulkAll spare + 1
  | .agg parts => uptoBulkAll parts + 1
  | .iface _ d => uptoBulk d + 1
  | .map entries => uptoBulkEntries entries + 1
  | .held _ => 1
def uptoBulkAll {H : Type} : List (DataW H) → Nat
  | [] => 0
  | d :: r => uptoBulk d + uptoBulkAll r
def uptoBulkEntries {H : Type} : List (Lit × DataW H) → Nat
  | [] => 0
  | x :: r => uptoBulkEntry x + uptoBulkEntries r
def uptoBulkEntry {H : Type} : Lit × DataW H → Nat
  | (.string bytes, d) => bytes.length + uptoBulk d + 1
  | (_, d) => uptoBulk d + 1
 end
def uptoSmall : (H : Type) → List (DataW H) → Bool := fun _ ds => decide (uptoBulkAll ds ≤ 1048576)
def OpenSpec.upto (s : _root_.Go.ChangeSpec) : _root_.Go.OpenSpec := { _root_.Go.OpenSpec.ofChange s with cond := some uptoSmall }

/-- 'cantinglaw03.StampApplies', WHERE WHAT IT READS IS OF BULK AT MOST 1048576: true; the input reads as it did. -/
def stampAppliesUptoRow : OpenClaim := { program := "ytddbmckbankmeaa", sum := "55d9fe1c54c41b2529fb6776cae7faef1a20a18e8a09205c1ba177edd8717bb2", func := "canting/cantinglaw03.StampApplies", spec := "stampApplies", unfollowed := true, recurses := true, plainKeys := false, apart := false, narrowed := true }
def StampAppliesUptoSaid : Prop := stampAppliesUptoRow.holds Try.pinned (OpenSpec.upto stampAppliesSpec)

/-- 'cantinglaw03.StampAfter', WHERE WHAT IT READS IS OF BULK AT MOST 1048576: true; the input reads as it did. -/
def stampAfterUptoRow : OpenClaim := { program := "ytddbmckbankmeaa", sum := "55d9fe1c54c41b2529fb6776cae7faef1a20a18e8a09205c1ba177edd8717bb2", func := "canting/cantinglaw03.StampAfter", spec := "stampAfter", unfollowed := true, recurses := true, plainKeys := false, apart := false, narrowed := true }
def StampAfterUptoSaid : Prop := stampAfterUptoRow.holds Try.pinned (OpenSpec.upto stampAfterSpec)

/-- 'cantinglaw03.StampGroups', WHERE WHAT IT READS IS OF BULK AT MOST 1048576: true; the input reads as it did. -/
def stampGroupsUptoRow : OpenClaim := { program := "ytddbmckbankmeaa", sum := "55d9fe1c54c41b2529fb6776cae7faef1a20a18e8a09205c1ba177edd8717bb2", func := "canting/cantinglaw03.StampGroups", spec := "stampGroups", unfollowed := true, recurses := true, plainKeys := false, apart := false, narrowed := true }
def StampGroupsUptoSaid : Prop := stampGroupsUptoRow.holds Try.pinned (OpenSpec.upto stampGroupsSpec)

/-- 'cantinglaw03.StampCells', WHERE WHAT IT READS IS OF BULK AT MOST 1048576: true; the input reads as it did. -/
def stampCellsUptoRow : OpenClaim := { program := "ytddbmckbankmeaa", sum := "55d9fe1c54c41b2529fb6776cae7faef1a20a18e8a09205c1ba177edd8717bb2", func := "canting/cantinglaw03.StampCells", spec := "stampCells", unfollowed := true, recurses := true, plainKeys := false, apart := false, narrowed := true }
def StampCellsUptoSaid : Prop := stampCellsUptoRow.holds Try.pinned (OpenSpec.upto stampCellsSpec)

/-- 'cantinglaw03.StampKinds', WHERE WHAT IT READS IS OF BULK AT MOST 1048576: true; the input reads as it did. -/
def stampKindsUptoRow : OpenClaim := { program := "ytddbmckbankmeaa", sum := "55d9fe1c54c41b2529fb6776cae7faef1a20a18e8a09205c1ba177edd8717bb2", func := "canting/cantinglaw03.StampKinds", spec := "stampKinds", unfollowed := true, recurses := true, plainKeys := false, apart := false, narrowed := true }
def StampKindsUptoSaid : Prop := stampKindsUptoRow.holds Try.pinned (OpenSpec.upto stampKindsSpec)

/-- 'cantinglaw03.StampSame', WHERE WHAT IT READS IS OF BULK AT MOST 1048576: true; the input reads as it did. -/
def stampSameUptoRow : OpenClaim := { program := "ytddbmckbankmeaa", sum := "55d9fe1c54c41b2529fb6776cae7faef1a20a18e8a09205c1ba177edd8717bb2", func := "canting/cantinglaw03.StampSame", spec := "stampSame", unfollowed := true, recurses := true, plainKeys := false, apart := false, narrowed := true }
def StampSameUptoSaid : Prop := stampSameUptoRow.holds Try.pinned (OpenSpec.upto stampSameSpec)

/-- 'cantinglaw03.StampMoves', WHERE WHAT IT READS IS OF BULK AT MOST 1048576: true; the input reads as it did. -/
def stampMovesUptoRow : OpenClaim := { program := "ytddbmckbankmeaa", sum := "55d9fe1c54c41b2529fb6776cae7faef1a20a18e8a09205c1ba177edd8717bb2", func := "canting/cantinglaw03.StampMoves", spec := "stampMoves", unfollowed := true, recurses := true, plainKeys := false, apart := false, narrowed := true }
def StampMovesUptoSaid : Prop := stampMovesUptoRow.holds Try.pinned (OpenSpec.upto stampMovesSpec)

/-- 'cantinglaw03.StampAll', WHERE WHAT IT READS IS OF BULK AT MOST 1048576: true; the input reads as it did. -/
def stampAllUptoRow : OpenClaim := { program := "ytddbmckbankmeaa", sum := "55d9fe1c54c41b2529fb6776cae7faef1a20a18e8a09205c1ba177edd8717bb2", func := "canting/cantinglaw03.StampAll", spec := "stampAll", unfollowed := true, recurses := true, plainKeys := false, apart := false, narrowed := true }
def StampAllUptoSaid : Prop := stampAllUptoRow.holds Try.pinned (OpenSpec.upto stampAllSpec)

/-- 'cantinglaw03.StampOrbits', WHERE WHAT IT READS IS OF BULK AT MOST 1048576: true; the input reads as it did. -/
def stampOrbitsUptoRow : OpenClaim := { program := "ytddbmckbankmeaa", sum := "55d9fe1c54c41b2529fb6776cae7faef1a20a18e8a09205c1ba177edd8717bb2", func := "canting/cantinglaw03.StampOrbits", spec := "stampOrbits", unfollowed := true, recurses := true, plainKeys := false, apart := false, narrowed := true }
def StampOrbitsUptoSaid : Prop := stampOrbitsUptoRow.holds Try.pinned (OpenSpec.upto stampOrbitsSpec)

/-- 'cantinglaw03.StampStabilizer', WHERE WHAT IT READS IS OF BULK AT MOST 1048576: true; the input reads as it did. -/
def stampStabilizerUptoRow : OpenClaim := { program := "ytddbmckbankmeaa", sum := "55d9fe1c54c41b2529fb6776cae7faef1a20a18e8a09205c1ba177edd8717bb2", func := "canting/cantinglaw03.StampStabilizer", spec := "stampStabilizer", unfollowed := true, recurses := true, plainKeys := false, apart := false, narrowed := true }
def StampStabilizerUptoSaid : Prop := stampStabilizerUptoRow.holds Try.pinned (OpenSpec.upto stampStabilizerSpec)

end Rows
end Go.Proofs.Ytddbmckbankmeaa
