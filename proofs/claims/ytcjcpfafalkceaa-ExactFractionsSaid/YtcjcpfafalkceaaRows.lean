/-
  No cell of these rows narrows 'for every input' (looked for: loops, veiled, ifaces, maps, wideKeys, modest, calm, conditions, laid).
  DERIVED. THE GIVEN ROWS OF THIS SEAT. 10 by the template 'for every input the law returns true; each argument reads behind the call as it read before'; 0 by the template 'total and deterministic' (their statements: YtcjcpfafalkceaaTotals.lean).
  GIVEN WITH THE SEED: the statements are not yours to turn. If you find one false, say at which input.
  Laid BY PROGRAM, IN A SANDBOX (cutbox-rows.mjs): the forced cells as the released guide's own fill.sh prints them over the translation 8d6a1b16a2c41b98… (all of the seat's roots in one cut). By AI agents, Wed Nov 11 2026. No macro, syntax, notation, axiom, sorry.
-/
import Derived.Test.YtcjcpfafalkceaaChecked
import GoSem.Claim
import GoSem.ClaimJoined
import GoSem.ClaimMapViews
import Derived.JoinedTies
import Derived.KernelRfl
namespace Go.Proofs.Ytcjcpfafalkceaa
/- THE CELL 'sum', in the pinned program and in every row, IS THE sha256 OF THE DUMP (.gsa) THAT YtcjcpfafalkceaaProg.lean LOADS. Nothing in Lean hashes anything: it is a label: what it is worth is what the hold of that sum in a sandbox is worth. -/
noncomputable def Try.pinned : Pinned := { name := "ytcjcpfafalkceaa", sum := "8d6a1b16a2c41b98bf13ed57a0d7bbff0e7e96895db47664b2e493a6049ab5b6", checked := Try.checked }
namespace Rows
def none {H : Type} : Left H := { results := [], args := [] }

/-- 'cantinglaw01.ExactRing': WHATEVER THE INPUT: true; the input reads as it did. -/
def exactRingSpec : ChangeSpec := { name := "exactRing", fn := fun _ => fun
  | [d1, d2, d3] => { results := [.lit (.bool true)], args := [d1, d2, d3] }
  | _ => none }
def exactRingRow : OpenClaim := { program := "ytcjcpfafalkceaa", sum := "8d6a1b16a2c41b98bf13ed57a0d7bbff0e7e96895db47664b2e493a6049ab5b6", func := "canting/cantinglaw01.ExactRing", spec := "exactRing", unfollowed := true, recurses := true, apart := false }
def ExactRingSaid : Prop := exactRingRow.holds Try.pinned (OpenSpec.ofChange exactRingSpec)

/-- ITS FALSE NEIGHBOUR: 'it returns false'. Refute it at one input. -/
def exactRingWrong : ChangeSpec := { name := "exactRing", fn := fun _ => fun
  | [d1, d2, d3] => { results := [.lit (.bool false)], args := [d1, d2, d3] }
  | _ => none }
def ExactRingWrongFalsely : Prop := exactRingRow.holds Try.pinned (OpenSpec.ofChange exactRingWrong)

/-- 'cantinglaw01.ExactInts': WHATEVER THE INPUT: true; the input reads as it did. -/
def exactIntsSpec : ChangeSpec := { name := "exactInts", fn := fun _ => fun
  | [d1, d2] => { results := [.lit (.bool true)], args := [d1, d2] }
  | _ => none }
def exactIntsRow : OpenClaim := { program := "ytcjcpfafalkceaa", sum := "8d6a1b16a2c41b98bf13ed57a0d7bbff0e7e96895db47664b2e493a6049ab5b6", func := "canting/cantinglaw01.ExactInts", spec := "exactInts", unfollowed := true, recurses := true, apart := false }
def ExactIntsSaid : Prop := exactIntsRow.holds Try.pinned (OpenSpec.ofChange exactIntsSpec)

/-- ITS FALSE NEIGHBOUR: 'it returns false'. Refute it at one input. -/
def exactIntsWrong : ChangeSpec := { name := "exactInts", fn := fun _ => fun
  | [d1, d2] => { results := [.lit (.bool false)], args := [d1, d2] }
  | _ => none }
def ExactIntsWrongFalsely : Prop := exactIntsRow.holds Try.pinned (OpenSpec.ofChange exactIntsWrong)

/-- 'cantinglaw01.ExactSums': WHATEVER THE INPUT: true; the input reads as it did. -/
def exactSumsSpec : ChangeSpec := { name := "exactSums", fn := fun _ => fun
  | [d1, d2] => { results := [.lit (.bool true)], args := [d1, d2] }
  | _ => none }
def exactSumsRow : OpenClaim := { program := "ytcjcpfafalkceaa", sum := "8d6a1b16a2c41b98bf13ed57a0d7bbff0e7e96895db47664b2e493a6049ab5b6", func := "canting/cantinglaw01.ExactSums", spec := "exactSums", unfollowed := true, recurses := true, apart := false }
def ExactSumsSaid : Prop := exactSumsRow.holds Try.pinned (OpenSpec.ofChange exactSumsSpec)

/-- ITS FALSE NEIGHBOUR: 'it returns false'. Refute it at one input. -/
def exactSumsWrong : ChangeSpec := { name := "exactSums", fn := fun _ => fun
  | [d1, d2] => { results := [.lit (.bool false)], args := [d1, d2] }
  | _ => none }
def ExactSumsWrongFalsely : Prop := exactSumsRow.holds Try.pinned (OpenSpec.ofChange exactSumsWrong)

/-- 'cantinglaw01.ExactRoots': WHATEVER THE INPUT: true; the input reads as it did. -/
def exactRootsSpec : ChangeSpec := { name := "exactRoots", fn := fun _ => fun
  | [d1, d2] => { results := [.lit (.bool true)], args := [d1, d2] }
  | _ => none }
def exactRootsRow : OpenClaim := { program := "ytcjcpfafalkceaa", sum := "8d6a1b16a2c41b98bf13ed57a0d7bbff0e7e96895db47664b2e493a6049ab5b6", func := "canting/cantinglaw01.ExactRoots", spec := "exactRoots", unfollowed := true, recurses := true, apart := false }
def ExactRootsSaid : Prop := exactRootsRow.holds Try.pinned (OpenSpec.ofChange exactRootsSpec)

/-- ITS FALSE NEIGHBOUR: 'it returns false'. Refute it at one input. -/
def exactRootsWrong : ChangeSpec := { name := "exactRoots", fn := fun _ => fun
  | [d1, d2] => { results := [.lit (.bool false)], args := [d1, d2] }
  | _ => none }
def ExactRootsWrongFalsely : Prop := exactRootsRow.holds Try.pinned (OpenSpec.ofChange exactRootsWrong)

/-- 'cantinglaw01.ExactPowers': WHATEVER THE INPUT: true; the input reads as it did. -/
def exactPowersSpec : ChangeSpec := { name := "exactPowers", fn := fun _ => fun
  | [d1, d2, d3] => { results := [.lit (.bool true)], args := [d1, d2, d3] }
  | _ => none }
def exactPowersRow : OpenClaim := { program := "ytcjcpfafalkceaa", sum := "8d6a1b16a2c41b98bf13ed57a0d7bbff0e7e96895db47664b2e493a6049ab5b6", func := "canting/cantinglaw01.ExactPowers", spec := "exactPowers", unfollowed := true, recurses := true, apart := false }
def ExactPowersSaid : Prop := exactPowersRow.holds Try.pinned (OpenSpec.ofChange exactPowersSpec)

/-- ITS FALSE NEIGHBOUR: 'it returns false'. Refute it at one input. -/
def exactPowersWrong : ChangeSpec := { name := "exactPowers", fn := fun _ => fun
  | [d1, d2, d3] => { results := [.lit (.bool false)], args := [d1, d2, d3] }
  | _ => none }
def ExactPowersWrongFalsely : Prop := exactPowersRow.holds Try.pinned (OpenSpec.ofChange exactPowersWrong)

/-- 'cantinglaw01.ExactDiv': WHATEVER THE INPUT: true; the input reads as it did. -/
def exactDivSpec : ChangeSpec := { name := "exactDiv", fn := fun _ => fun
  | [d1, d2] => { results := [.lit (.bool true)], args := [d1, d2] }
  | _ => none }
def exactDivRow : OpenClaim := { program := "ytcjcpfafalkceaa", sum := "8d6a1b16a2c41b98bf13ed57a0d7bbff0e7e96895db47664b2e493a6049ab5b6", func := "canting/cantinglaw01.ExactDiv", spec := "exactDiv", unfollowed := true, recurses := true, apart := false }
def ExactDivSaid : Prop := exactDivRow.holds Try.pinned (OpenSpec.ofChange exactDivSpec)

/-- ITS FALSE NEIGHBOUR: 'it returns false'. Refute it at one input. -/
def exactDivWrong : ChangeSpec := { name := "exactDiv", fn := fun _ => fun
  | [d1, d2] => { results := [.lit (.bool false)], args := [d1, d2] }
  | _ => none }
def ExactDivWrongFalsely : Prop := exactDivRow.holds Try.pinned (OpenSpec.ofChange exactDivWrong)

/-- 'cantinglaw01.ExactBezout': WHATEVER THE INPUT: true; the input reads as it did. -/
def exactBezoutSpec : ChangeSpec := { name := "exactBezout", fn := fun _ => fun
  | [d1, d2] => { results := [.lit (.bool true)], args := [d1, d2] }
  | _ => none }
def exactBezoutRow : OpenClaim := { program := "ytcjcpfafalkceaa", sum := "8d6a1b16a2c41b98bf13ed57a0d7bbff0e7e96895db47664b2e493a6049ab5b6", func := "canting/cantinglaw01.ExactBezout", spec := "exactBezout", unfollowed := true, recurses := true, apart := false }
def ExactBezoutSaid : Prop := exactBezoutRow.holds Try.pinned (OpenSpec.ofChange exactBezoutSpec)

/-- ITS FALSE NEIGHBOUR: 'it returns false'. Refute it at one input. -/
def exactBezoutWrong : ChangeSpec := { name := "exactBezout", fn := fun _ => fun
  | [d1, d2] => { results := [.lit (.bool false)], args := [d1, d2] }
  | _ => none }
def ExactBezoutWrongFalsely : Prop := exactBezoutRow.holds Try.pinned (OpenSpec.ofChange exactBezoutWrong)

/-- 'cantinglaw01.ExactGcd': WHATEVER THE INPUT: true; the input reads as it did. -/
def exactGcdSpec : ChangeSpec := { name := "exactGcd", fn := fun _ => fun
  | [d1, d2] => { results := [.lit (.bool true)], args := [d1, d2] }
  | _ => none }
def exactGcdRow : OpenClaim := { program := "ytcjcpfafalkceaa", sum := "8d6a1b16a2c41b98bf13ed57a0d7bbff0e7e96895db47664b2e493a6049ab5b6", func := "canting/cantinglaw01.ExactGcd", spec := "exactGcd", unfollowed := true, recurses := true, apart := false }
def ExactGcdSaid : Prop := exactGcdRow.holds Try.pinned (OpenSpec.ofChange exactGcdSpec)

/-- ITS FALSE NEIGHBOUR: 'it returns false'. Refute it at one input. -/
def exactGcdWrong : ChangeSpec := { name := "exactGcd", fn := fun _ => fun
  | [d1, d2] => { results := [.lit (.bool false)], args := [d1, d2] }
  | _ => none }
def ExactGcdWrongFalsely : Prop := exactGcdRow.holds Try.pinned (OpenSpec.ofChange exactGcdWrong)

/-- 'cantinglaw01.ExactField': WHATEVER THE INPUT: true; the input reads as it did. -/
def exactFieldSpec : ChangeSpec := { name := "exactField", fn := fun _ => fun
  | [d1, d2] => { results := [.lit (.bool true)], args := [d1, d2] }
  | _ => none }
def exactFieldRow : OpenClaim := { program := "ytcjcpfafalkceaa", sum := "8d6a1b16a2c41b98bf13ed57a0d7bbff0e7e96895db47664b2e493a6049ab5b6", func := "canting/cantinglaw01.ExactField", spec := "exactField", unfollowed := true, recurses := true, apart := false }
def ExactFieldSaid : Prop := exactFieldRow.holds Try.pinned (OpenSpec.ofChange exactFieldSpec)

/-- ITS FALSE NEIGHBOUR: 'it returns false'. Refute it at one input. -/
def exactFieldWrong : ChangeSpec := { name := "exactField", fn := fun _ => fun
  | [d1, d2] => { results := [.lit (.bool false)], args := [d1, d2] }
  | _ => none }
def ExactFieldWrongFalsely : Prop := exactFieldRow.holds Try.pinned (OpenSpec.ofChange exactFieldWrong)

/-- 'cantinglaw01.ExactFractions': WHATEVER THE INPUT: true; the input reads as it did. -/
def exactFractionsSpec : ChangeSpec := { name := "exactFractions", fn := fun _ => fun
  | [d1, d2] => { results := [.lit (.bool true)], args := [d1, d2] }
  | _ => none }
def exactFractionsRow : OpenClaim := { program := "ytcjcpfafalkceaa", sum := "8d6a1b16a2c41b98bf13ed57a0d7bbff0e7e96895db47664b2e493a6049ab5b6", func := "canting/cantinglaw01.ExactFractions", spec := "exactFractions", unfollowed := true, recurses := true, apart := false }
def ExactFractionsSaid : Prop := exactFractionsRow.holds Try.pinned (OpenSpec.ofChange exactFractionsSpec)

/-- ITS FALSE NEIGHBOUR: 'it returns false'. Refute it at one input. -/
def exactFractionsWrong : ChangeSpec := { name := "exactFractions", fn := fun _ => fun
  | [d1, d2] => { results := [.lit (.bool false)], args := [d1, d2] }
  | _ => none }
def ExactFractionsWrongFalsely : Prop := exactFractionsRow.holds Try.pinned (OpenSpec.ofChange exactFractionsWrong)

/- THE SECOND FORM. 'bulk': how many values and letters a reading holds, each counted each time it is reached (what is shared counts as often as it is met; a slice's spare places count too). A statement '..UptoSaid' is the law's where the arguments, and the package variables that the reading takes, are together of bulk at most 1048576: NARROWER than '..Said'. Prove '..Said' where nothing that the law and all that it calls make is longer than what came in: it says more and counts as full. Else prove '..UptoSaid'. A law counts once. -/
mutual
def uptoBulk {H : Type} : DataW H → Nat
  | .lit (.string bytes) => bytes.length + 1
  | .lit _ => 1
  | .nil => 1
  | .ptr d => uptoBulk d + 1
  | .slice elems spare => uptoBulkAll elems + uptoBulkAll spare + 1
  | .agg parts => uptoBulkAll parts + 1
  | .iface _ d => uptoBulk d + 1
  | .map entries => uptoBulkEntries entries + 1
  | .held _ => 1
def uptoBulkAll {H : Type} : List (DataW H) → Nat
  | [] => 0
  | d :: r => uptoBulk d + uptoBulkAll r
def uptoBulkEntries {H : Type} : List (Lit × DataW H) → Nat
  | [] => 0
  | x :: r => uptoBulkEntry x + uptoBulkEntries r
def uptoBulkEntry {H : Type} : Lit × DataW H → Nat
  | (.string bytes, d) => bytes.length + uptoBulk d + 1
  | (_, d) => uptoBulk d + 1
 end
def uptoSmall : (H : Type) → List (DataW H) → Bool := fun _ ds => decide (uptoBulkAll ds ≤ 1048576)
def OpenSpec.upto (s : _root_.Go.ChangeSpec) : _root_.Go.OpenSpec := { _root_.Go.OpenSpec.ofChange s with cond := some uptoSmall }

/-- 'cantinglaw01.ExactRing', WHERE WHAT IT READS IS OF BULK AT MOST 1048576: true; the input reads as it did. -/
def exactRingUptoRow : OpenClaim := { program := "ytcjcpfafalkceaa", sum := "8d6a1b16a2c41b98bf13ed57a0d7bbff0e7e96895db47664b2e493a6049ab5b6", func := "canting/cantinglaw01.ExactRing", spec := "exactRing", unfollowed := true, recurses := true, apart := false, narrowed := true }
def ExactRingUptoSaid : Prop := exactRingUptoRow.holds Try.pinned (OpenSpec.upto exactRingSpec)

/-- 'cantinglaw01.ExactInts', WHERE WHAT IT READS IS OF BULK AT MOST 1048576: true; the input reads as it did. -/
def exactIntsUptoRow : OpenClaim := { program := "ytcjcpfafalkceaa", sum := "8d6a1b16a2c41b98bf13ed57a0d7bbff0e7e96895db47664b2e493a6049ab5b6", func := "canting/cantinglaw01.ExactInts", spec := "exactInts", unfollowed := true, recurses := true, apart := false, narrowed := true }
def ExactIntsUptoSaid : Prop := exactIntsUptoRow.holds Try.pinned (OpenSpec.upto exactIntsSpec)

/-- 'cantinglaw01.ExactSums', WHERE WHAT IT READS IS OF BULK AT MOST 1048576: true; the input reads as it did. -/
def exactSumsUptoRow : OpenClaim := { program := "ytcjcpfafalkceaa", sum := "8d6a1b16a2c41b98bf13ed57a0d7bbff0e7e96895db47664b2e493a6049ab5b6", func := "canting/cantinglaw01.ExactSums", spec := "exactSums", unfollowed := true, recurses := true, apart := false, narrowed := true }
def ExactSumsUptoSaid : Prop := exactSumsUptoRow.holds Try.pinned (OpenSpec.upto exactSumsSpec)

/-- 'cantinglaw01.ExactRoots', WHERE WHAT IT READS IS OF BULK AT MOST 1048576: true; the input reads as it did. -/
def exactRootsUptoRow : OpenClaim := { program := "ytcjcpfafalkceaa", sum := "8d6a1b16a2c41b98bf13ed57a0d7bbff0e7e96895db47664b2e493a6049ab5b6", func := "canting/cantinglaw01.ExactRoots", spec := "exactRoots", unfollowed := true, recurses := true, apart := false, narrowed := true }
def ExactRootsUptoSaid : Prop := exactRootsUptoRow.holds Try.pinned (OpenSpec.upto exactRootsSpec)

/-- 'cantinglaw01.ExactPowers', WHERE WHAT IT READS IS OF BULK AT MOST 1048576: true; the input reads as it did. -/
def exactPowersUptoRow : OpenClaim := { program := "ytcjcpfafalkceaa", sum := "8d6a1b16a2c41b98bf13ed57a0d7bbff0e7e96895db47664b2e493a6049ab5b6", func := "canting/cantinglaw01.ExactPowers", spec := "exactPowers", unfollowed := true, recurses := true, apart := false, narrowed := true }
def ExactPowersUptoSaid : Prop := exactPowersUptoRow.holds Try.pinned (OpenSpec.upto exactPowersSpec)

/-- 'cantinglaw01.ExactDiv', WHERE WHAT IT READS IS OF BULK AT MOST 1048576: true; the input reads as it did. -/
def exactDivUptoRow : OpenClaim := { program := "ytcjcpfafalkceaa", sum := "8d6a1b16a2c41b98bf13ed57a0d7bbff0e7e96895db47664b2e493a6049ab5b6", func := "canting/cantinglaw01.ExactDiv", spec := "exactDiv", unfollowed := true, recurses := true, apart := false, narrowed := true }
def ExactDivUptoSaid : Prop := exactDivUptoRow.holds Try.pinned (OpenSpec.upto exactDivSpec)

/-- 'cantinglaw01.ExactBezout', WHERE WHAT IT READS IS OF BULK AT MOST 1048576: true; the input reads as it did. -/
def exactBezoutUptoRow : OpenClaim := { program := "ytcjcpfafalkceaa", sum := "8d6a1b16a2c41b98bf13ed57a0d7bbff0e7e96895db47664b2e493a6049ab5b6", func := "canting/cantinglaw01.ExactBezout", spec := "exactBezout", unfollowed := true, recurses := true, apart := false, narrowed := true }
def ExactBezoutUptoSaid : Prop := exactBezoutUptoRow.holds Try.pinned (OpenSpec.upto exactBezoutSpec)

/-- 'cantinglaw01.ExactGcd', WHERE WHAT IT READS IS OF BULK AT MOST 1048576: true; the input reads as it did. -/
def exactGcdUptoRow : OpenClaim := { program := "ytcjcpfafalkceaa", sum := "8d6a1b16a2c41b98bf13ed57a0d7bbff0e7e96895db47664b2e493a6049ab5b6", func := "canting/cantinglaw01.ExactGcd", spec := "exactGcd", unfollowed := true, recurses := true, apart := false, narrowed := true }
def ExactGcdUptoSaid : Prop := exactGcdUptoRow.holds Try.pinned (OpenSpec.upto exactGcdSpec)

/-- 'cantinglaw01.ExactField', WHERE WHAT IT READS IS OF BULK AT MOST 1048576: true; the input reads as it did. -/
def exactFieldUptoRow : OpenClaim := { program := "ytcjcpfafalkceaa", sum := "8d6a1b16a2c41b98bf13ed57a0d7bbff0e7e96895db47664b2e493a6049ab5b6", func := "canting/cantinglaw01.ExactField", spec := "exactField", unfollowed := true, recurses := true, apart := false, narrowed := true }
def ExactFieldUptoSaid : Prop := exactFieldUptoRow.holds Try.pinned (OpenSpec.upto exactFieldSpec)

/-- 'cantinglaw01.ExactFractions', WHERE WHAT IT READS IS OF BULK AT MOST 1048576: true; the input reads as it did. -/
def exactFractionsUptoRow : OpenClaim := { program := "ytcjcpfafalkceaa", sum := "8d6a1b16a2c41b98bf13ed57a0d7bbff0e7e96895db47664b2e493a6049ab5b6", func := "canting/cantinglaw01.ExactFractions", spec := "exactFractions", unfollowed := true, recurses := true, apart := false, narrowed := true }
def ExactFractionsUptoSaid : Prop := exactFractionsUptoRow.holds Try.pinned (OpenSpec.upto exactFractionsSpec)

end Rows
end Go.Proofs.Ytcjcpfafalkceaa
