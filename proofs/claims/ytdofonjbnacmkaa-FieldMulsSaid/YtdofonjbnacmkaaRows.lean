/-
  No cell of these rows narrows 'for every input' (looked for: loops, veiled, ifaces, maps, wideKeys, modest, calm, conditions, laid).
  DERIVED. THE GIVEN ROWS OF THIS SEAT. 12 by the template 'for every input the law returns true; each argument reads behind the call as it read before'; 0 by the template 'total and deterministic' (their statements: YtdofonjbnacmkaaTotals.lean).
  GIVEN WITH THE SEED: the statements are not yours to turn. If you find one false, say at which input.
  Laid BY PROGRAM, IN A SANDBOX (cutbox-rows.mjs): the forced cells as the released guide's own fill.sh prints them over the translation 3e2b7b9062b91ddf… (all of the seat's roots in one cut). By AI agents, Wed Nov 11 2026. No macro, syntax, notation, axiom, sorry.
-/
import Derived.Test.YtdofonjbnacmkaaChecked
import GoSem.Claim
import GoSem.ClaimJoined
import GoSem.ClaimMapViews
import Derived.JoinedTies
import Derived.KernelRfl
namespace Go.Proofs.Ytdofonjbnacmkaa
/- THE CELL 'sum', in the pinned program and in every row, IS THE sha256 OF THE DUMP (.gsa) THAT YtdofonjbnacmkaaProg.lean LOADS. Nothing in Lean hashes anything: it is a label: what it is worth is what the hold of that sum in a sandbox is worth. -/
noncomputable def Try.pinned : Pinned := { name := "ytdofonjbnacmkaa", sum := "3e2b7b9062b91ddf560d3cb30d3452da203f9d55bff8e5a1a1281e2cf4301adf", checked := Try.checked }
namespace Rows
def none {H : Type} : Left H := { results := [], args := [] }

/-- 'lockwrightlaw.PolyChecks': WHATEVER THE INPUT: true; the input reads as it did. -/
def polyChecksSpec : ChangeSpec := { name := "polyChecks", fn := fun _ => fun
  | [d1, d2] => { results := [.lit (.bool true)], args := [d1, d2] }
  | _ => none }
def polyChecksRow : OpenClaim := { program := "ytdofonjbnacmkaa", sum := "3e2b7b9062b91ddf560d3cb30d3452da203f9d55bff8e5a1a1281e2cf4301adf", func := "lockwright/lockwrightlaw.PolyChecks", spec := "polyChecks", unfollowed := true, recurses := true, apart := false }
def PolyChecksSaid : Prop := polyChecksRow.holds Try.pinned (OpenSpec.ofChange polyChecksSpec)

/-- ITS FALSE NEIGHBOUR: 'it returns false'. Refute it at one input. -/
def polyChecksWrong : ChangeSpec := { name := "polyChecks", fn := fun _ => fun
  | [d1, d2] => { results := [.lit (.bool false)], args := [d1, d2] }
  | _ => none }
def PolyChecksWrongFalsely : Prop := polyChecksRow.holds Try.pinned (OpenSpec.ofChange polyChecksWrong)

/-- 'lockwrightlaw.PolyAts': WHATEVER THE INPUT: true; the input reads as it did. -/
def polyAtsSpec : ChangeSpec := { name := "polyAts", fn := fun _ => fun
  | [d1, d2, d3] => { results := [.lit (.bool true)], args := [d1, d2, d3] }
  | _ => none }
def polyAtsRow : OpenClaim := { program := "ytdofonjbnacmkaa", sum := "3e2b7b9062b91ddf560d3cb30d3452da203f9d55bff8e5a1a1281e2cf4301adf", func := "lockwright/lockwrightlaw.PolyAts", spec := "polyAts", unfollowed := true, recurses := true, apart := false }
def PolyAtsSaid : Prop := polyAtsRow.holds Try.pinned (OpenSpec.ofChange polyAtsSpec)

/-- ITS FALSE NEIGHBOUR: 'it returns false'. Refute it at one input. -/
def polyAtsWrong : ChangeSpec := { name := "polyAts", fn := fun _ => fun
  | [d1, d2, d3] => { results := [.lit (.bool false)], args := [d1, d2, d3] }
  | _ => none }
def PolyAtsWrongFalsely : Prop := polyAtsRow.holds Try.pinned (OpenSpec.ofChange polyAtsWrong)

/-- 'lockwrightlaw.PolyAdds': WHATEVER THE INPUT: true; the input reads as it did. -/
def polyAddsSpec : ChangeSpec := { name := "polyAdds", fn := fun _ => fun
  | [d1, d2, d3] => { results := [.lit (.bool true)], args := [d1, d2, d3] }
  | _ => none }
def polyAddsRow : OpenClaim := { program := "ytdofonjbnacmkaa", sum := "3e2b7b9062b91ddf560d3cb30d3452da203f9d55bff8e5a1a1281e2cf4301adf", func := "lockwright/lockwrightlaw.PolyAdds", spec := "polyAdds", unfollowed := true, recurses := true, apart := false }
def PolyAddsSaid : Prop := polyAddsRow.holds Try.pinned (OpenSpec.ofChange polyAddsSpec)

/-- ITS FALSE NEIGHBOUR: 'it returns false'. Refute it at one input. -/
def polyAddsWrong : ChangeSpec := { name := "polyAdds", fn := fun _ => fun
  | [d1, d2, d3] => { results := [.lit (.bool false)], args := [d1, d2, d3] }
  | _ => none }
def PolyAddsWrongFalsely : Prop := polyAddsRow.holds Try.pinned (OpenSpec.ofChange polyAddsWrong)

/-- 'lockwrightlaw.PolyMuls': WHATEVER THE INPUT: true; the input reads as it did. -/
def polyMulsSpec : ChangeSpec := { name := "polyMuls", fn := fun _ => fun
  | [d1, d2, d3] => { results := [.lit (.bool true)], args := [d1, d2, d3] }
  | _ => none }
def polyMulsRow : OpenClaim := { program := "ytdofonjbnacmkaa", sum := "3e2b7b9062b91ddf560d3cb30d3452da203f9d55bff8e5a1a1281e2cf4301adf", func := "lockwright/lockwrightlaw.PolyMuls", spec := "polyMuls", unfollowed := true, recurses := true, apart := false }
def PolyMulsSaid : Prop := polyMulsRow.holds Try.pinned (OpenSpec.ofChange polyMulsSpec)

/-- ITS FALSE NEIGHBOUR: 'it returns false'. Refute it at one input. -/
def polyMulsWrong : ChangeSpec := { name := "polyMuls", fn := fun _ => fun
  | [d1, d2, d3] => { results := [.lit (.bool false)], args := [d1, d2, d3] }
  | _ => none }
def PolyMulsWrongFalsely : Prop := polyMulsRow.holds Try.pinned (OpenSpec.ofChange polyMulsWrong)

/-- 'lockwrightlaw.PolyThrough': WHATEVER THE INPUT: true; the input reads as it did. -/
def polyThroughSpec : ChangeSpec := { name := "polyThrough", fn := fun _ => fun
  | [d1, d2] => { results := [.lit (.bool true)], args := [d1, d2] }
  | _ => none }
def polyThroughRow : OpenClaim := { program := "ytdofonjbnacmkaa", sum := "3e2b7b9062b91ddf560d3cb30d3452da203f9d55bff8e5a1a1281e2cf4301adf", func := "lockwright/lockwrightlaw.PolyThrough", spec := "polyThrough", unfollowed := true, recurses := true, apart := false }
def PolyThroughSaid : Prop := polyThroughRow.holds Try.pinned (OpenSpec.ofChange polyThroughSpec)

/-- ITS FALSE NEIGHBOUR: 'it returns false'. Refute it at one input. -/
def polyThroughWrong : ChangeSpec := { name := "polyThrough", fn := fun _ => fun
  | [d1, d2] => { results := [.lit (.bool false)], args := [d1, d2] }
  | _ => none }
def PolyThroughWrongFalsely : Prop := polyThroughRow.holds Try.pinned (OpenSpec.ofChange polyThroughWrong)

/-- 'lockwrightlaw.PolyDivs': WHATEVER THE INPUT: true; the input reads as it did. -/
def polyDivsSpec : ChangeSpec := { name := "polyDivs", fn := fun _ => fun
  | [d1, d2, d3] => { results := [.lit (.bool true)], args := [d1, d2, d3] }
  | _ => none }
def polyDivsRow : OpenClaim := { program := "ytdofonjbnacmkaa", sum := "3e2b7b9062b91ddf560d3cb30d3452da203f9d55bff8e5a1a1281e2cf4301adf", func := "lockwright/lockwrightlaw.PolyDivs", spec := "polyDivs", unfollowed := true, recurses := true, apart := false }
def PolyDivsSaid : Prop := polyDivsRow.holds Try.pinned (OpenSpec.ofChange polyDivsSpec)

/-- ITS FALSE NEIGHBOUR: 'it returns false'. Refute it at one input. -/
def polyDivsWrong : ChangeSpec := { name := "polyDivs", fn := fun _ => fun
  | [d1, d2, d3] => { results := [.lit (.bool false)], args := [d1, d2, d3] }
  | _ => none }
def PolyDivsWrongFalsely : Prop := polyDivsRow.holds Try.pinned (OpenSpec.ofChange polyDivsWrong)

/-- 'lockwrightlaw.PolyGcds': WHATEVER THE INPUT: true; the input reads as it did. -/
def polyGcdsSpec : ChangeSpec := { name := "polyGcds", fn := fun _ => fun
  | [d1, d2, d3] => { results := [.lit (.bool true)], args := [d1, d2, d3] }
  | _ => none }
def polyGcdsRow : OpenClaim := { program := "ytdofonjbnacmkaa", sum := "3e2b7b9062b91ddf560d3cb30d3452da203f9d55bff8e5a1a1281e2cf4301adf", func := "lockwright/lockwrightlaw.PolyGcds", spec := "polyGcds", unfollowed := true, recurses := true, apart := false }
def PolyGcdsSaid : Prop := polyGcdsRow.holds Try.pinned (OpenSpec.ofChange polyGcdsSpec)

/-- ITS FALSE NEIGHBOUR: 'it returns false'. Refute it at one input. -/
def polyGcdsWrong : ChangeSpec := { name := "polyGcds", fn := fun _ => fun
  | [d1, d2, d3] => { results := [.lit (.bool false)], args := [d1, d2, d3] }
  | _ => none }
def PolyGcdsWrongFalsely : Prop := polyGcdsRow.holds Try.pinned (OpenSpec.ofChange polyGcdsWrong)

/-- 'lockwrightlaw.FieldChecks': WHATEVER THE INPUT: true; the input reads as it did. -/
def fieldChecksSpec : ChangeSpec := { name := "fieldChecks", fn := fun _ => fun
  | [d1, d2] => { results := [.lit (.bool true)], args := [d1, d2] }
  | _ => none }
def fieldChecksRow : OpenClaim := { program := "ytdofonjbnacmkaa", sum := "3e2b7b9062b91ddf560d3cb30d3452da203f9d55bff8e5a1a1281e2cf4301adf", func := "lockwright/lockwrightlaw.FieldChecks", spec := "fieldChecks", unfollowed := true, recurses := true, apart := false }
def FieldChecksSaid : Prop := fieldChecksRow.holds Try.pinned (OpenSpec.ofChange fieldChecksSpec)

/-- ITS FALSE NEIGHBOUR: 'it returns false'. Refute it at one input. -/
def fieldChecksWrong : ChangeSpec := { name := "fieldChecks", fn := fun _ => fun
  | [d1, d2] => { results := [.lit (.bool false)], args := [d1, d2] }
  | _ => none }
def FieldChecksWrongFalsely : Prop := fieldChecksRow.holds Try.pinned (OpenSpec.ofChange fieldChecksWrong)

/-- 'lockwrightlaw.FieldAdds': WHATEVER THE INPUT: true; the input reads as it did. -/
def fieldAddsSpec : ChangeSpec := { name := "fieldAdds", fn := fun _ => fun
  | [d1, d2, d3, d4] => { results := [.lit (.bool true)], args := [d1, d2, d3, d4] }
  | _ => none }
def fieldAddsRow : OpenClaim := { program := "ytdofonjbnacmkaa", sum := "3e2b7b9062b91ddf560d3cb30d3452da203f9d55bff8e5a1a1281e2cf4301adf", func := "lockwright/lockwrightlaw.FieldAdds", spec := "fieldAdds", unfollowed := true, recurses := true, apart := false }
def FieldAddsSaid : Prop := fieldAddsRow.holds Try.pinned (OpenSpec.ofChange fieldAddsSpec)

/-- ITS FALSE NEIGHBOUR: 'it returns false'. Refute it at one input. -/
def fieldAddsWrong : ChangeSpec := { name := "fieldAdds", fn := fun _ => fun
  | [d1, d2, d3, d4] => { results := [.lit (.bool false)], args := [d1, d2, d3, d4] }
  | _ => none }
def FieldAddsWrongFalsely : Prop := fieldAddsRow.holds Try.pinned (OpenSpec.ofChange fieldAddsWrong)

/-- 'lockwrightlaw.FieldMuls': WHATEVER THE INPUT: true; the input reads as it did. -/
def fieldMulsSpec : ChangeSpec := { name := "fieldMuls", fn := fun _ => fun
  | [d1, d2, d3, d4] => { results := [.lit (.bool true)], args := [d1, d2, d3, d4] }
  | _ => none }
def fieldMulsRow : OpenClaim := { program := "ytdofonjbnacmkaa", sum := "3e2b7b9062b91ddf560d3cb30d3452da203f9d55bff8e5a1a1281e2cf4301adf", func := "lockwright/lockwrightlaw.FieldMuls", spec := "fieldMuls", unfollowed := true, recurses := true, apart := false }
def FieldMulsSaid : Prop := fieldMulsRow.holds Try.pinned (OpenSpec.ofChange fieldMulsSpec)

/-- ITS FALSE NEIGHBOUR: 'it returns false'. Refute it at one input. -/
def fieldMulsWrong : ChangeSpec := { name := "fieldMuls", fn := fun _ => fun
  | [d1, d2, d3, d4] => { results := [.lit (.bool false)], args := [d1, d2, d3, d4] }
  | _ => none }
def FieldMulsWrongFalsely : Prop := fieldMulsRow.holds Try.pinned (OpenSpec.ofChange fieldMulsWrong)

/-- 'lockwrightlaw.FieldInverts': WHATEVER THE INPUT: true; the input reads as it did. -/
def fieldInvertsSpec : ChangeSpec := { name := "fieldInverts", fn := fun _ => fun
  | [d1, d2, d3] => { results := [.lit (.bool true)], args := [d1, d2, d3] }
  | _ => none }
def fieldInvertsRow : OpenClaim := { program := "ytdofonjbnacmkaa", sum := "3e2b7b9062b91ddf560d3cb30d3452da203f9d55bff8e5a1a1281e2cf4301adf", func := "lockwright/lockwrightlaw.FieldInverts", spec := "fieldInverts", unfollowed := true, recurses := true, apart := false }
def FieldInvertsSaid : Prop := fieldInvertsRow.holds Try.pinned (OpenSpec.ofChange fieldInvertsSpec)

/-- ITS FALSE NEIGHBOUR: 'it returns false'. Refute it at one input. -/
def fieldInvertsWrong : ChangeSpec := { name := "fieldInverts", fn := fun _ => fun
  | [d1, d2, d3] => { results := [.lit (.bool false)], args := [d1, d2, d3] }
  | _ => none }
def FieldInvertsWrongFalsely : Prop := fieldInvertsRow.holds Try.pinned (OpenSpec.ofChange fieldInvertsWrong)

/-- 'lockwrightlaw.FieldBases': WHATEVER THE INPUT: true; the input reads as it did. -/
def fieldBasesSpec : ChangeSpec := { name := "fieldBases", fn := fun _ => fun
  | [d1, d2] => { results := [.lit (.bool true)], args := [d1, d2] }
  | _ => none }
def fieldBasesRow : OpenClaim := { program := "ytdofonjbnacmkaa", sum := "3e2b7b9062b91ddf560d3cb30d3452da203f9d55bff8e5a1a1281e2cf4301adf", func := "lockwright/lockwrightlaw.FieldBases", spec := "fieldBases", unfollowed := true, recurses := true, apart := false }
def FieldBasesSaid : Prop := fieldBasesRow.holds Try.pinned (OpenSpec.ofChange fieldBasesSpec)

/-- ITS FALSE NEIGHBOUR: 'it returns false'. Refute it at one input. -/
def fieldBasesWrong : ChangeSpec := { name := "fieldBases", fn := fun _ => fun
  | [d1, d2] => { results := [.lit (.bool false)], args := [d1, d2] }
  | _ => none }
def FieldBasesWrongFalsely : Prop := fieldBasesRow.holds Try.pinned (OpenSpec.ofChange fieldBasesWrong)

/- THE SECOND FORM. 'bulk': how many values and letters a reading holds, each counted each time it is reached (what is shared counts as often as it is met; a slice's spare places count too). A statement '..UptoSaid' is the law's where the arguments, and the package variables that the reading takes, are together of bulk at most 1048576: NARROWER than '..Said'. Prove '..Said' where nothing that the law and all that it calls make is longer than what came in: it says more and counts as full. Else prove '..UptoSaid'. A law counts once. -/
mutual
def uptoBulk {H : Type} : DataW H → Nat
  | .lit (.string bytes) => bytes.length + 1
  | .lit _ => 1
  | .nil => 1
  | .ptr d => uptoBulk d + 1
  | .slice elems spare => uptoBulkAll elems + uptoBulkAll spare + 1
  | .agg parts => uptoBulkAll parts + 1
  | .iface _ d => uptoBulk d + 1
  | .map entries => uptoBulkEntries entries + 1
  | .held _ => 1
def uptoBulkAll {H : Type} : List (DataW H) → Nat
  | [] => 0
  | d :: r => uptoBulk d + uptoBulkAll r
def uptoBulkEntries {H : Type} : List (Lit × DataW H) → Nat
  | [] => 0
  | x :: r => uptoBulkEntry x + uptoBulkEntries r
def uptoBulkEntry {H : Type} : Lit × DataW H → Nat
  | (.string bytes, d) => bytes.length + uptoBulk d + 1
  | (_, d) => uptoBulk d + 1
 end
def uptoSmall : (H : Type) → List (DataW H) → Bool := fun _ ds => decide (uptoBulkAll ds ≤ 1048576)
def OpenSpec.upto (s : _root_.Go.ChangeSpec) : _root_.Go.OpenSpec := { _root_.Go.OpenSpec.ofChange s with cond := some uptoSmall }

/-- 'lockwrightlaw.PolyChecks', WHERE WHAT IT READS IS OF BULK AT MOST 1048576: true; the input reads as it did. -/
def polyChecksUptoRow : OpenClaim := { program := "ytdofonjbnacmkaa", sum := "3e2b7b9062b91ddf560d3cb30d3452da203f9d55bff8e5a1a1281e2cf4301adf", func := "lockwright/lockwrightlaw.PolyChecks", spec := "polyChecks", unfollowed := true, recurses := true, apart := false, narrowed := true }
def PolyChecksUptoSaid : Prop := polyChecksUptoRow.holds Try.pinned (OpenSpec.upto polyChecksSpec)

/-- 'lockwrightlaw.PolyAts', WHERE WHAT IT READS IS OF BULK AT MOST 1048576: true; the input reads as it did. -/
def polyAtsUptoRow : OpenClaim := { program := "ytdofonjbnacmkaa", sum := "3e2b7b9062b91ddf560d3cb30d3452da203f9d55bff8e5a1a1281e2cf4301adf", func := "lockwright/lockwrightlaw.PolyAts", spec := "polyAts", unfollowed := true, recurses := true, apart := false, narrowed := true }
def PolyAtsUptoSaid : Prop := polyAtsUptoRow.holds Try.pinned (OpenSpec.upto polyAtsSpec)

/-- 'lockwrightlaw.PolyAdds', WHERE WHAT IT READS IS OF BULK AT MOST 1048576: true; the input reads as it did. -/
def polyAddsUptoRow : OpenClaim := { program := "ytdofonjbnacmkaa", sum := "3e2b7b9062b91ddf560d3cb30d3452da203f9d55bff8e5a1a1281e2cf4301adf", func := "lockwright/lockwrightlaw.PolyAdds", spec := "polyAdds", unfollowed := true, recurses := true, apart := false, narrowed := true }
def PolyAddsUptoSaid : Prop := polyAddsUptoRow.holds Try.pinned (OpenSpec.upto polyAddsSpec)

/-- 'lockwrightlaw.PolyMuls', WHERE WHAT IT READS IS OF BULK AT MOST 1048576: true; the input reads as it did. -/
def polyMulsUptoRow : OpenClaim := { program := "ytdofonjbnacmkaa", sum := "3e2b7b9062b91ddf560d3cb30d3452da203f9d55bff8e5a1a1281e2cf4301adf", func := "lockwright/lockwrightlaw.PolyMuls", spec := "polyMuls", unfollowed := true, recurses := true, apart := false, narrowed := true }
def PolyMulsUptoSaid : Prop := polyMulsUptoRow.holds Try.pinned (OpenSpec.upto polyMulsSpec)

/-- 'lockwrightlaw.PolyThrough', WHERE WHAT IT READS IS OF BULK AT MOST 1048576: true; the input reads as it did. -/
def polyThroughUptoRow : OpenClaim := { program := "ytdofonjbnacmkaa", sum := "3e2b7b9062b91ddf560d3cb30d3452da203f9d55bff8e5a1a1281e2cf4301adf", func := "lockwright/lockwrightlaw.PolyThrough", spec := "polyThrough", unfollowed := true, recurses := true, apart := false, narrowed := true }
def PolyThroughUptoSaid : Prop := polyThroughUptoRow.holds Try.pinned (OpenSpec.upto polyThroughSpec)

/-- 'lockwrightlaw.PolyDivs', WHERE WHAT IT READS IS OF BULK AT MOST 1048576: true; the input reads as it did. -/
def polyDivsUptoRow : OpenClaim := { program := "ytdofonjbnacmkaa", sum := "3e2b7b9062b91ddf560d3cb30d3452da203f9d55bff8e5a1a1281e2cf4301adf", func := "lockwright/lockwrightlaw.PolyDivs", spec := "polyDivs", unfollowed := true, recurses := true, apart := false, narrowed := true }
def PolyDivsUptoSaid : Prop := polyDivsUptoRow.holds Try.pinned (OpenSpec.upto polyDivsSpec)

/-- 'lockwrightlaw.PolyGcds', WHERE WHAT IT READS IS OF BULK AT MOST 1048576: true; the input reads as it did. -/
def polyGcdsUptoRow : OpenClaim := { program := "ytdofonjbnacmkaa", sum := "3e2b7b9062b91ddf560d3cb30d3452da203f9d55bff8e5a1a1281e2cf4301adf", func := "lockwright/lockwrightlaw.PolyGcds", spec := "polyGcds", unfollowed := true, recurses := true, apart := false, narrowed := true }
def PolyGcdsUptoSaid : Prop := polyGcdsUptoRow.holds Try.pinned (OpenSpec.upto polyGcdsSpec)

/-- 'lockwrightlaw.FieldChecks', WHERE WHAT IT READS IS OF BULK AT MOST 1048576: true; the input reads as it did. -/
def fieldChecksUptoRow : OpenClaim := { program := "ytdofonjbnacmkaa", sum := "3e2b7b9062b91ddf560d3cb30d3452da203f9d55bff8e5a1a1281e2cf4301adf", func := "lockwright/lockwrightlaw.FieldChecks", spec := "fieldChecks", unfollowed := true, recurses := true, apart := false, narrowed := true }
def FieldChecksUptoSaid : Prop := fieldChecksUptoRow.holds Try.pinned (OpenSpec.upto fieldChecksSpec)

/-- 'lockwrightlaw.FieldAdds', WHERE WHAT IT READS IS OF BULK AT MOST 1048576: true; the input reads as it did. -/
def fieldAddsUptoRow : OpenClaim := { program := "ytdofonjbnacmkaa", sum := "3e2b7b9062b91ddf560d3cb30d3452da203f9d55bff8e5a1a1281e2cf4301adf", func := "lockwright/lockwrightlaw.FieldAdds", spec := "fieldAdds", unfollowed := true, recurses := true, apart := false, narrowed := true }
def FieldAddsUptoSaid : Prop := fieldAddsUptoRow.holds Try.pinned (OpenSpec.upto fieldAddsSpec)

/-- 'lockwrightlaw.FieldMuls', WHERE WHAT IT READS IS OF BULK AT MOST 1048576: true; the input reads as it did. -/
def fieldMulsUptoRow : OpenClaim := { program := "ytdofonjbnacmkaa", sum := "3e2b7b9062b91ddf560d3cb30d3452da203f9d55bff8e5a1a1281e2cf4301adf", func := "lockwright/lockwrightlaw.FieldMuls", spec := "fieldMuls", unfollowed := true, recurses := true, apart := false, narrowed := true }
def FieldMulsUptoSaid : Prop := fieldMulsUptoRow.holds Try.pinned (OpenSpec.upto fieldMulsSpec)

/-- 'lockwrightlaw.FieldInverts', WHERE WHAT IT READS IS OF BULK AT MOST 1048576: true; the input reads as it did. -/
def fieldInvertsUptoRow : OpenClaim := { program := "ytdofonjbnacmkaa", sum := "3e2b7b9062b91ddf560d3cb30d3452da203f9d55bff8e5a1a1281e2cf4301adf", func := "lockwright/lockwrightlaw.FieldInverts", spec := "fieldInverts", unfollowed := true, recurses := true, apart := false, narrowed := true }
def FieldInvertsUptoSaid : Prop := fieldInvertsUptoRow.holds Try.pinned (OpenSpec.upto fieldInvertsSpec)

/-- 'lockwrightlaw.FieldBases', WHERE WHAT IT READS IS OF BULK AT MOST 1048576: true; the input reads as it did. -/
def fieldBasesUptoRow : OpenClaim := { program := "ytdofonjbnacmkaa", sum := "3e2b7b9062b91ddf560d3cb30d3452da203f9d55bff8e5a1a1281e2cf4301adf", func := "lockwright/lockwrightlaw.FieldBases", spec := "fieldBases", unfollowed := true, recurses := true, apart := false, narrowed := true }
def FieldBasesUptoSaid : Prop := fieldBasesUptoRow.holds Try.pinned (OpenSpec.upto fieldBasesSpec)

end Rows
end Go.Proofs.Ytdofonjbnacmkaa
