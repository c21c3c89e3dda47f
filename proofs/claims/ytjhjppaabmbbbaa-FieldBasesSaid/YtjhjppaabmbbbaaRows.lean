/-
  No cell of these rows narrows 'for every input' (looked for: loops, veiled, ifaces, maps, wideKeys, modest, calm, conditions, laid).
  DERIVED. THE GIVEN ROWS OF THIS SEAT. 12 by the template 'for every input the law returns true; each argument reads behind the call as it read before'; 0 by the template 'total and deterministic' (their statements: YtjhjppaabmbbbaaTotals.lean).
  GIVEN WITH THE SEED: the statements are not yours to turn. If you find one false, say at which input.
  Laid BY PROGRAM, IN A SANDBOX (cutbox-rows.mjs): the forced cells as the released guide's own fill.sh prints them over the translation 5e34b6162c0ddec5… (all of the seat's roots in one cut). By AI agents, Wed Nov 11 2026. No macro, syntax, notation, axiom, sorry.
-/
import Derived.Test.YtjhjppaabmbbbaaChecked
import GoSem.Claim
import GoSem.ClaimJoined
import GoSem.ClaimMapViews
import Derived.JoinedTies
import Derived.KernelRfl
namespace Go.Proofs.Ytjhjppaabmbbbaa
/- THE CELL 'sum', in the pinned program and in every row, IS THE sha256 OF THE DUMP (.gsa) THAT YtjhjppaabmbbbaaProg.lean LOADS. Nothing in Lean hashes anything: it is a label: what it is worth is what the hold of that sum in a sandbox is worth. -/
noncomputable def Try.pinned : Pinned := { name := "ytjhjppaabmbbbaa", sum := "5e34b6162c0ddec5ab8a48c4c2fb048c4bb47cac1357c3d5ba9315974b1c08c5", checked := Try.checked }
namespace Rows
def none {H : Type} : Left H := { results := [], args := [] }

/-- 'lockwrightlaw.ShiftRuns': WHATEVER THE INPUT: true; the input reads as it did. -/
def shiftRunsSpec : ChangeSpec := { name := "shiftRuns", fn := fun _ => fun
  | [d1, d2, d3] => { results := [.lit (.bool true)], args := [d1, d2, d3] }
  | _ => none }
def shiftRunsRow : OpenClaim := { program := "ytjhjppaabmbbbaa", sum := "5e34b6162c0ddec5ab8a48c4c2fb048c4bb47cac1357c3d5ba9315974b1c08c5", func := "lockwright/lockwrightlaw.ShiftRuns", spec := "shiftRuns", apart := false }
def ShiftRunsSaid : Prop := shiftRunsRow.holds Try.pinned (OpenSpec.ofChange shiftRunsSpec)

/-- ITS FALSE NEIGHBOUR: 'it returns false'. Refute it at one input. -/
def shiftRunsWrong : ChangeSpec := { name := "shiftRuns", fn := fun _ => fun
  | [d1, d2, d3] => { results := [.lit (.bool false)], args := [d1, d2, d3] }
  | _ => none }
def ShiftRunsWrongFalsely : Prop := shiftRunsRow.holds Try.pinned (OpenSpec.ofChange shiftRunsWrong)

/-- 'lockwrightlaw.ShiftShort': WHATEVER THE INPUT: true; the input reads as it did. -/
def shiftShortSpec : ChangeSpec := { name := "shiftShort", fn := fun _ => fun
  | [d] => { results := [.lit (.bool true)], args := [d] }
  | _ => none }
def shiftShortRow : OpenClaim := { program := "ytjhjppaabmbbbaa", sum := "5e34b6162c0ddec5ab8a48c4c2fb048c4bb47cac1357c3d5ba9315974b1c08c5", func := "lockwright/lockwrightlaw.ShiftShort", spec := "shiftShort", apart := false }
def ShiftShortSaid : Prop := shiftShortRow.holds Try.pinned (OpenSpec.ofChange shiftShortSpec)

/-- ITS FALSE NEIGHBOUR: 'it returns false'. Refute it at one input. -/
def shiftShortWrong : ChangeSpec := { name := "shiftShort", fn := fun _ => fun
  | [d] => { results := [.lit (.bool false)], args := [d] }
  | _ => none }
def ShiftShortWrongFalsely : Prop := shiftShortRow.holds Try.pinned (OpenSpec.ofChange shiftShortWrong)

/-- 'lockwrightlaw.TreeRoots': WHATEVER THE INPUT: true; the input reads as it did. -/
def treeRootsSpec : ChangeSpec := { name := "treeRoots", fn := fun _ => fun
  | [d] => { results := [.lit (.bool true)], args := [d] }
  | _ => none }
def treeRootsRow : OpenClaim := { program := "ytjhjppaabmbbbaa", sum := "5e34b6162c0ddec5ab8a48c4c2fb048c4bb47cac1357c3d5ba9315974b1c08c5", func := "lockwright/lockwrightlaw.TreeRoots", spec := "treeRoots", unfollowed := true, recurses := true, apart := false }
def TreeRootsSaid : Prop := treeRootsRow.holds Try.pinned (OpenSpec.ofChange treeRootsSpec)

/-- ITS FALSE NEIGHBOUR: 'it returns false'. Refute it at one input. -/
def treeRootsWrong : ChangeSpec := { name := "treeRoots", fn := fun _ => fun
  | [d] => { results := [.lit (.bool false)], args := [d] }
  | _ => none }
def TreeRootsWrongFalsely : Prop := treeRootsRow.holds Try.pinned (OpenSpec.ofChange treeRootsWrong)

/-- 'lockwrightlaw.TreeChecks': WHATEVER THE INPUT: true; the input reads as it did. -/
def treeChecksSpec : ChangeSpec := { name := "treeChecks", fn := fun _ => fun
  | [d1, d2, d3, d4, d5] => { results := [.lit (.bool true)], args := [d1, d2, d3, d4, d5] }
  | _ => none }
def treeChecksRow : OpenClaim := { program := "ytjhjppaabmbbbaa", sum := "5e34b6162c0ddec5ab8a48c4c2fb048c4bb47cac1357c3d5ba9315974b1c08c5", func := "lockwright/lockwrightlaw.TreeChecks", spec := "treeChecks", unfollowed := true, recurses := true, apart := false }
def TreeChecksSaid : Prop := treeChecksRow.holds Try.pinned (OpenSpec.ofChange treeChecksSpec)

/-- ITS FALSE NEIGHBOUR: 'it returns false'. Refute it at one input. -/
def treeChecksWrong : ChangeSpec := { name := "treeChecks", fn := fun _ => fun
  | [d1, d2, d3, d4, d5] => { results := [.lit (.bool false)], args := [d1, d2, d3, d4, d5] }
  | _ => none }
def TreeChecksWrongFalsely : Prop := treeChecksRow.holds Try.pinned (OpenSpec.ofChange treeChecksWrong)

/-- 'lockwrightlaw.CurveTimes': WHATEVER THE INPUT: true; the input reads as it did. -/
def curveTimesSpec : ChangeSpec := { name := "curveTimes", fn := fun _ => fun
  | [d1, d2, d3] => { results := [.lit (.bool true)], args := [d1, d2, d3] }
  | _ => none }
def curveTimesRow : OpenClaim := { program := "ytjhjppaabmbbbaa", sum := "5e34b6162c0ddec5ab8a48c4c2fb048c4bb47cac1357c3d5ba9315974b1c08c5", func := "lockwright/lockwrightlaw.CurveTimes", spec := "curveTimes", unfollowed := true, recurses := true, apart := false }
def CurveTimesSaid : Prop := curveTimesRow.holds Try.pinned (OpenSpec.ofChange curveTimesSpec)

/-- ITS FALSE NEIGHBOUR: 'it returns false'. Refute it at one input. -/
def curveTimesWrong : ChangeSpec := { name := "curveTimes", fn := fun _ => fun
  | [d1, d2, d3] => { results := [.lit (.bool false)], args := [d1, d2, d3] }
  | _ => none }
def CurveTimesWrongFalsely : Prop := curveTimesRow.holds Try.pinned (OpenSpec.ofChange curveTimesWrong)

/-- 'lockwrightlaw.TreeTells': WHATEVER THE INPUT: true; the input reads as it did. -/
def treeTellsSpec : ChangeSpec := { name := "treeTells", fn := fun _ => fun
  | [d1, d2] => { results := [.lit (.bool true)], args := [d1, d2] }
  | _ => none }
def treeTellsRow : OpenClaim := { program := "ytjhjppaabmbbbaa", sum := "5e34b6162c0ddec5ab8a48c4c2fb048c4bb47cac1357c3d5ba9315974b1c08c5", func := "lockwright/lockwrightlaw.TreeTells", spec := "treeTells", unfollowed := true, recurses := true, apart := false }
def TreeTellsSaid : Prop := treeTellsRow.holds Try.pinned (OpenSpec.ofChange treeTellsSpec)

/-- ITS FALSE NEIGHBOUR: 'it returns false'. Refute it at one input. -/
def treeTellsWrong : ChangeSpec := { name := "treeTells", fn := fun _ => fun
  | [d1, d2] => { results := [.lit (.bool false)], args := [d1, d2] }
  | _ => none }
def TreeTellsWrongFalsely : Prop := treeTellsRow.holds Try.pinned (OpenSpec.ofChange treeTellsWrong)

/-- 'lockwrightlaw.TreeFinds': WHATEVER THE INPUT: true; the input reads as it did. -/
def treeFindsSpec : ChangeSpec := { name := "treeFinds", fn := fun _ => fun
  | [d1, d2, d3, d4, d5, d6] => { results := [.lit (.bool true)], args := [d1, d2, d3, d4, d5, d6] }
  | _ => none }
def treeFindsRow : OpenClaim := { program := "ytjhjppaabmbbbaa", sum := "5e34b6162c0ddec5ab8a48c4c2fb048c4bb47cac1357c3d5ba9315974b1c08c5", func := "lockwright/lockwrightlaw.TreeFinds", spec := "treeFinds", unfollowed := true, recurses := true, apart := false }
def TreeFindsSaid : Prop := treeFindsRow.holds Try.pinned (OpenSpec.ofChange treeFindsSpec)

/-- ITS FALSE NEIGHBOUR: 'it returns false'. Refute it at one input. -/
def treeFindsWrong : ChangeSpec := { name := "treeFinds", fn := fun _ => fun
  | [d1, d2, d3, d4, d5, d6] => { results := [.lit (.bool false)], args := [d1, d2, d3, d4, d5, d6] }
  | _ => none }
def TreeFindsWrongFalsely : Prop := treeFindsRow.holds Try.pinned (OpenSpec.ofChange treeFindsWrong)

/-- 'lockwrightlaw.PolyThrough': WHATEVER THE INPUT: true; the input reads as it did. -/
def polyThroughSpec : ChangeSpec := { name := "polyThrough", fn := fun _ => fun
  | [d1, d2] => { results := [.lit (.bool true)], args := [d1, d2] }
  | _ => none }
def polyThroughRow : OpenClaim := { program := "ytjhjppaabmbbbaa", sum := "5e34b6162c0ddec5ab8a48c4c2fb048c4bb47cac1357c3d5ba9315974b1c08c5", func := "lockwright/lockwrightlaw.PolyThrough", spec := "polyThrough", unfollowed := true, recurses := true, apart := false }
def PolyThroughSaid : Prop := polyThroughRow.holds Try.pinned (OpenSpec.ofChange polyThroughSpec)

/-- ITS FALSE NEIGHBOUR: 'it returns false'. Refute it at one input. -/
def polyThroughWrong : ChangeSpec := { name := "polyThrough", fn := fun _ => fun
  | [d1, d2] => { results := [.lit (.bool false)], args := [d1, d2] }
  | _ => none }
def PolyThroughWrongFalsely : Prop := polyThroughRow.holds Try.pinned (OpenSpec.ofChange polyThroughWrong)

/-- 'lockwrightlaw.ShareJoins': WHATEVER THE INPUT: true; the input reads as it did. -/
def shareJoinsSpec : ChangeSpec := { name := "shareJoins", fn := fun _ => fun
  | [d1, d2] => { results := [.lit (.bool true)], args := [d1, d2] }
  | _ => none }
def shareJoinsRow : OpenClaim := { program := "ytjhjppaabmbbbaa", sum := "5e34b6162c0ddec5ab8a48c4c2fb048c4bb47cac1357c3d5ba9315974b1c08c5", func := "lockwright/lockwrightlaw.ShareJoins", spec := "shareJoins", unfollowed := true, recurses := true, apart := false }
def ShareJoinsSaid : Prop := shareJoinsRow.holds Try.pinned (OpenSpec.ofChange shareJoinsSpec)

/-- ITS FALSE NEIGHBOUR: 'it returns false'. Refute it at one input. -/
def shareJoinsWrong : ChangeSpec := { name := "shareJoins", fn := fun _ => fun
  | [d1, d2] => { results := [.lit (.bool false)], args := [d1, d2] }
  | _ => none }
def ShareJoinsWrongFalsely : Prop := shareJoinsRow.holds Try.pinned (OpenSpec.ofChange shareJoinsWrong)

/-- 'lockwrightlaw.ShareExplains': WHATEVER THE INPUT: true; the input reads as it did. -/
def shareExplainsSpec : ChangeSpec := { name := "shareExplains", fn := fun _ => fun
  | [d1, d2, d3] => { results := [.lit (.bool true)], args := [d1, d2, d3] }
  | _ => none }
def shareExplainsRow : OpenClaim := { program := "ytjhjppaabmbbbaa", sum := "5e34b6162c0ddec5ab8a48c4c2fb048c4bb47cac1357c3d5ba9315974b1c08c5", func := "lockwright/lockwrightlaw.ShareExplains", spec := "shareExplains", unfollowed := true, recurses := true, apart := false }
def ShareExplainsSaid : Prop := shareExplainsRow.holds Try.pinned (OpenSpec.ofChange shareExplainsSpec)

/-- ITS FALSE NEIGHBOUR: 'it returns false'. Refute it at one input. -/
def shareExplainsWrong : ChangeSpec := { name := "shareExplains", fn := fun _ => fun
  | [d1, d2, d3] => { results := [.lit (.bool false)], args := [d1, d2, d3] }
  | _ => none }
def ShareExplainsWrongFalsely : Prop := shareExplainsRow.holds Try.pinned (OpenSpec.ofChange shareExplainsWrong)

/-- 'lockwrightlaw.FieldInverts': WHATEVER THE INPUT: true; the input reads as it did. -/
def fieldInvertsSpec : ChangeSpec := { name := "fieldInverts", fn := fun _ => fun
  | [d1, d2, d3] => { results := [.lit (.bool true)], args := [d1, d2, d3] }
  | _ => none }
def fieldInvertsRow : OpenClaim := { program := "ytjhjppaabmbbbaa", sum := "5e34b6162c0ddec5ab8a48c4c2fb048c4bb47cac1357c3d5ba9315974b1c08c5", func := "lockwright/lockwrightlaw.FieldInverts", spec := "fieldInverts", unfollowed := true, recurses := true, apart := false }
def FieldInvertsSaid : Prop := fieldInvertsRow.holds Try.pinned (OpenSpec.ofChange fieldInvertsSpec)

/-- ITS FALSE NEIGHBOUR: 'it returns false'. Refute it at one input. -/
def fieldInvertsWrong : ChangeSpec := { name := "fieldInverts", fn := fun _ => fun
  | [d1, d2, d3] => { results := [.lit (.bool false)], args := [d1, d2, d3] }
  | _ => none }
def FieldInvertsWrongFalsely : Prop := fieldInvertsRow.holds Try.pinned (OpenSpec.ofChange fieldInvertsWrong)

/-- 'lockwrightlaw.FieldBases': WHATEVER THE INPUT: true; the input reads as it did. -/
def fieldBasesSpec : ChangeSpec := { name := "fieldBases", fn := fun _ => fun
  | [d1, d2] => { results := [.lit (.bool true)], args := [d1, d2] }
  | _ => none }
def fieldBasesRow : OpenClaim := { program := "ytjhjppaabmbbbaa", sum := "5e34b6162c0ddec5ab8a48c4c2fb048c4bb47cac1357c3d5ba9315974b1c08c5", func := "lockwright/lockwrightlaw.FieldBases", spec := "fieldBases", unfollowed := true, recurses := true, apart := false }
def FieldBasesSaid : Prop := fieldBasesRow.holds Try.pinned (OpenSpec.ofChange fieldBasesSpec)

/-- ITS FALSE NEIGHBOUR: 'it returns false'. Refute it at one input. -/
def fieldBasesWrong : ChangeSpec := { name := "fieldBases", fn := fun _ => fun
  | [d1, d2] => { results := [.lit (.bool false)], args := [d1, d2] }
  | _ => none }
def FieldBasesWrongFalsely : Prop := fieldBasesRow.holds Try.pinned (OpenSpec.ofChange fieldBasesWrong)

/- THE SECOND FORM. 'bulk': how many values and letters a reading holds, each counted each time it is reached (what is shared counts as often as it is met; a slice's spare places count too). A statement '..UptoSaid' is the law's where the arguments, and the package variables that the reading takes, are together of bulk at most 1048576: NARROWER than '..Said'. Prove '..Said' where nothing that the law and all that it calls make is longer than what came in: it says more and counts as full. Else prove '..UptoSaid'. A law counts once. -/
mutual
def uptoBulk {H : Type} : DataW H → Nat
  | .lit (.string bytes) => bytes.length + 1
  | .lit _ => 1
  | .nil => 1
  | .ptr d => uptoBulk d + 1
  | .slice elems spare => uptoBulkAll elems + uptoBulkAll spare + 1
  | .agg parts => uptoBulkAll parts + 1
  | .iface _ d => uptoBulk d + 1
  | .map entries => uptoBulkEntries entries + 1
  | .held _ => 1
def uptoBulkAll {H : Type} : List (DataW H) → Nat
  | [] => 0
  | d :: r => uptoBulk d + uptoBulkAll r
def uptoBulkEntries {H : Type} : List (Lit × DataW H) → Nat
  | [] => 0
  | x :: r => uptoBulkEntry x + uptoBulkEntries r
def uptoBulkEntry {H : Type} : Lit × DataW H → Nat
  | (.string bytes, d) => bytes.length + uptoBulk d + 1
  | (_, d) => uptoBulk d + 1
 end
def uptoSmall : (H : Type) → List (DataW H) → Bool := fun _ ds => decide (uptoBulkAll ds ≤ 1048576)
def OpenSpec.upto (s : _root_.Go.ChangeSpec) : _root_.Go.OpenSpec := { _root_.Go.OpenSpec.ofChange s with cond := some uptoSmall }

/-- 'lockwrightlaw.ShiftRuns', WHERE WHAT IT READS IS OF BULK AT MOST 1048576: true; the input reads as it did. -/
def shiftRunsUptoRow : OpenClaim := { program := "ytjhjppaabmbbbaa", sum := "5e34b6162c0ddec5ab8a48c4c2fb048c4bb47cac1357c3d5ba9315974b1c08c5", func := "lockwright/lockwrightlaw.ShiftRuns", spec := "shiftRuns", apart := false, narrowed := true }
def ShiftRunsUptoSaid : Prop := shiftRunsUptoRow.holds Try.pinned (OpenSpec.upto shiftRunsSpec)

/-- 'lockwrightlaw.ShiftShort', WHERE WHAT IT READS IS OF BULK AT MOST 1048576: true; the input reads as it did. -/
def shiftShortUptoRow : OpenClaim := { program := "ytjhjppaabmbbbaa", sum := "5e34b6162c0ddec5ab8a48c4c2fb048c4bb47cac1357c3d5ba9315974b1c08c5", func := "lockwright/lockwrightlaw.ShiftShort", spec := "shiftShort", apart := false, narrowed := true }
def ShiftShortUptoSaid : Prop := shiftShortUptoRow.holds Try.pinned (OpenSpec.upto shiftShortSpec)

/-- 'lockwrightlaw.TreeRoots', WHERE WHAT IT READS IS OF BULK AT MOST 1048576: true; the input reads as it did. -/
def treeRootsUptoRow : OpenClaim := { program := "ytjhjppaabmbbbaa", sum := "5e34b6162c0ddec5ab8a48c4c2fb048c4bb47cac1357c3d5ba9315974b1c08c5", func := "lockwright/lockwrightlaw.TreeRoots", spec := "treeRoots", unfollowed := true, recurses := true, apart := false, narrowed := true }
def TreeRootsUptoSaid : Prop := treeRootsUptoRow.holds Try.pinned (OpenSpec.upto treeRootsSpec)

/-- 'lockwrightlaw.TreeChecks', WHERE WHAT IT READS IS OF BULK AT MOST 1048576: true; the input reads as it did. -/
def treeChecksUptoRow : OpenClaim := { program := "ytjhjppaabmbbbaa", sum := "5e34b6162c0ddec5ab8a48c4c2fb048c4bb47cac1357c3d5ba9315974b1c08c5", func := "lockwright/lockwrightlaw.TreeChecks", spec := "treeChecks", unfollowed := true, recurses := true, apart := false, narrowed := true }
def TreeChecksUptoSaid : Prop := treeChecksUptoRow.holds Try.pinned (OpenSpec.upto treeChecksSpec)

/-- 'lockwrightlaw.CurveTimes', WHERE WHAT IT READS IS OF BULK AT MOST 1048576: true; the input reads as it did. -/
def curveTimesUptoRow : OpenClaim := { program := "ytjhjppaabmbbbaa", sum := "5e34b6162c0ddec5ab8a48c4c2fb048c4bb47cac1357c3d5ba9315974b1c08c5", func := "lockwright/lockwrightlaw.CurveTimes", spec := "curveTimes", unfollowed := true, recurses := true, apart := false, narrowed := true }
def CurveTimesUptoSaid : Prop := curveTimesUptoRow.holds Try.pinned (OpenSpec.upto curveTimesSpec)

/-- 'lockwrightlaw.TreeTells', WHERE WHAT IT READS IS OF BULK AT MOST 1048576: true; the input reads as it did. -/
def treeTellsUptoRow : OpenClaim := { program := "ytjhjppaabmbbbaa", sum := "5e34b6162c0ddec5ab8a48c4c2fb048c4bb47cac1357c3d5ba9315974b1c08c5", func := "lockwright/lockwrightlaw.TreeTells", spec := "treeTells", unfollowed := true, recurses := true, apart := false, narrowed := true }
def TreeTellsUptoSaid : Prop := treeTellsUptoRow.holds Try.pinned (OpenSpec.upto treeTellsSpec)

/-- 'lockwrightlaw.TreeFinds', WHERE WHAT IT READS IS OF BULK AT MOST 1048576: true; the input reads as it did. -/
def treeFindsUptoRow : OpenClaim := { program := "ytjhjppaabmbbbaa", sum := "5e34b6162c0ddec5ab8a48c4c2fb048c4bb47cac1357c3d5ba9315974b1c08c5", func := "lockwright/lockwrightlaw.TreeFinds", spec := "treeFinds", unfollowed := true, recurses := true, apart := false, narrowed := true }
def TreeFindsUptoSaid : Prop := treeFindsUptoRow.holds Try.pinned (OpenSpec.upto treeFindsSpec)

/-- 'lockwrightlaw.PolyThrough', WHERE WHAT IT READS IS OF BULK AT MOST 1048576: true; the input reads as it did. -/
def polyThroughUptoRow : OpenClaim := { program := "ytjhjppaabmbbbaa", sum := "5e34b6162c0ddec5ab8a48c4c2fb048c4bb47cac1357c3d5ba9315974b1c08c5", func := "lockwright/lockwrightlaw.PolyThrough", spec := "polyThrough", unfollowed := true, recurses := true, apart := false, narrowed := true }
def PolyThroughUptoSaid : Prop := polyThroughUptoRow.holds Try.pinned (OpenSpec.upto polyThroughSpec)

/-- 'lockwrightlaw.ShareJoins', WHERE WHAT IT READS IS OF BULK AT MOST 1048576: true; the input reads as it did. -/
def shareJoinsUptoRow : OpenClaim := { program := "ytjhjppaabmbbbaa", sum := "5e34b6162c0ddec5ab8a48c4c2fb048c4bb47cac1357c3d5ba9315974b1c08c5", func := "lockwright/lockwrightlaw.ShareJoins", spec := "shareJoins", unfollowed := true, recurses := true, apart := false, narrowed := true }
def ShareJoinsUptoSaid : Prop := shareJoinsUptoRow.holds Try.pinned (OpenSpec.upto shareJoinsSpec)

/-- 'lockwrightlaw.ShareExplains', WHERE WHAT IT READS IS OF BULK AT MOST 1048576: true; the input reads as it did. -/
def shareExplainsUptoRow : OpenClaim := { program := "ytjhjppaabmbbbaa", sum := "5e34b6162c0ddec5ab8a48c4c2fb048c4bb47cac1357c3d5ba9315974b1c08c5", func := "lockwright/lockwrightlaw.ShareExplains", spec := "shareExplains", unfollowed := true, recurses := true, apart := false, narrowed := true }
def ShareExplainsUptoSaid : Prop := shareExplainsUptoRow.holds Try.pinned (OpenSpec.upto shareExplainsSpec)

/-- 'lockwrightlaw.FieldInverts', WHERE WHAT IT READS IS OF BULK AT MOST 1048576: true; the input reads as it did. -/
def fieldInvertsUptoRow : OpenClaim := { program := "ytjhjppaabmbbbaa", sum := "5e34b6162c0ddec5ab8a48c4c2fb048c4bb47cac1357c3d5ba9315974b1c08c5", func := "lockwright/lockwrightlaw.FieldInverts", spec := "fieldInverts", unfollowed := true, recurses := true, apart := false, narrowed := true }
def FieldInvertsUptoSaid : Prop := fieldInvertsUptoRow.holds Try.pinned (OpenSpec.upto fieldInvertsSpec)

/-- 'lockwrightlaw.FieldBases', WHERE WHAT IT READS IS OF BULK AT MOST 1048576: true; the input reads as it did. -/
def fieldBasesUptoRow : OpenClaim := { program := "ytjhjppaabmbbbaa", sum := "5e34b6162c0ddec5ab8a48c4c2fb048c4bb47cac1357c3d5ba9315974b1c08c5", func := "lockwright/lockwrightlaw.FieldBases", spec := "fieldBases", unfollowed := true, recurses := true, apart := false, narrowed := true }
def FieldBasesUptoSaid : Prop := fieldBasesUptoRow.holds Try.pinned (OpenSpec.upto fieldBasesSpec)

end Rows
end Go.Proofs.Ytjhjppaabmbbbaa
