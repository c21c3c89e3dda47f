/-
  No cell of these rows narrows 'for every input' (looked for: loops, veiled, ifaces, maps, wideKeys, modest, calm, conditions, laid).
  DERIVED. THE GIVEN ROWS OF THIS SEAT. 12 by the template 'for every input the law returns true; each argument reads behind the call as it read before'; 0 by the template 'total and deterministic' (their statements: YtkgfaaabhmcdoaaTotals.lean).
  GIVEN WITH THE SEED: the statements are not yours to turn. If you find one false, say at which input.
  Laid BY PROGRAM, IN A SANDBOX (cutbox-rows.mjs): the forced cells as the released guide's own fill.sh prints them over the translation 16f76f6ef25e2692… (all of the seat's roots in one cut). By AI agents, Wed Nov 11 2026. No macro, syntax, notation, axiom, sorry.
-/
import Derived.Test.YtkgfaaabhmcdoaaChecked
import GoSem.Claim
import GoSem.ClaimJoined
import GoSem.ClaimMapViews
import Derived.JoinedTies
import Derived.KernelRfl
namespace Go.Proofs.Ytkgfaaabhmcdoaa
/- THE CELL 'sum', in the pinned program and in every row, IS THE sha256 OF THE DUMP (.gsa) THAT YtkgfaaabhmcdoaaProg.lean LOADS. Nothing in Lean hashes anything: it is a label: what it is worth is what the hold of that sum in a sandbox is worth. -/
noncomputable def Try.pinned : Pinned := { name := "ytkgfaaabhmcdoaa", sum := "16f76f6ef25e2692920e4286bf61994a767b18001d92327e0f8071f844d36e61", checked := Try.checked }
namespace Rows
def none {H : Type} : Left H := { results := [], args := [] }

/-- 'lockwrightlaw.ShiftRuns': WHATEVER THE INPUT: true; the input reads as it did. -/
def shiftRunsSpec : ChangeSpec := { name := "shiftRuns", fn := fun _ => fun
  | [d1, d2, d3] => { results := [.lit (.bool true)], args := [d1, d2, d3] }
  | _ => none }
def shiftRunsRow : OpenClaim := { program := "ytkgfaaabhmcdoaa", sum := "16f76f6ef25e2692920e4286bf61994a767b18001d92327e0f8071f844d36e61", func := "lockwright/lockwrightlaw.ShiftRuns", spec := "shiftRuns", apart := false }
def ShiftRunsSaid : Prop := shiftRunsRow.holds Try.pinned (OpenSpec.ofChange shiftRunsSpec)

/-- ITS FALSE NEIGHBOUR: 'it returns false'. Refute it at one input. -/
def shiftRunsWrong : ChangeSpec := { name := "shiftRuns", fn := fun _ => fun
  | [d1, d2, d3] => { results := [.lit (.bool false)], args := [d1, d2, d3] }
  | _ => none }
def ShiftRunsWrongFalsely : Prop := shiftRunsRow.holds Try.pinned (OpenSpec.ofChange shiftRunsWrong)

/-- 'lockwrightlaw.ShiftShort': WHATEVER THE INPUT: true; the input reads as it did. -/
def shiftShortSpec : ChangeSpec := { name := "shiftShort", fn := fun _ => fun
  | [d] => { results := [.lit (.bool true)], args := [d] }
  | _ => none }
def shiftShortRow : OpenClaim := { program := "ytkgfaaabhmcdoaa", sum := "16f76f6ef25e2692920e4286bf61994a767b18001d92327e0f8071f844d36e61", func := "lockwright/lockwrightlaw.ShiftShort", spec := "shiftShort", apart := false }
def ShiftShortSaid : Prop := shiftShortRow.holds Try.pinned (OpenSpec.ofChange shiftShortSpec)

/-- ITS FALSE NEIGHBOUR: 'it returns false'. Refute it at one input. -/
def shiftShortWrong : ChangeSpec := { name := "shiftShort", fn := fun _ => fun
  | [d] => { results := [.lit (.bool false)], args := [d] }
  | _ => none }
def ShiftShortWrongFalsely : Prop := shiftShortRow.holds Try.pinned (OpenSpec.ofChange shiftShortWrong)

/-- 'lockwrightlaw.TreeRoots': WHATEVER THE INPUT: true; the input reads as it did. -/
def treeRootsSpec : ChangeSpec := { name := "treeRoots", fn := fun _ => fun
  | [d] => { results := [.lit (.bool true)], args := [d] }
  | _ => none }
def treeRootsRow : OpenClaim := { program := "ytkgfaaabhmcdoaa", sum := "16f76f6ef25e2692920e4286bf61994a767b18001d92327e0f8071f844d36e61", func := "lockwright/lockwrightlaw.TreeRoots", spec := "treeRoots", unfollowed := true, recurses := true, apart := false }
def TreeRootsSaid : Prop := treeRootsRow.holds Try.pinned (OpenSpec.ofChange treeRootsSpec)

/-- ITS FALSE NEIGHBOUR: 'it returns false'. Refute it at one input. -/
def treeRootsWrong : ChangeSpec := { name := "treeRoots", fn := fun _ => fun
  | [d] => { results := [.lit (.bool false)], args := [d] }
  | _ => none }
def TreeRootsWrongFalsely : Prop := treeRootsRow.holds Try.pinned (OpenSpec.ofChange treeRootsWrong)

/-- 'lockwrightlaw.TreeChecks': WHATEVER THE INPUT: true; the input reads as it did. -/
def treeChecksSpec : ChangeSpec := { name := "treeChecks", fn := fun _ => fun
  | [d1, d2, d3, d4, d5] => { results := [.lit (.bool true)], args := [d1, d2, d3, d4, d5] }
  | _ => none }
def treeChecksRow : OpenClaim := { program := "ytkgfaaabhmcdoaa", sum := "16f76f6ef25e2692920e4286bf61994a767b18001d92327e0f8071f844d36e61", func := "lockwright/lockwrightlaw.TreeChecks", spec := "treeChecks", unfollowed := true, recurses := true, apart := false }
def TreeChecksSaid : Prop := treeChecksRow.holds Try.pinned (OpenSpec.ofChange treeChecksSpec)

/-- ITS FALSE NEIGHBOUR: 'it returns false'. Refute it at one input. -/
def treeChecksWrong : ChangeSpec := { name := "treeChecks", fn := fun _ => fun
  | [d1, d2, d3, d4, d5] => { results := [.lit (.bool false)], args := [d1, d2, d3, d4, d5] }
  | _ => none }
def TreeChecksWrongFalsely : Prop := treeChecksRow.holds Try.pinned (OpenSpec.ofChange treeChecksWrong)

/-- 'lockwrightlaw.PartsClear': WHATEVER THE INPUT: true; the input reads as it did. -/
def partsClearSpec : ChangeSpec := { name := "partsClear", fn := fun _ => fun
  | [d1, d2, d3] => { results := [.lit (.bool true)], args := [d1, d2, d3] }
  | _ => none }
def partsClearRow : OpenClaim := { program := "ytkgfaaabhmcdoaa", sum := "16f76f6ef25e2692920e4286bf61994a767b18001d92327e0f8071f844d36e61", func := "lockwright/lockwrightlaw.PartsClear", spec := "partsClear", unfollowed := true, recurses := true, apart := false }
def PartsClearSaid : Prop := partsClearRow.holds Try.pinned (OpenSpec.ofChange partsClearSpec)

/-- ITS FALSE NEIGHBOUR: 'it returns false'. Refute it at one input. -/
def partsClearWrong : ChangeSpec := { name := "partsClear", fn := fun _ => fun
  | [d1, d2, d3] => { results := [.lit (.bool false)], args := [d1, d2, d3] }
  | _ => none }
def PartsClearWrongFalsely : Prop := partsClearRow.holds Try.pinned (OpenSpec.ofChange partsClearWrong)

/-- 'lockwrightlaw.ShareSplits': WHATEVER THE INPUT: true; the input reads as it did. -/
def shareSplitsSpec : ChangeSpec := { name := "shareSplits", fn := fun _ => fun
  | [d1, d2, d3, d4] => { results := [.lit (.bool true)], args := [d1, d2, d3, d4] }
  | _ => none }
def shareSplitsRow : OpenClaim := { program := "ytkgfaaabhmcdoaa", sum := "16f76f6ef25e2692920e4286bf61994a767b18001d92327e0f8071f844d36e61", func := "lockwright/lockwrightlaw.ShareSplits", spec := "shareSplits", unfollowed := true, recurses := true, apart := false }
def ShareSplitsSaid : Prop := shareSplitsRow.holds Try.pinned (OpenSpec.ofChange shareSplitsSpec)

/-- ITS FALSE NEIGHBOUR: 'it returns false'. Refute it at one input. -/
def shareSplitsWrong : ChangeSpec := { name := "shareSplits", fn := fun _ => fun
  | [d1, d2, d3, d4] => { results := [.lit (.bool false)], args := [d1, d2, d3, d4] }
  | _ => none }
def ShareSplitsWrongFalsely : Prop := shareSplitsRow.holds Try.pinned (OpenSpec.ofChange shareSplitsWrong)

/-- 'lockwrightlaw.TreeTells': WHATEVER THE INPUT: true; the input reads as it did. -/
def treeTellsSpec : ChangeSpec := { name := "treeTells", fn := fun _ => fun
  | [d1, d2] => { results := [.lit (.bool true)], args := [d1, d2] }
  | _ => none }
def treeTellsRow : OpenClaim := { program := "ytkgfaaabhmcdoaa", sum := "16f76f6ef25e2692920e4286bf61994a767b18001d92327e0f8071f844d36e61", func := "lockwright/lockwrightlaw.TreeTells", spec := "treeTells", unfollowed := true, recurses := true, apart := false }
def TreeTellsSaid : Prop := treeTellsRow.holds Try.pinned (OpenSpec.ofChange treeTellsSpec)

/-- ITS FALSE NEIGHBOUR: 'it returns false'. Refute it at one input. -/
def treeTellsWrong : ChangeSpec := { name := "treeTells", fn := fun _ => fun
  | [d1, d2] => { results := [.lit (.bool false)], args := [d1, d2] }
  | _ => none }
def TreeTellsWrongFalsely : Prop := treeTellsRow.holds Try.pinned (OpenSpec.ofChange treeTellsWrong)

/-- 'lockwrightlaw.TreeFinds': WHATEVER THE INPUT: true; the input reads as it did. -/
def treeFindsSpec : ChangeSpec := { name := "treeFinds", fn := fun _ => fun
  | [d1, d2, d3, d4, d5, d6] => { results := [.lit (.bool true)], args := [d1, d2, d3, d4, d5, d6] }
  | _ => none }
def treeFindsRow : OpenClaim := { program := "ytkgfaaabhmcdoaa", sum := "16f76f6ef25e2692920e4286bf61994a767b18001d92327e0f8071f844d36e61", func := "lockwright/lockwrightlaw.TreeFinds", spec := "treeFinds", unfollowed := true, recurses := true, apart := false }
def TreeFindsSaid : Prop := treeFindsRow.holds Try.pinned (OpenSpec.ofChange treeFindsSpec)

/-- ITS FALSE NEIGHBOUR: 'it returns false'. Refute it at one input. -/
def treeFindsWrong : ChangeSpec := { name := "treeFinds", fn := fun _ => fun
  | [d1, d2, d3, d4, d5, d6] => { results := [.lit (.bool false)], args := [d1, d2, d3, d4, d5, d6] }
  | _ => none }
def TreeFindsWrongFalsely : Prop := treeFindsRow.holds Try.pinned (OpenSpec.ofChange treeFindsWrong)

/-- 'lockwrightlaw.ShareJoins': WHATEVER THE INPUT: true; the input reads as it did. -/
def shareJoinsSpec : ChangeSpec := { name := "shareJoins", fn := fun _ => fun
  | [d1, d2] => { results := [.lit (.bool true)], args := [d1, d2] }
  | _ => none }
def shareJoinsRow : OpenClaim := { program := "ytkgfaaabhmcdoaa", sum := "16f76f6ef25e2692920e4286bf61994a767b18001d92327e0f8071f844d36e61", func := "lockwright/lockwrightlaw.ShareJoins", spec := "shareJoins", unfollowed := true, recurses := true, apart := false }
def ShareJoinsSaid : Prop := shareJoinsRow.holds Try.pinned (OpenSpec.ofChange shareJoinsSpec)

/-- ITS FALSE NEIGHBOUR: 'it returns false'. Refute it at one input. -/
def shareJoinsWrong : ChangeSpec := { name := "shareJoins", fn := fun _ => fun
  | [d1, d2] => { results := [.lit (.bool false)], args := [d1, d2] }
  | _ => none }
def ShareJoinsWrongFalsely : Prop := shareJoinsRow.holds Try.pinned (OpenSpec.ofChange shareJoinsWrong)

/-- 'lockwrightlaw.ShareExplains': WHATEVER THE INPUT: true; the input reads as it did. -/
def shareExplainsSpec : ChangeSpec := { name := "shareExplains", fn := fun _ => fun
  | [d1, d2, d3] => { results := [.lit (.bool true)], args := [d1, d2, d3] }
  | _ => none }
def shareExplainsRow : OpenClaim := { program := "ytkgfaaabhmcdoaa", sum := "16f76f6ef25e2692920e4286bf61994a767b18001d92327e0f8071f844d36e61", func := "lockwright/lockwrightlaw.ShareExplains", spec := "shareExplains", unfollowed := true, recurses := true, apart := false }
def ShareExplainsSaid : Prop := shareExplainsRow.holds Try.pinned (OpenSpec.ofChange shareExplainsSpec)

/-- ITS FALSE NEIGHBOUR: 'it returns false'. Refute it at one input. -/
def shareExplainsWrong : ChangeSpec := { name := "shareExplains", fn := fun _ => fun
  | [d1, d2, d3] => { results := [.lit (.bool false)], args := [d1, d2, d3] }
  | _ => none }
def ShareExplainsWrongFalsely : Prop := shareExplainsRow.holds Try.pinned (OpenSpec.ofChange shareExplainsWrong)

/-- 'lockwrightlaw.PartsOpens': WHATEVER THE INPUT: true; the input reads as it did. -/
def partsOpensSpec : ChangeSpec := { name := "partsOpens", fn := fun _ => fun
  | [d1, d2, d3] => { results := [.lit (.bool true)], args := [d1, d2, d3] }
  | _ => none }
def partsOpensRow : OpenClaim := { program := "ytkgfaaabhmcdoaa", sum := "16f76f6ef25e2692920e4286bf61994a767b18001d92327e0f8071f844d36e61", func := "lockwright/lockwrightlaw.PartsOpens", spec := "partsOpens", unfollowed := true, recurses := true, apart := false }
def PartsOpensSaid : Prop := partsOpensRow.holds Try.pinned (OpenSpec.ofChange partsOpensSpec)

/-- ITS FALSE NEIGHBOUR: 'it returns false'. Refute it at one input. -/
def partsOpensWrong : ChangeSpec := { name := "partsOpens", fn := fun _ => fun
  | [d1, d2, d3] => { results := [.lit (.bool false)], args := [d1, d2, d3] }
  | _ => none }
def PartsOpensWrongFalsely : Prop := partsOpensRow.holds Try.pinned (OpenSpec.ofChange partsOpensWrong)

/-- 'lockwrightlaw.PartsPlays': WHATEVER THE INPUT: true; the input reads as it did. -/
def partsPlaysSpec : ChangeSpec := { name := "partsPlays", fn := fun _ => fun
  | [d1, d2, d3, d4, d5] => { results := [.lit (.bool true)], args := [d1, d2, d3, d4, d5] }
  | _ => none }
def partsPlaysRow : OpenClaim := { program := "ytkgfaaabhmcdoaa", sum := "16f76f6ef25e2692920e4286bf61994a767b18001d92327e0f8071f844d36e61", func := "lockwright/lockwrightlaw.PartsPlays", spec := "partsPlays", unfollowed := true, recurses := true, apart := false }
def PartsPlaysSaid : Prop := partsPlaysRow.holds Try.pinned (OpenSpec.ofChange partsPlaysSpec)

/-- ITS FALSE NEIGHBOUR: 'it returns false'. Refute it at one input. -/
def partsPlaysWrong : ChangeSpec := { name := "partsPlays", fn := fun _ => fun
  | [d1, d2, d3, d4, d5] => { results := [.lit (.bool false)], args := [d1, d2, d3, d4, d5] }
  | _ => none }
def PartsPlaysWrongFalsely : Prop := partsPlaysRow.holds Try.pinned (OpenSpec.ofChange partsPlaysWrong)

/- THE SECOND FORM. 'bulk': how many values and letters a reading holds, each counted each time it is reached (what is shared counts as often as it is met; a slice's spare places count too). A statement '..UptoSaid' is the law's where the arguments, and the package variables that the reading takes, are together of bulk at most 1048576: NARROWER than '..Said'. Prove '..Said' where nothing that the law and all that it calls make is longer than what came in: it says more and counts as full. Else prove '..UptoSaid'. A law counts once. -/
mutual
def uptoBulk {H : Type} : DataW H → Nat
  | .lit (.string bytes) => bytes.length + 1
  | .lit _ => 1
  | .nil => 1
  | .ptr d => uptoBulk d + 1
  | .slice elems spare => uptoBulkAll elems + uptoBulkAll spare + 1
  | .agg parts => uptoBulkAll parts + 1
  | .iface _ d => uptoBulk d + 1
  | .map entries => uptoBulkEntries entries + 1
  | .held _ => 1
def uptoBulkAll {H : Type} : List (DataW H) → Nat
  | [] => 0
  | d :: r => uptoBulk d + uptoBulkAll r
def uptoBulkEntries {H : Type} : List (Lit × DataW H) → Nat
  | [] => 0
  | x :: r => uptoBulkEntry x + uptoBulkEntries r
def uptoBulkEntry {H : Type} : Lit × DataW H → Nat
  | (.string bytes, d) => bytes.length + uptoBulk d + 1
  | (_, d) => uptoBulk d + 1
 end
def uptoSmall : (H : Type) → List (DataW H) → Bool := fun _ ds => decide (uptoBulkAll ds ≤ 1048576)
def OpenSpec.upto (s : _root_.Go.ChangeSpec) : _root_.Go.OpenSpec := { _root_.Go.OpenSpec.ofChange s with cond := some uptoSmall }

/-- 'lockwrightlaw.ShiftRuns', WHERE WHAT IT READS IS OF BULK AT MOST 1048576: true; the input reads as it did. -/
def shiftRunsUptoRow : OpenClaim := { program := "ytkgfaaabhmcdoaa", sum := "16f76f6ef25e2692920e4286bf61994a767b18001d92327e0f8071f844d36e61", func := "lockwright/lockwrightlaw.ShiftRuns", spec := "shiftRuns", apart := false, narrowed := true }
def ShiftRunsUptoSaid : Prop := shiftRunsUptoRow.holds Try.pinned (OpenSpec.upto shiftRunsSpec)

/-- 'lockwrightlaw.ShiftShort', WHERE WHAT IT READS IS OF BULK AT MOST 1048576: true; the input reads as it did. -/
def shiftShortUptoRow : OpenClaim := { program := "ytkgfaaabhmcdoaa", sum := "16f76f6ef25e2692920e4286bf61994a767b18001d92327e0f8071f844d36e61", func := "lockwright/lockwrightlaw.ShiftShort", spec := "shiftShort", apart := false, narrowed := true }
def ShiftShortUptoSaid : Prop := shiftShortUptoRow.holds Try.pinned (OpenSpec.upto shiftShortSpec)

/-- 'lockwrightlaw.TreeRoots', WHERE WHAT IT READS IS OF BULK AT MOST 1048576: true; the input reads as it did. -/
def treeRootsUptoRow : OpenClaim := { program := "ytkgfaaabhmcdoaa", sum := "16f76f6ef25e2692920e4286bf61994a767b18001d92327e0f8071f844d36e61", func := "lockwright/lockwrightlaw.TreeRoots", spec := "treeRoots", unfollowed := true, recurses := true, apart := false, narrowed := true }
def TreeRootsUptoSaid : Prop := treeRootsUptoRow.holds Try.pinned (OpenSpec.upto treeRootsSpec)

/-- 'lockwrightlaw.TreeChecks', WHERE WHAT IT READS IS OF BULK AT MOST 1048576: true; the input reads as it did. -/
def treeChecksUptoRow : OpenClaim := { program := "ytkgfaaabhmcdoaa", sum := "16f76f6ef25e2692920e4286bf61994a767b18001d92327e0f8071f844d36e61", func := "lockwright/lockwrightlaw.TreeChecks", spec := "treeChecks", unfollowed := true, recurses := true, apart := false, narrowed := true }
def TreeChecksUptoSaid : Prop := treeChecksUptoRow.holds Try.pinned (OpenSpec.upto treeChecksSpec)

/-- 'lockwrightlaw.PartsClear', WHERE WHAT IT READS IS OF BULK AT MOST 1048576: true; the input reads as it did. -/
def partsClearUptoRow : OpenClaim := { program := "ytkgfaaabhmcdoaa", sum := "16f76f6ef25e2692920e4286bf61994a767b18001d92327e0f8071f844d36e61", func := "lockwright/lockwrightlaw.PartsClear", spec := "partsClear", unfollowed := true, recurses := true, apart := false, narrowed := true }
def PartsClearUptoSaid : Prop := partsClearUptoRow.holds Try.pinned (OpenSpec.upto partsClearSpec)

/-- 'lockwrightlaw.ShareSplits', WHERE WHAT IT READS IS OF BULK AT MOST 1048576: true; the input reads as it did. -/
def shareSplitsUptoRow : OpenClaim := { program := "ytkgfaaabhmcdoaa", sum := "16f76f6ef25e2692920e4286bf61994a767b18001d92327e0f8071f844d36e61", func := "lockwright/lockwrightlaw.ShareSplits", spec := "shareSplits", unfollowed := true, recurses := true, apart := false, narrowed := true }
def ShareSplitsUptoSaid : Prop := shareSplitsUptoRow.holds Try.pinned (OpenSpec.upto shareSplitsSpec)

/-- 'lockwrightlaw.TreeTells', WHERE WHAT IT READS IS OF BULK AT MOST 1048576: true; the input reads as it did. -/
def treeTellsUptoRow : OpenClaim := { program := "ytkgfaaabhmcdoaa", sum := "16f76f6ef25e2692920e4286bf61994a767b18001d92327e0f8071f844d36e61", func := "lockwright/lockwrightlaw.TreeTells", spec := "treeTells", unfollowed := true, recurses := true, apart := false, narrowed := true }
def TreeTellsUptoSaid : Prop := treeTellsUptoRow.holds Try.pinned (OpenSpec.upto treeTellsSpec)

/-- 'lockwrightlaw.TreeFinds', WHERE WHAT IT READS IS OF BULK AT MOST 1048576: true; the input reads as it did. -/
def treeFindsUptoRow : OpenClaim := { program := "ytkgfaaabhmcdoaa", sum := "16f76f6ef25e2692920e4286bf61994a767b18001d92327e0f8071f844d36e61", func := "lockwright/lockwrightlaw.TreeFinds", spec := "treeFinds", unfollowed := true, recurses := true, apart := false, narrowed := true }
def TreeFindsUptoSaid : Prop := treeFindsUptoRow.holds Try.pinned (OpenSpec.upto treeFindsSpec)

/-- 'lockwrightlaw.ShareJoins', WHERE WHAT IT READS IS OF BULK AT MOST 1048576: true; the input reads as it did. -/
def shareJoinsUptoRow : OpenClaim := { program := "ytkgfaaabhmcdoaa", sum := "16f76f6ef25e2692920e4286bf61994a767b18001d92327e0f8071f844d36e61", func := "lockwright/lockwrightlaw.ShareJoins", spec := "shareJoins", unfollowed := true, recurses := true, apart := false, narrowed := true }
def ShareJoinsUptoSaid : Prop := shareJoinsUptoRow.holds Try.pinned (OpenSpec.upto shareJoinsSpec)

/-- 'lockwrightlaw.ShareExplains', WHERE WHAT IT READS IS OF BULK AT MOST 1048576: true; the input reads as it did. -/
def shareExplainsUptoRow : OpenClaim := { program := "ytkgfaaabhmcdoaa", sum := "16f76f6ef25e2692920e4286bf61994a767b18001d92327e0f8071f844d36e61", func := "lockwright/lockwrightlaw.ShareExplains", spec := "shareExplains", unfollowed := true, recurses := true, apart := false, narrowed := true }
def ShareExplainsUptoSaid : Prop := shareExplainsUptoRow.holds Try.pinned (OpenSpec.upto shareExplainsSpec)

/-- 'lockwrightlaw.PartsOpens', WHERE WHAT IT READS IS OF BULK AT MOST 1048576: true; the input reads as it did. -/
def partsOpensUptoRow : OpenClaim := { program := "ytkgfaaabhmcdoaa", sum := "16f76f6ef25e2692920e4286bf61994a767b18001d92327e0f8071f844d36e61", func := "lockwright/lockwrightlaw.PartsOpens", spec := "partsOpens", unfollowed := true, recurses := true, apart := false, narrowed := true }
def PartsOpensUptoSaid : Prop := partsOpensUptoRow.holds Try.pinned (OpenSpec.upto partsOpensSpec)

/-- 'lockwrightlaw.PartsPlays', WHERE WHAT IT READS IS OF BULK AT MOST 1048576: true; the input reads as it did. -/
def partsPlaysUptoRow : OpenClaim := { program := "ytkgfaaabhmcdoaa", sum := "16f76f6ef25e2692920e4286bf61994a767b18001d92327e0f8071f844d36e61", func := "lockwright/lockwrightlaw.PartsPlays", spec := "partsPlays", unfollowed := true, recurses := true, apart := false, narrowed := true }
def PartsPlaysUptoSaid : Prop := partsPlaysUptoRow.holds Try.pinned (OpenSpec.upto partsPlaysSpec)

end Rows
end Go.Proofs.Ytkgfaaabhmcdoaa
