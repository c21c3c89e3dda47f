/-
  No cell of these rows narrows 'for every input' (looked for: loops, veiled, ifaces, maps, wideKeys, modest, calm, conditions, laid).
  DERIVED. THE GIVEN ROWS OF THIS SEAT. 10 by the template 'for every input the law returns true; each argument reads behind the call as it read before'; 0 by the template 'total and deterministic' (their statements: YtoignifimgioaaaTotals.lean).
  GIVEN WITH THE SEED: the statements are not yours to turn. If you find one false, say at which input.
  Laid BY PROGRAM, IN A SANDBOX (cutbox-rows.mjs): the forced cells as the released guide's own fill.sh prints them over the translation 9e7b1a81cf062182… (all of the seat's roots in one cut). By AI agents, Wed Nov 11 2026. No macro, syntax, notation, axiom, sorry.
-/
import Derived.Test.YtoignifimgioaaaChecked
import GoSem.Claim
import GoSem.ClaimJoined
import GoSem.ClaimMapViews
import Derived.JoinedTies
import Derived.KernelRfl
namespace Go.Proofs.Ytoignifimgioaaa
/- THE CELL 'sum', in the pinned program and in every row, IS THE sha256 OF THE DUMP (.gsa) THAT YtoignifimgioaaaProg.lean LOADS. Nothing in Lean hashes anything: it is a label: what it is worth is what the hold of that sum in a sandbox is worth. -/
noncomputable def Try.pinned : Pinned := { name := "ytoignifimgioaaa", sum := "9e7b1a81cf062182548ef8fbfd5fc08d7606c5fd4a1d14e22017e99ca8d09730", checked := Try.checked }
namespace Rows
def none {H : Type} : Left H := { results := [], args := [] }

/-- 'lockwrightlaw.CycleTells': WHATEVER THE INPUT: true; the input reads as it did. -/
def cycleTellsSpec : ChangeSpec := { name := "cycleTells", fn := fun _ => fun
  | [d1, d2, d3] => { results := [.lit (.bool true)], args := [d1, d2, d3] }
  | _ => none }
def cycleTellsRow : OpenClaim := { program := "ytoignifimgioaaa", sum := "9e7b1a81cf062182548ef8fbfd5fc08d7606c5fd4a1d14e22017e99ca8d09730", func := "lockwright/lockwrightlaw.CycleTells", spec := "cycleTells", apart := false }
def CycleTellsSaid : Prop := cycleTellsRow.holds Try.pinned (OpenSpec.ofChange cycleTellsSpec)

/-- ITS FALSE NEIGHBOUR: 'it returns false'. Refute it at one input. -/
def cycleTellsWrong : ChangeSpec := { name := "cycleTells", fn := fun _ => fun
  | [d1, d2, d3] => { results := [.lit (.bool false)], args := [d1, d2, d3] }
  | _ => none }
def CycleTellsWrongFalsely : Prop := cycleTellsRow.holds Try.pinned (OpenSpec.ofChange cycleTellsWrong)

/-- 'lockwrightlaw.CurveChecks': WHATEVER THE INPUT: true; the input reads as it did. -/
def curveChecksSpec : ChangeSpec := { name := "curveChecks", fn := fun _ => fun
  | [d] => { results := [.lit (.bool true)], args := [d] }
  | _ => none }
def curveChecksRow : OpenClaim := { program := "ytoignifimgioaaa", sum := "9e7b1a81cf062182548ef8fbfd5fc08d7606c5fd4a1d14e22017e99ca8d09730", func := "lockwright/lockwrightlaw.CurveChecks", spec := "curveChecks", unfollowed := true, recurses := true, apart := false }
def CurveChecksSaid : Prop := curveChecksRow.holds Try.pinned (OpenSpec.ofChange curveChecksSpec)

/-- ITS FALSE NEIGHBOUR: 'it returns false'. Refute it at one input. -/
def curveChecksWrong : ChangeSpec := { name := "curveChecks", fn := fun _ => fun
  | [d] => { results := [.lit (.bool false)], args := [d] }
  | _ => none }
def CurveChecksWrongFalsely : Prop := curveChecksRow.holds Try.pinned (OpenSpec.ofChange curveChecksWrong)

/-- 'lockwrightlaw.CycleSplits': WHATEVER THE INPUT: true; the input reads as it did. -/
def cycleSplitsSpec : ChangeSpec := { name := "cycleSplits", fn := fun _ => fun
  | [d1, d2, d3] => { results := [.lit (.bool true)], args := [d1, d2, d3] }
  | _ => none }
def cycleSplitsRow : OpenClaim := { program := "ytoignifimgioaaa", sum := "9e7b1a81cf062182548ef8fbfd5fc08d7606c5fd4a1d14e22017e99ca8d09730", func := "lockwright/lockwrightlaw.CycleSplits", spec := "cycleSplits", apart := false }
def CycleSplitsSaid : Prop := cycleSplitsRow.holds Try.pinned (OpenSpec.ofChange cycleSplitsSpec)

/-- ITS FALSE NEIGHBOUR: 'it returns false'. Refute it at one input. -/
def cycleSplitsWrong : ChangeSpec := { name := "cycleSplits", fn := fun _ => fun
  | [d1, d2, d3] => { results := [.lit (.bool false)], args := [d1, d2, d3] }
  | _ => none }
def CycleSplitsWrongFalsely : Prop := cycleSplitsRow.holds Try.pinned (OpenSpec.ofChange cycleSplitsWrong)

/-- 'lockwrightlaw.CurveTurns': WHATEVER THE INPUT: true; the input reads as it did. -/
def curveTurnsSpec : ChangeSpec := { name := "curveTurns", fn := fun _ => fun
  | [d1, d2] => { results := [.lit (.bool true)], args := [d1, d2] }
  | _ => none }
def curveTurnsRow : OpenClaim := { program := "ytoignifimgioaaa", sum := "9e7b1a81cf062182548ef8fbfd5fc08d7606c5fd4a1d14e22017e99ca8d09730", func := "lockwright/lockwrightlaw.CurveTurns", spec := "curveTurns", unfollowed := true, recurses := true, apart := false }
def CurveTurnsSaid : Prop := curveTurnsRow.holds Try.pinned (OpenSpec.ofChange curveTurnsSpec)

/-- ITS FALSE NEIGHBOUR: 'it returns false'. Refute it at one input. -/
def curveTurnsWrong : ChangeSpec := { name := "curveTurns", fn := fun _ => fun
  | [d1, d2] => { results := [.lit (.bool false)], args := [d1, d2] }
  | _ => none }
def CurveTurnsWrongFalsely : Prop := curveTurnsRow.holds Try.pinned (OpenSpec.ofChange curveTurnsWrong)

/-- 'lockwrightlaw.CurveCounts': WHATEVER THE INPUT: true; the input reads as it did. -/
def curveCountsSpec : ChangeSpec := { name := "curveCounts", fn := fun _ => fun
  | [d] => { results := [.lit (.bool true)], args := [d] }
  | _ => none }
def curveCountsRow : OpenClaim := { program := "ytoignifimgioaaa", sum := "9e7b1a81cf062182548ef8fbfd5fc08d7606c5fd4a1d14e22017e99ca8d09730", func := "lockwright/lockwrightlaw.CurveCounts", spec := "curveCounts", unfollowed := true, recurses := true, apart := false }
def CurveCountsSaid : Prop := curveCountsRow.holds Try.pinned (OpenSpec.ofChange curveCountsSpec)

/-- ITS FALSE NEIGHBOUR: 'it returns false'. Refute it at one input. -/
def curveCountsWrong : ChangeSpec := { name := "curveCounts", fn := fun _ => fun
  | [d] => { results := [.lit (.bool false)], args := [d] }
  | _ => none }
def CurveCountsWrongFalsely : Prop := curveCountsRow.holds Try.pinned (OpenSpec.ofChange curveCountsWrong)

/-- 'lockwrightlaw.CrtTells': WHATEVER THE INPUT: true; the input reads as it did. -/
def crtTellsSpec : ChangeSpec := { name := "crtTells", fn := fun _ => fun
  | [d] => { results := [.lit (.bool true)], args := [d] }
  | _ => none }
def crtTellsRow : OpenClaim := { program := "ytoignifimgioaaa", sum := "9e7b1a81cf062182548ef8fbfd5fc08d7606c5fd4a1d14e22017e99ca8d09730", func := "lockwright/lockwrightlaw.CrtTells", spec := "crtTells", apart := false }
def CrtTellsSaid : Prop := crtTellsRow.holds Try.pinned (OpenSpec.ofChange crtTellsSpec)

/-- ITS FALSE NEIGHBOUR: 'it returns false'. Refute it at one input. -/
def crtTellsWrong : ChangeSpec := { name := "crtTells", fn := fun _ => fun
  | [d] => { results := [.lit (.bool false)], args := [d] }
  | _ => none }
def CrtTellsWrongFalsely : Prop := crtTellsRow.holds Try.pinned (OpenSpec.ofChange crtTellsWrong)

/-- 'lockwrightlaw.RsaMakes': WHATEVER THE INPUT: true; the input reads as it did. -/
def rsaMakesSpec : ChangeSpec := { name := "rsaMakes", fn := fun _ => fun
  | [d1, d2, d3] => { results := [.lit (.bool true)], args := [d1, d2, d3] }
  | _ => none }
def rsaMakesRow : OpenClaim := { program := "ytoignifimgioaaa", sum := "9e7b1a81cf062182548ef8fbfd5fc08d7606c5fd4a1d14e22017e99ca8d09730", func := "lockwright/lockwrightlaw.RsaMakes", spec := "rsaMakes", unfollowed := true, recurses := true, apart := false }
def RsaMakesSaid : Prop := rsaMakesRow.holds Try.pinned (OpenSpec.ofChange rsaMakesSpec)

/-- ITS FALSE NEIGHBOUR: 'it returns false'. Refute it at one input. -/
def rsaMakesWrong : ChangeSpec := { name := "rsaMakes", fn := fun _ => fun
  | [d1, d2, d3] => { results := [.lit (.bool false)], args := [d1, d2, d3] }
  | _ => none }
def RsaMakesWrongFalsely : Prop := rsaMakesRow.holds Try.pinned (OpenSpec.ofChange rsaMakesWrong)

/-- 'lockwrightlaw.CurveAdds': WHATEVER THE INPUT: true; the input reads as it did. -/
def curveAddsSpec : ChangeSpec := { name := "curveAdds", fn := fun _ => fun
  | [d1, d2, d3] => { results := [.lit (.bool true)], args := [d1, d2, d3] }
  | _ => none }
def curveAddsRow : OpenClaim := { program := "ytoignifimgioaaa", sum := "9e7b1a81cf062182548ef8fbfd5fc08d7606c5fd4a1d14e22017e99ca8d09730", func := "lockwright/lockwrightlaw.CurveAdds", spec := "curveAdds", unfollowed := true, recurses := true, apart := false }
def CurveAddsSaid : Prop := curveAddsRow.holds Try.pinned (OpenSpec.ofChange curveAddsSpec)

/-- ITS FALSE NEIGHBOUR: 'it returns false'. Refute it at one input. -/
def curveAddsWrong : ChangeSpec := { name := "curveAdds", fn := fun _ => fun
  | [d1, d2, d3] => { results := [.lit (.bool false)], args := [d1, d2, d3] }
  | _ => none }
def CurveAddsWrongFalsely : Prop := curveAddsRow.holds Try.pinned (OpenSpec.ofChange curveAddsWrong)

/-- 'lockwrightlaw.CurveTimes': WHATEVER THE INPUT: true; the input reads as it did. -/
def curveTimesSpec : ChangeSpec := { name := "curveTimes", fn := fun _ => fun
  | [d1, d2, d3] => { results := [.lit (.bool true)], args := [d1, d2, d3] }
  | _ => none }
def curveTimesRow : OpenClaim := { program := "ytoignifimgioaaa", sum := "9e7b1a81cf062182548ef8fbfd5fc08d7606c5fd4a1d14e22017e99ca8d09730", func := "lockwright/lockwrightlaw.CurveTimes", spec := "curveTimes", unfollowed := true, recurses := true, apart := false }
def CurveTimesSaid : Prop := curveTimesRow.holds Try.pinned (OpenSpec.ofChange curveTimesSpec)

/-- ITS FALSE NEIGHBOUR: 'it returns false'. Refute it at one input. -/
def curveTimesWrong : ChangeSpec := { name := "curveTimes", fn := fun _ => fun
  | [d1, d2, d3] => { results := [.lit (.bool false)], args := [d1, d2, d3] }
  | _ => none }
def CurveTimesWrongFalsely : Prop := curveTimesRow.holds Try.pinned (OpenSpec.ofChange curveTimesWrong)

/-- 'lockwrightlaw.RsaParts': WHATEVER THE INPUT: true; the input reads as it did. -/
def rsaPartsSpec : ChangeSpec := { name := "rsaParts", fn := fun _ => fun
  | [d1, d2, d3, d4] => { results := [.lit (.bool true)], args := [d1, d2, d3, d4] }
  | _ => none }
def rsaPartsRow : OpenClaim := { program := "ytoignifimgioaaa", sum := "9e7b1a81cf062182548ef8fbfd5fc08d7606c5fd4a1d14e22017e99ca8d09730", func := "lockwright/lockwrightlaw.RsaParts", spec := "rsaParts", unfollowed := true, recurses := true, apart := false }
def RsaPartsSaid : Prop := rsaPartsRow.holds Try.pinned (OpenSpec.ofChange rsaPartsSpec)

/-- ITS FALSE NEIGHBOUR: 'it returns false'. Refute it at one input. -/
def rsaPartsWrong : ChangeSpec := { name := "rsaParts", fn := fun _ => fun
  | [d1, d2, d3, d4] => { results := [.lit (.bool false)], args := [d1, d2, d3, d4] }
  | _ => none }
def RsaPartsWrongFalsely : Prop := rsaPartsRow.holds Try.pinned (OpenSpec.ofChange rsaPartsWrong)

/- THE SECOND FORM. 'bulk': how many values and letters a reading holds, each counted each time it is reached (what is shared counts as often as it is met; a slice's spare places count too). A statement '..UptoSaid' is the law's where the arguments, and the package variables that the reading takes, are together of bulk at most 1048576: NARROWER than '..Said'. Prove '..Said' where nothing that the law and all that it calls make is longer than what came in: it says more and counts as full. Else prove '..UptoSaid'. A law counts once. -/
mutual
def uptoBulk {H : Type} : DataW H → Nat
  | .lit (.string bytes) => bytes.length + 1
  | .lit _ => 1
  | .nil => 1
  | .ptr d => uptoBulk d + 1
  | .slice elems spare => uptoBulkAll elems + uptoBulkAll spare + 1
  | .agg parts => uptoBulkAll parts + 1
  | .iface _ d => uptoBulk d + 1
  | .map entries => uptoBulkEntries entries + 1
  | .held _ => 1
def uptoBulkAll {H : Type} : List (DataW H) → Nat
  | [] => 0
  | d :: r => uptoBulk d + uptoBulkAll r
def uptoBulkEntries {H : Type} : List (Lit × DataW H) → Nat
  | [] => 0
  | x :: r => uptoBulkEntry x + uptoBulkEntries r
def uptoBulkEntry {H : Type} : Lit × DataW H → Nat
  | (.string bytes, d) => bytes.length + uptoBulk d + 1
  | (_, d) => uptoBulk d + 1
 end
def uptoSmall : (H : Type) → List (DataW H) → Bool := fun _ ds => decide (uptoBulkAll ds ≤ 1048576)
def OpenSpec.upto (s : _root_.Go.ChangeSpec) : _root_.Go.OpenSpec := { _root_.Go.OpenSpec.ofChange s with cond := some uptoSmall }

/-- 'lockwrightlaw.CycleTells', WHERE WHAT IT READS IS OF BULK AT MOST 1048576: true; the input reads as it did. -/
def cycleTellsUptoRow : OpenClaim := { program := "ytoignifimgioaaa", sum := "9e7b1a81cf062182548ef8fbfd5fc08d7606c5fd4a1d14e22017e99ca8d09730", func := "lockwright/lockwrightlaw.CycleTells", spec := "cycleTells", apart := false, narrowed := true }
def CycleTellsUptoSaid : Prop := cycleTellsUptoRow.holds Try.pinned (OpenSpec.upto cycleTellsSpec)

/-- 'lockwrightlaw.CurveChecks', WHERE WHAT IT READS IS OF BULK AT MOST 1048576: true; the input reads as it did. -/
def curveChecksUptoRow : OpenClaim := { program := "ytoignifimgioaaa", sum := "9e7b1a81cf062182548ef8fbfd5fc08d7606c5fd4a1d14e22017e99ca8d09730", func := "lockwright/lockwrightlaw.CurveChecks", spec := "curveChecks", unfollowed := true, recurses := true, apart := false, narrowed := true }
def CurveChecksUptoSaid : Prop := curveChecksUptoRow.holds Try.pinned (OpenSpec.upto curveChecksSpec)

/-- 'lockwrightlaw.CycleSplits', WHERE WHAT IT READS IS OF BULK AT MOST 1048576: true; the input reads as it did. -/
def cycleSplitsUptoRow : OpenClaim := { program := "ytoignifimgioaaa", sum := "9e7b1a81cf062182548ef8fbfd5fc08d7606c5fd4a1d14e22017e99ca8d09730", func := "lockwright/lockwrightlaw.CycleSplits", spec := "cycleSplits", apart := false, narrowed := true }
def CycleSplitsUptoSaid : Prop := cycleSplitsUptoRow.holds Try.pinned (OpenSpec.upto cycleSplitsSpec)

/-- 'lockwrightlaw.CurveTurns', WHERE WHAT IT READS IS OF BULK AT MOST 1048576: true; the input reads as it did. -/
def curveTurnsUptoRow : OpenClaim := { program := "ytoignifimgioaaa", sum := "9e7b1a81cf062182548ef8fbfd5fc08d7606c5fd4a1d14e22017e99ca8d09730", func := "lockwright/lockwrightlaw.CurveTurns", spec := "curveTurns", unfollowed := true, recurses := true, apart := false, narrowed := true }
def CurveTurnsUptoSaid : Prop := curveTurnsUptoRow.holds Try.pinned (OpenSpec.upto curveTurnsSpec)

/-- 'lockwrightlaw.CurveCounts', WHERE WHAT IT READS IS OF BULK AT MOST 1048576: true; the input reads as it did. -/
def curveCountsUptoRow : OpenClaim := { program := "ytoignifimgioaaa", sum := "9e7b1a81cf062182548ef8fbfd5fc08d7606c5fd4a1d14e22017e99ca8d09730", func := "lockwright/lockwrightlaw.CurveCounts", spec := "curveCounts", unfollowed := true, recurses := true, apart := false, narrowed := true }
def CurveCountsUptoSaid : Prop := curveCountsUptoRow.holds Try.pinned (OpenSpec.upto curveCountsSpec)

/-- 'lockwrightlaw.CrtTells', WHERE WHAT IT READS IS OF BULK AT MOST 1048576: true; the input reads as it did. -/
def crtTellsUptoRow : OpenClaim := { program := "ytoignifimgioaaa", sum := "9e7b1a81cf062182548ef8fbfd5fc08d7606c5fd4a1d14e22017e99ca8d09730", func := "lockwright/lockwrightlaw.CrtTells", spec := "crtTells", apart := false, narrowed := true }
def CrtTellsUptoSaid : Prop := crtTellsUptoRow.holds Try.pinned (OpenSpec.upto crtTellsSpec)

/-- 'lockwrightlaw.RsaMakes', WHERE WHAT IT READS IS OF BULK AT MOST 1048576: true; the input reads as it did. -/
def rsaMakesUptoRow : OpenClaim := { program := "ytoignifimgioaaa", sum := "9e7b1a81cf062182548ef8fbfd5fc08d7606c5fd4a1d14e22017e99ca8d09730", func := "lockwright/lockwrightlaw.RsaMakes", spec := "rsaMakes", unfollowed := true, recurses := true, apart := false, narrowed := true }
def RsaMakesUptoSaid : Prop := rsaMakesUptoRow.holds Try.pinned (OpenSpec.upto rsaMakesSpec)

/-- 'lockwrightlaw.CurveAdds', WHERE WHAT IT READS IS OF BULK AT MOST 1048576: true; the input reads as it did. -/
def curveAddsUptoRow : OpenClaim := { program := "ytoignifimgioaaa", sum := "9e7b1a81cf062182548ef8fbfd5fc08d7606c5fd4a1d14e22017e99ca8d09730", func := "lockwright/lockwrightlaw.CurveAdds", spec := "curveAdds", unfollowed := true, recurses := true, apart := false, narrowed := true }
def CurveAddsUptoSaid : Prop := curveAddsUptoRow.holds Try.pinned (OpenSpec.upto curveAddsSpec)

/-- 'lockwrightlaw.CurveTimes', WHERE WHAT IT READS IS OF BULK AT MOST 1048576: true; the input reads as it did. -/
def curveTimesUptoRow : OpenClaim := { program := "ytoignifimgioaaa", sum := "9e7b1a81cf062182548ef8fbfd5fc08d7606c5fd4a1d14e22017e99ca8d09730", func := "lockwright/lockwrightlaw.CurveTimes", spec := "curveTimes", unfollowed := true, recurses := true, apart := false, narrowed := true }
def CurveTimesUptoSaid : Prop := curveTimesUptoRow.holds Try.pinned (OpenSpec.upto curveTimesSpec)

/-- 'lockwrightlaw.RsaParts', WHERE WHAT IT READS IS OF BULK AT MOST 1048576: true; the input reads as it did. -/
def rsaPartsUptoRow : OpenClaim := { program := "ytoignifimgioaaa", sum := "9e7b1a81cf062182548ef8fbfd5fc08d7606c5fd4a1d14e22017e99ca8d09730", func := "lockwright/lockwrightlaw.RsaParts", spec := "rsaParts", unfollowed := true, recurses := true, apart := false, narrowed := true }
def RsaPartsUptoSaid : Prop := rsaPartsUptoRow.holds Try.pinned (OpenSpec.upto rsaPartsSpec)

end Rows
end Go.Proofs.Ytoignifimgioaaa
