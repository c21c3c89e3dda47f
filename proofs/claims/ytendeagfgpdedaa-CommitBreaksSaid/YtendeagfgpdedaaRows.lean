/-
  No cell of these rows narrows 'for every input' (looked for: loops, veiled, ifaces, maps, wideKeys, modest, calm, conditions, laid).
  DERIVED. THE GIVEN ROWS OF THIS SEAT. 12 by the template 'for every input the law returns true; each argument reads behind the call as it read before'; 0 by the template 'total and deterministic' (their statements: YtendeagfgpdedaaTotals.lean).
  GIVEN WITH THE SEED: the statements are not yours to turn. If you find one false, say at which input.
  Laid BY PROGRAM, IN A SANDBOX (cutbox-rows.mjs): the forced cells as the released guide's own fill.sh prints them over the translation a1f9793e1238b128… (all of the seat's roots in one cut). By AI agents, Wed Nov 11 2026. No macro, syntax, notation, axiom, sorry.
-/
import Derived.Test.YtendeagfgpdedaaChecked
import GoSem.Claim
import GoSem.ClaimJoined
import GoSem.ClaimMapViews
import Derived.JoinedTies
import Derived.KernelRfl
namespace Go.Proofs.Ytendeagfgpdedaa
/- THE CELL 'sum', in the pinned program and in every row, IS THE sha256 OF THE DUMP (.gsa) THAT YtendeagfgpdedaaProg.lean LOADS. Nothing in Lean hashes anything: it is a label: what it is worth is what the hold of that sum in a sandbox is worth. -/
noncomputable def Try.pinned : Pinned := { name := "ytendeagfgpdedaa", sum := "a1f9793e1238b1286efcc8bae394407792831be154fcaf161cd758da7af52b5d", checked := Try.checked }
namespace Rows
def none {H : Type} : Left H := { results := [], args := [] }

/-- 'lockwrightlaw.GroupChecks': WHATEVER THE INPUT: true; the input reads as it did. -/
def groupChecksSpec : ChangeSpec := { name := "groupChecks", fn := fun _ => fun
  | [d] => { results := [.lit (.bool true)], args := [d] }
  | _ => none }
def groupChecksRow : OpenClaim := { program := "ytendeagfgpdedaa", sum := "a1f9793e1238b1286efcc8bae394407792831be154fcaf161cd758da7af52b5d", func := "lockwright/lockwrightlaw.GroupChecks", spec := "groupChecks", unfollowed := true, recurses := true, apart := false }
def GroupChecksSaid : Prop := groupChecksRow.holds Try.pinned (OpenSpec.ofChange groupChecksSpec)

/-- ITS FALSE NEIGHBOUR: 'it returns false'. Refute it at one input. -/
def groupChecksWrong : ChangeSpec := { name := "groupChecks", fn := fun _ => fun
  | [d] => { results := [.lit (.bool false)], args := [d] }
  | _ => none }
def GroupChecksWrongFalsely : Prop := groupChecksRow.holds Try.pinned (OpenSpec.ofChange groupChecksWrong)

/-- 'lockwrightlaw.GroupShared': WHATEVER THE INPUT: true; the input reads as it did. -/
def groupSharedSpec : ChangeSpec := { name := "groupShared", fn := fun _ => fun
  | [d1, d2, d3] => { results := [.lit (.bool true)], args := [d1, d2, d3] }
  | _ => none }
def groupSharedRow : OpenClaim := { program := "ytendeagfgpdedaa", sum := "a1f9793e1238b1286efcc8bae394407792831be154fcaf161cd758da7af52b5d", func := "lockwright/lockwrightlaw.GroupShared", spec := "groupShared", unfollowed := true, recurses := true, apart := false }
def GroupSharedSaid : Prop := groupSharedRow.holds Try.pinned (OpenSpec.ofChange groupSharedSpec)

/-- ITS FALSE NEIGHBOUR: 'it returns false'. Refute it at one input. -/
def groupSharedWrong : ChangeSpec := { name := "groupShared", fn := fun _ => fun
  | [d1, d2, d3] => { results := [.lit (.bool false)], args := [d1, d2, d3] }
  | _ => none }
def GroupSharedWrongFalsely : Prop := groupSharedRow.holds Try.pinned (OpenSpec.ofChange groupSharedWrong)

/-- 'lockwrightlaw.GroupLocks': WHATEVER THE INPUT: true; the input reads as it did. -/
def groupLocksSpec : ChangeSpec := { name := "groupLocks", fn := fun _ => fun
  | [d1, d2, d3, d4] => { results := [.lit (.bool true)], args := [d1, d2, d3, d4] }
  | _ => none }
def groupLocksRow : OpenClaim := { program := "ytendeagfgpdedaa", sum := "a1f9793e1238b1286efcc8bae394407792831be154fcaf161cd758da7af52b5d", func := "lockwright/lockwrightlaw.GroupLocks", spec := "groupLocks", unfollowed := true, recurses := true, apart := false }
def GroupLocksSaid : Prop := groupLocksRow.holds Try.pinned (OpenSpec.ofChange groupLocksSpec)

/-- ITS FALSE NEIGHBOUR: 'it returns false'. Refute it at one input. -/
def groupLocksWrong : ChangeSpec := { name := "groupLocks", fn := fun _ => fun
  | [d1, d2, d3, d4] => { results := [.lit (.bool false)], args := [d1, d2, d3, d4] }
  | _ => none }
def GroupLocksWrongFalsely : Prop := groupLocksRow.holds Try.pinned (OpenSpec.ofChange groupLocksWrong)

/-- 'lockwrightlaw.GroupUnlocks': WHATEVER THE INPUT: true; the input reads as it did. -/
def groupUnlocksSpec : ChangeSpec := { name := "groupUnlocks", fn := fun _ => fun
  | [d1, d2, d3] => { results := [.lit (.bool true)], args := [d1, d2, d3] }
  | _ => none }
def groupUnlocksRow : OpenClaim := { program := "ytendeagfgpdedaa", sum := "a1f9793e1238b1286efcc8bae394407792831be154fcaf161cd758da7af52b5d", func := "lockwright/lockwrightlaw.GroupUnlocks", spec := "groupUnlocks", unfollowed := true, recurses := true, apart := false }
def GroupUnlocksSaid : Prop := groupUnlocksRow.holds Try.pinned (OpenSpec.ofChange groupUnlocksSpec)

/-- ITS FALSE NEIGHBOUR: 'it returns false'. Refute it at one input. -/
def groupUnlocksWrong : ChangeSpec := { name := "groupUnlocks", fn := fun _ => fun
  | [d1, d2, d3] => { results := [.lit (.bool false)], args := [d1, d2, d3] }
  | _ => none }
def GroupUnlocksWrongFalsely : Prop := groupUnlocksRow.holds Try.pinned (OpenSpec.ofChange groupUnlocksWrong)

/-- 'lockwrightlaw.GroupProducts': WHATEVER THE INPUT: true; the input reads as it did. -/
def groupProductsSpec : ChangeSpec := { name := "groupProducts", fn := fun _ => fun
  | [d1, d2, d3] => { results := [.lit (.bool true)], args := [d1, d2, d3] }
  | _ => none }
def groupProductsRow : OpenClaim := { program := "ytendeagfgpdedaa", sum := "a1f9793e1238b1286efcc8bae394407792831be154fcaf161cd758da7af52b5d", func := "lockwright/lockwrightlaw.GroupProducts", spec := "groupProducts", unfollowed := true, recurses := true, apart := false }
def GroupProductsSaid : Prop := groupProductsRow.holds Try.pinned (OpenSpec.ofChange groupProductsSpec)

/-- ITS FALSE NEIGHBOUR: 'it returns false'. Refute it at one input. -/
def groupProductsWrong : ChangeSpec := { name := "groupProducts", fn := fun _ => fun
  | [d1, d2, d3] => { results := [.lit (.bool false)], args := [d1, d2, d3] }
  | _ => none }
def GroupProductsWrongFalsely : Prop := groupProductsRow.holds Try.pinned (OpenSpec.ofChange groupProductsWrong)

/-- 'lockwrightlaw.GroupPublics': WHATEVER THE INPUT: true; the input reads as it did. -/
def groupPublicsSpec : ChangeSpec := { name := "groupPublics", fn := fun _ => fun
  | [d1, d2] => { results := [.lit (.bool true)], args := [d1, d2] }
  | _ => none }
def groupPublicsRow : OpenClaim := { program := "ytendeagfgpdedaa", sum := "a1f9793e1238b1286efcc8bae394407792831be154fcaf161cd758da7af52b5d", func := "lockwright/lockwrightlaw.GroupPublics", spec := "groupPublics", unfollowed := true, recurses := true, apart := false }
def GroupPublicsSaid : Prop := groupPublicsRow.holds Try.pinned (OpenSpec.ofChange groupPublicsSpec)

/-- ITS FALSE NEIGHBOUR: 'it returns false'. Refute it at one input. -/
def groupPublicsWrong : ChangeSpec := { name := "groupPublics", fn := fun _ => fun
  | [d1, d2] => { results := [.lit (.bool false)], args := [d1, d2] }
  | _ => none }
def GroupPublicsWrongFalsely : Prop := groupPublicsRow.holds Try.pinned (OpenSpec.ofChange groupPublicsWrong)

/-- 'lockwrightlaw.ShakeStarts': WHATEVER THE INPUT: true; the input reads as it did. -/
def shakeStartsSpec : ChangeSpec := { name := "shakeStarts", fn := fun _ => fun
  | [d1, d2] => { results := [.lit (.bool true)], args := [d1, d2] }
  | _ => none }
def shakeStartsRow : OpenClaim := { program := "ytendeagfgpdedaa", sum := "a1f9793e1238b1286efcc8bae394407792831be154fcaf161cd758da7af52b5d", func := "lockwright/lockwrightlaw.ShakeStarts", spec := "shakeStarts", unfollowed := true, recurses := true, apart := false }
def ShakeStartsSaid : Prop := shakeStartsRow.holds Try.pinned (OpenSpec.ofChange shakeStartsSpec)

/-- ITS FALSE NEIGHBOUR: 'it returns false'. Refute it at one input. -/
def shakeStartsWrong : ChangeSpec := { name := "shakeStarts", fn := fun _ => fun
  | [d1, d2] => { results := [.lit (.bool false)], args := [d1, d2] }
  | _ => none }
def ShakeStartsWrongFalsely : Prop := shakeStartsRow.holds Try.pinned (OpenSpec.ofChange shakeStartsWrong)

/-- 'lockwrightlaw.CommitTells': WHATEVER THE INPUT: true; the input reads as it did. -/
def commitTellsSpec : ChangeSpec := { name := "commitTells", fn := fun _ => fun
  | [d1, d2, d3] => { results := [.lit (.bool true)], args := [d1, d2, d3] }
  | _ => none }
def commitTellsRow : OpenClaim := { program := "ytendeagfgpdedaa", sum := "a1f9793e1238b1286efcc8bae394407792831be154fcaf161cd758da7af52b5d", func := "lockwright/lockwrightlaw.CommitTells", spec := "commitTells", unfollowed := true, recurses := true, apart := false }
def CommitTellsSaid : Prop := commitTellsRow.holds Try.pinned (OpenSpec.ofChange commitTellsSpec)

/-- ITS FALSE NEIGHBOUR: 'it returns false'. Refute it at one input. -/
def commitTellsWrong : ChangeSpec := { name := "commitTells", fn := fun _ => fun
  | [d1, d2, d3] => { results := [.lit (.bool false)], args := [d1, d2, d3] }
  | _ => none }
def CommitTellsWrongFalsely : Prop := commitTellsRow.holds Try.pinned (OpenSpec.ofChange commitTellsWrong)

/-- 'lockwrightlaw.CommitOthers': WHATEVER THE INPUT: true; the input reads as it did. -/
def commitOthersSpec : ChangeSpec := { name := "commitOthers", fn := fun _ => fun
  | [d1, d2, d3, d4] => { results := [.lit (.bool true)], args := [d1, d2, d3, d4] }
  | _ => none }
def commitOthersRow : OpenClaim := { program := "ytendeagfgpdedaa", sum := "a1f9793e1238b1286efcc8bae394407792831be154fcaf161cd758da7af52b5d", func := "lockwright/lockwrightlaw.CommitOthers", spec := "commitOthers", unfollowed := true, recurses := true, apart := false }
def CommitOthersSaid : Prop := commitOthersRow.holds Try.pinned (OpenSpec.ofChange commitOthersSpec)

/-- ITS FALSE NEIGHBOUR: 'it returns false'. Refute it at one input. -/
def commitOthersWrong : ChangeSpec := { name := "commitOthers", fn := fun _ => fun
  | [d1, d2, d3, d4] => { results := [.lit (.bool false)], args := [d1, d2, d3, d4] }
  | _ => none }
def CommitOthersWrongFalsely : Prop := commitOthersRow.holds Try.pinned (OpenSpec.ofChange commitOthersWrong)

/-- 'lockwrightlaw.CommitBreaks': WHATEVER THE INPUT: true; the input reads as it did. -/
def commitBreaksSpec : ChangeSpec := { name := "commitBreaks", fn := fun _ => fun
  | [d1, d2, d3, d4, d5] => { results := [.lit (.bool true)], args := [d1, d2, d3, d4, d5] }
  | _ => none }
def commitBreaksRow : OpenClaim := { program := "ytendeagfgpdedaa", sum := "a1f9793e1238b1286efcc8bae394407792831be154fcaf161cd758da7af52b5d", func := "lockwright/lockwrightlaw.CommitBreaks", spec := "commitBreaks", unfollowed := true, recurses := true, apart := false }
def CommitBreaksSaid : Prop := commitBreaksRow.holds Try.pinned (OpenSpec.ofChange commitBreaksSpec)

/-- ITS FALSE NEIGHBOUR: 'it returns false'. Refute it at one input. -/
def commitBreaksWrong : ChangeSpec := { name := "commitBreaks", fn := fun _ => fun
  | [d1, d2, d3, d4, d5] => { results := [.lit (.bool false)], args := [d1, d2, d3, d4, d5] }
  | _ => none }
def CommitBreaksWrongFalsely : Prop := commitBreaksRow.holds Try.pinned (OpenSpec.ofChange commitBreaksWrong)

/-- 'lockwrightlaw.TalkSpeaks': WHATEVER THE INPUT: true; the input reads as it did. -/
def talkSpeaksSpec : ChangeSpec := { name := "talkSpeaks", fn := fun _ => fun
  | [d1, d2, d3, d4] => { results := [.lit (.bool true)], args := [d1, d2, d3, d4] }
  | _ => none }
def talkSpeaksRow : OpenClaim := { program := "ytendeagfgpdedaa", sum := "a1f9793e1238b1286efcc8bae394407792831be154fcaf161cd758da7af52b5d", func := "lockwright/lockwrightlaw.TalkSpeaks", spec := "talkSpeaks", unfollowed := true, recurses := true, apart := false }
def TalkSpeaksSaid : Prop := talkSpeaksRow.holds Try.pinned (OpenSpec.ofChange talkSpeaksSpec)

/-- ITS FALSE NEIGHBOUR: 'it returns false'. Refute it at one input. -/
def talkSpeaksWrong : ChangeSpec := { name := "talkSpeaks", fn := fun _ => fun
  | [d1, d2, d3, d4] => { results := [.lit (.bool false)], args := [d1, d2, d3, d4] }
  | _ => none }
def TalkSpeaksWrongFalsely : Prop := talkSpeaksRow.holds Try.pinned (OpenSpec.ofChange talkSpeaksWrong)

/-- 'lockwrightlaw.TalkChecks': WHATEVER THE INPUT: true; the input reads as it did. -/
def talkChecksSpec : ChangeSpec := { name := "talkChecks", fn := fun _ => fun
  | [d1, d2, d3] => { results := [.lit (.bool true)], args := [d1, d2, d3] }
  | _ => none }
def talkChecksRow : OpenClaim := { program := "ytendeagfgpdedaa", sum := "a1f9793e1238b1286efcc8bae394407792831be154fcaf161cd758da7af52b5d", func := "lockwright/lockwrightlaw.TalkChecks", spec := "talkChecks", unfollowed := true, recurses := true, apart := false }
def TalkChecksSaid : Prop := talkChecksRow.holds Try.pinned (OpenSpec.ofChange talkChecksSpec)

/-- ITS FALSE NEIGHBOUR: 'it returns false'. Refute it at one input. -/
def talkChecksWrong : ChangeSpec := { name := "talkChecks", fn := fun _ => fun
  | [d1, d2, d3] => { results := [.lit (.bool false)], args := [d1, d2, d3] }
  | _ => none }
def TalkChecksWrongFalsely : Prop := talkChecksRow.holds Try.pinned (OpenSpec.ofChange talkChecksWrong)

/- THE SECOND FORM. 'bulk': how many values and letters a reading holds, each counted each time it is reached (what is shared counts as often as it is met; a slice's spare places count too). A statement '..UptoSaid' is the law's where the arguments, and the package variables that the reading takes, are together of bulk at most 1048576: NARROWER than '..Said'. Prove '..Said' where nothing that the law and all that it calls make is longer than what came in: it says more and counts as full. Else prove '..UptoSaid'. A law counts once. -/
mutual
def uptoBulk {H : Type} : DataW H → Nat
  | .lit (.string bytes) => bytes.length + 1
  | .lit _ => 1
  | .nil => 1
  | .ptr d => uptoBulk d + 1
  | .slice elems spare => uptoBulkAll elems + uptoBulkAll spare + 1
  | .agg parts => uptoBulkAll parts + 1
  | .iface _ d => uptoBulk d + 1
  | .map entries => uptoBulkEntries entries + 1
  | .held _ => 1
def uptoBulkAll {H : Type} : List (DataW H) → Nat
  | [] => 0
  | d :: r => uptoBulk d + uptoBulkAll r
def uptoBulkEntries {H : Type} : List (Lit × DataW H) → Nat
  | [] => 0
  | x :: r => uptoBulkEntry x + uptoBulkEntries r
def uptoBulkEntry {H : Type} : Lit × DataW H → Nat
  | (.string bytes, d) => bytes.length + uptoBulk d + 1
  | (_, d) => uptoBulk d + 1
 end
def uptoSmall : (H : Type) → List (DataW H) → Bool := fun _ ds => decide (uptoBulkAll ds ≤ 1048576)
def OpenSpec.upto (s : _root_.Go.ChangeSpec) : _root_.Go.OpenSpec := { _root_.Go.OpenSpec.ofChange s with cond := some uptoSmall }

/-- 'lockwrightlaw.GroupChecks', WHERE WHAT IT READS IS OF BULK AT MOST 1048576: true; the input reads as it did. -/
def groupChecksUptoRow : OpenClaim := { program := "ytendeagfgpdedaa", sum := "a1f9793e1238b1286efcc8bae394407792831be154fcaf161cd758da7af52b5d", func := "lockwright/lockwrightlaw.GroupChecks", spec := "groupChecks", unfollowed := true, recurses := true, apart := false, narrowed := true }
def GroupChecksUptoSaid : Prop := groupChecksUptoRow.holds Try.pinned (OpenSpec.upto groupChecksSpec)

/-- 'lockwrightlaw.GroupShared', WHERE WHAT IT READS IS OF BULK AT MOST 1048576: true; the input reads as it did. -/
def groupSharedUptoRow : OpenClaim := { program := "ytendeagfgpdedaa", sum := "a1f9793e1238b1286efcc8bae394407792831be154fcaf161cd758da7af52b5d", func := "lockwright/lockwrightlaw.GroupShared", spec := "groupShared", unfollowed := true, recurses := true, apart := false, narrowed := true }
def GroupSharedUptoSaid : Prop := groupSharedUptoRow.holds Try.pinned (OpenSpec.upto groupSharedSpec)

/-- 'lockwrightlaw.GroupLocks', WHERE WHAT IT READS IS OF BULK AT MOST 1048576: true; the input reads as it did. -/
def groupLocksUptoRow : OpenClaim := { program := "ytendeagfgpdedaa", sum := "a1f9793e1238b1286efcc8bae394407792831be154fcaf161cd758da7af52b5d", func := "lockwright/lockwrightlaw.GroupLocks", spec := "groupLocks", unfollowed := true, recurses := true, apart := false, narrowed := true }
def GroupLocksUptoSaid : Prop := groupLocksUptoRow.holds Try.pinned (OpenSpec.upto groupLocksSpec)

/-- 'lockwrightlaw.GroupUnlocks', WHERE WHAT IT READS IS OF BULK AT MOST 1048576: true; the input reads as it did. -/
def groupUnlocksUptoRow : OpenClaim := { program := "ytendeagfgpdedaa", sum := "a1f9793e1238b1286efcc8bae394407792831be154fcaf161cd758da7af52b5d", func := "lockwright/lockwrightlaw.GroupUnlocks", spec := "groupUnlocks", unfollowed := true, recurses := true, apart := false, narrowed := true }
def GroupUnlocksUptoSaid : Prop := groupUnlocksUptoRow.holds Try.pinned (OpenSpec.upto groupUnlocksSpec)

/-- 'lockwrightlaw.GroupProducts', WHERE WHAT IT READS IS OF BULK AT MOST 1048576: true; the input reads as it did. -/
def groupProductsUptoRow : OpenClaim := { program := "ytendeagfgpdedaa", sum := "a1f9793e1238b1286efcc8bae394407792831be154fcaf161cd758da7af52b5d", func := "lockwright/lockwrightlaw.GroupProducts", spec := "groupProducts", unfollowed := true, recurses := true, apart := false, narrowed := true }
def GroupProductsUptoSaid : Prop := groupProductsUptoRow.holds Try.pinned (OpenSpec.upto groupProductsSpec)

/-- 'lockwrightlaw.GroupPublics', WHERE WHAT IT READS IS OF BULK AT MOST 1048576: true; the input reads as it did. -/
def groupPublicsUptoRow : OpenClaim := { program := "ytendeagfgpdedaa", sum := "a1f9793e1238b1286efcc8bae394407792831be154fcaf161cd758da7af52b5d", func := "lockwright/lockwrightlaw.GroupPublics", spec := "groupPublics", unfollowed := true, recurses := true, apart := false, narrowed := true }
def GroupPublicsUptoSaid : Prop := groupPublicsUptoRow.holds Try.pinned (OpenSpec.upto groupPublicsSpec)

/-- 'lockwrightlaw.ShakeStarts', WHERE WHAT IT READS IS OF BULK AT MOST 1048576: true; the input reads as it did. -/
def shakeStartsUptoRow : OpenClaim := { program := "ytendeagfgpdedaa", sum := "a1f9793e1238b1286efcc8bae394407792831be154fcaf161cd758da7af52b5d", func := "lockwright/lockwrightlaw.ShakeStarts", spec := "shakeStarts", unfollowed := true, recurses := true, apart := false, narrowed := true }
def ShakeStartsUptoSaid : Prop := shakeStartsUptoRow.holds Try.pinned (OpenSpec.upto shakeStartsSpec)

/-- 'lockwrightlaw.CommitTells', WHERE WHAT IT READS IS OF BULK AT MOST 1048576: true; the input reads as it did. -/
def commitTellsUptoRow : OpenClaim := { program := "ytendeagfgpdedaa", sum := "a1f9793e1238b1286efcc8bae394407792831be154fcaf161cd758da7af52b5d", func := "lockwright/lockwrightlaw.CommitTells", spec := "commitTells", unfollowed := true, recurses := true, apart := false, narrowed := true }
def CommitTellsUptoSaid : Prop := commitTellsUptoRow.holds Try.pinned (OpenSpec.upto commitTellsSpec)

/-- 'lockwrightlaw.CommitOthers', WHERE WHAT IT READS IS OF BULK AT MOST 1048576: true; the input reads as it did. -/
def commitOthersUptoRow : OpenClaim := { program := "ytendeagfgpdedaa", sum := "a1f9793e1238b1286efcc8bae394407792831be154fcaf161cd758da7af52b5d", func := "lockwright/lockwrightlaw.CommitOthers", spec := "commitOthers", unfollowed := true, recurses := true, apart := false, narrowed := true }
def CommitOthersUptoSaid : Prop := commitOthersUptoRow.holds Try.pinned (OpenSpec.upto commitOthersSpec)

/-- 'lockwrightlaw.CommitBreaks', WHERE WHAT IT READS IS OF BULK AT MOST 1048576: true; the input reads as it did. -/
def commitBreaksUptoRow : OpenClaim := { program := "ytendeagfgpdedaa", sum := "a1f9793e1238b1286efcc8bae394407792831be154fcaf161cd758da7af52b5d", func := "lockwright/lockwrightlaw.CommitBreaks", spec := "commitBreaks", unfollowed := true, recurses := true, apart := false, narrowed := true }
def CommitBreaksUptoSaid : Prop := commitBreaksUptoRow.holds Try.pinned (OpenSpec.upto commitBreaksSpec)

/-- 'lockwrightlaw.TalkSpeaks', WHERE WHAT IT READS IS OF BULK AT MOST 1048576: true; the input reads as it did. -/
def talkSpeaksUptoRow : OpenClaim := { program := "ytendeagfgpdedaa", sum := "a1f9793e1238b1286efcc8bae394407792831be154fcaf161cd758da7af52b5d", func := "lockwright/lockwrightlaw.TalkSpeaks", spec := "talkSpeaks", unfollowed := true, recurses := true, apart := false, narrowed := true }
def TalkSpeaksUptoSaid : Prop := talkSpeaksUptoRow.holds Try.pinned (OpenSpec.upto talkSpeaksSpec)

/-- 'lockwrightlaw.TalkChecks', WHERE WHAT IT READS IS OF BULK AT MOST 1048576: true; the input reads as it did. -/
def talkChecksUptoRow : OpenClaim := { program := "ytendeagfgpdedaa", sum := "a1f9793e1238b1286efcc8bae394407792831be154fcaf161cd758da7af52b5d", func := "lockwright/lockwrightlaw.TalkChecks", spec := "talkChecks", unfollowed := true, recurses := true, apart := false, narrowed := true }
def TalkChecksUptoSaid : Prop := talkChecksUptoRow.holds Try.pinned (OpenSpec.upto talkChecksSpec)

end Rows
end Go.Proofs.Ytendeagfgpdedaa
