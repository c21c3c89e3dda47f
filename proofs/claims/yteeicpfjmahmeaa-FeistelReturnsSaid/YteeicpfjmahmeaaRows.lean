/-
  No cell of these rows narrows 'for every input' (looked for: loops, veiled, ifaces, maps, wideKeys, modest, calm, conditions, laid).
  DERIVED. THE GIVEN ROWS OF THIS SEAT. 10 by the template 'for every input the law returns true; each argument reads behind the call as it read before'; 0 by the template 'total and deterministic' (their statements: YteeicpfjmahmeaaTotals.lean).
  GIVEN WITH THE SEED: the statements are not yours to turn. If you find one false, say at which input.
  Laid BY PROGRAM, IN A SANDBOX (cutbox-rows.mjs): the forced cells as the released guide's own fill.sh prints them over the translation a8bd996f9e3aa499… (all of the seat's roots in one cut). By AI agents, Wed Nov 11 2026. No macro, syntax, notation, axiom, sorry.
-/
import Derived.Test.YteeicpfjmahmeaaChecked
import GoSem.Claim
import GoSem.ClaimJoined
import GoSem.ClaimMapViews
import Derived.JoinedTies
import Derived.KernelRfl
namespace Go.Proofs.Yteeicpfjmahmeaa
/- THE CELL 'sum', in the pinned program and in every row, IS THE sha256 OF THE DUMP (.gsa) THAT YteeicpfjmahmeaaProg.lean LOADS. Nothing in Lean hashes anything: it is a label: what it is worth is what the hold of that sum in a sandbox is worth. -/
noncomputable def Try.pinned : Pinned := { name := "yteeicpfjmahmeaa", sum := "a8bd996f9e3aa499a648f14fc50b688ceec270502b465277b183515ca9239792", checked := Try.checked }
namespace Rows
def none {H : Type} : Left H := { results := [], args := [] }

/-- 'lockwrightlaw.WalshWaves': WHATEVER THE INPUT: true; the input reads as it did. -/
def walshWavesSpec : ChangeSpec := { name := "walshWaves", fn := fun _ => fun
  | [d1, d2] => { results := [.lit (.bool true)], args := [d1, d2] }
  | _ => none }
def walshWavesRow : OpenClaim := { program := "yteeicpfjmahmeaa", sum := "a8bd996f9e3aa499a648f14fc50b688ceec270502b465277b183515ca9239792", func := "lockwright/lockwrightlaw.WalshWaves", spec := "walshWaves", unfollowed := true, recurses := true, apart := false }
def WalshWavesSaid : Prop := walshWavesRow.holds Try.pinned (OpenSpec.ofChange walshWavesSpec)

/-- ITS FALSE NEIGHBOUR: 'it returns false'. Refute it at one input. -/
def walshWavesWrong : ChangeSpec := { name := "walshWaves", fn := fun _ => fun
  | [d1, d2] => { results := [.lit (.bool false)], args := [d1, d2] }
  | _ => none }
def WalshWavesWrongFalsely : Prop := walshWavesRow.holds Try.pinned (OpenSpec.ofChange walshWavesWrong)

/-- 'lockwrightlaw.WalshSums': WHATEVER THE INPUT: true; the input reads as it did. -/
def walshSumsSpec : ChangeSpec := { name := "walshSums", fn := fun _ => fun
  | [d1, d2] => { results := [.lit (.bool true)], args := [d1, d2] }
  | _ => none }
def walshSumsRow : OpenClaim := { program := "yteeicpfjmahmeaa", sum := "a8bd996f9e3aa499a648f14fc50b688ceec270502b465277b183515ca9239792", func := "lockwright/lockwrightlaw.WalshSums", spec := "walshSums", unfollowed := true, recurses := true, apart := false }
def WalshSumsSaid : Prop := walshSumsRow.holds Try.pinned (OpenSpec.ofChange walshSumsSpec)

/-- ITS FALSE NEIGHBOUR: 'it returns false'. Refute it at one input. -/
def walshSumsWrong : ChangeSpec := { name := "walshSums", fn := fun _ => fun
  | [d1, d2] => { results := [.lit (.bool false)], args := [d1, d2] }
  | _ => none }
def WalshSumsWrongFalsely : Prop := walshSumsRow.holds Try.pinned (OpenSpec.ofChange walshSumsWrong)

/-- 'lockwrightlaw.PadChecks': WHATEVER THE INPUT: true; the input reads as it did. -/
def padChecksSpec : ChangeSpec := { name := "padChecks", fn := fun _ => fun
  | [d] => { results := [.lit (.bool true)], args := [d] }
  | _ => none }
def padChecksRow : OpenClaim := { program := "yteeicpfjmahmeaa", sum := "a8bd996f9e3aa499a648f14fc50b688ceec270502b465277b183515ca9239792", func := "lockwright/lockwrightlaw.PadChecks", spec := "padChecks", unfollowed := true, recurses := true, apart := false }
def PadChecksSaid : Prop := padChecksRow.holds Try.pinned (OpenSpec.ofChange padChecksSpec)

/-- ITS FALSE NEIGHBOUR: 'it returns false'. Refute it at one input. -/
def padChecksWrong : ChangeSpec := { name := "padChecks", fn := fun _ => fun
  | [d] => { results := [.lit (.bool false)], args := [d] }
  | _ => none }
def PadChecksWrongFalsely : Prop := padChecksRow.holds Try.pinned (OpenSpec.ofChange padChecksWrong)

/-- 'lockwrightlaw.FeistelSeals': WHATEVER THE INPUT: true; the input reads as it did. -/
def feistelSealsSpec : ChangeSpec := { name := "feistelSeals", fn := fun _ => fun
  | [d1, d2] => { results := [.lit (.bool true)], args := [d1, d2] }
  | _ => none }
def feistelSealsRow : OpenClaim := { program := "yteeicpfjmahmeaa", sum := "a8bd996f9e3aa499a648f14fc50b688ceec270502b465277b183515ca9239792", func := "lockwright/lockwrightlaw.FeistelSeals", spec := "feistelSeals", unfollowed := true, recurses := true, apart := false }
def FeistelSealsSaid : Prop := feistelSealsRow.holds Try.pinned (OpenSpec.ofChange feistelSealsSpec)

/-- ITS FALSE NEIGHBOUR: 'it returns false'. Refute it at one input. -/
def feistelSealsWrong : ChangeSpec := { name := "feistelSeals", fn := fun _ => fun
  | [d1, d2] => { results := [.lit (.bool false)], args := [d1, d2] }
  | _ => none }
def FeistelSealsWrongFalsely : Prop := feistelSealsRow.holds Try.pinned (OpenSpec.ofChange feistelSealsWrong)

/-- 'lockwrightlaw.PadPlain': WHATEVER THE INPUT: true; the input reads as it did. -/
def padPlainSpec : ChangeSpec := { name := "padPlain", fn := fun _ => fun
  | [d] => { results := [.lit (.bool true)], args := [d] }
  | _ => none }
def padPlainRow : OpenClaim := { program := "yteeicpfjmahmeaa", sum := "a8bd996f9e3aa499a648f14fc50b688ceec270502b465277b183515ca9239792", func := "lockwright/lockwrightlaw.PadPlain", spec := "padPlain", unfollowed := true, recurses := true, apart := false }
def PadPlainSaid : Prop := padPlainRow.holds Try.pinned (OpenSpec.ofChange padPlainSpec)

/-- ITS FALSE NEIGHBOUR: 'it returns false'. Refute it at one input. -/
def padPlainWrong : ChangeSpec := { name := "padPlain", fn := fun _ => fun
  | [d] => { results := [.lit (.bool false)], args := [d] }
  | _ => none }
def PadPlainWrongFalsely : Prop := padPlainRow.holds Try.pinned (OpenSpec.ofChange padPlainWrong)

/-- 'lockwrightlaw.FeistelOpens': WHATEVER THE INPUT: true; the input reads as it did. -/
def feistelOpensSpec : ChangeSpec := { name := "feistelOpens", fn := fun _ => fun
  | [d1, d2] => { results := [.lit (.bool true)], args := [d1, d2] }
  | _ => none }
def feistelOpensRow : OpenClaim := { program := "yteeicpfjmahmeaa", sum := "a8bd996f9e3aa499a648f14fc50b688ceec270502b465277b183515ca9239792", func := "lockwright/lockwrightlaw.FeistelOpens", spec := "feistelOpens", unfollowed := true, recurses := true, apart := false }
def FeistelOpensSaid : Prop := feistelOpensRow.holds Try.pinned (OpenSpec.ofChange feistelOpensSpec)

/-- ITS FALSE NEIGHBOUR: 'it returns false'. Refute it at one input. -/
def feistelOpensWrong : ChangeSpec := { name := "feistelOpens", fn := fun _ => fun
  | [d1, d2] => { results := [.lit (.bool false)], args := [d1, d2] }
  | _ => none }
def FeistelOpensWrongFalsely : Prop := feistelOpensRow.holds Try.pinned (OpenSpec.ofChange feistelOpensWrong)

/-- 'lockwrightlaw.PadSeeks': WHATEVER THE INPUT: true; the input reads as it did. -/
def padSeeksSpec : ChangeSpec := { name := "padSeeks", fn := fun _ => fun
  | [d1, d2, d3] => { results := [.lit (.bool true)], args := [d1, d2, d3] }
  | _ => none }
def padSeeksRow : OpenClaim := { program := "yteeicpfjmahmeaa", sum := "a8bd996f9e3aa499a648f14fc50b688ceec270502b465277b183515ca9239792", func := "lockwright/lockwrightlaw.PadSeeks", spec := "padSeeks", unfollowed := true, recurses := true, apart := false }
def PadSeeksSaid : Prop := padSeeksRow.holds Try.pinned (OpenSpec.ofChange padSeeksSpec)

/-- ITS FALSE NEIGHBOUR: 'it returns false'. Refute it at one input. -/
def padSeeksWrong : ChangeSpec := { name := "padSeeks", fn := fun _ => fun
  | [d1, d2, d3] => { results := [.lit (.bool false)], args := [d1, d2, d3] }
  | _ => none }
def PadSeeksWrongFalsely : Prop := padSeeksRow.holds Try.pinned (OpenSpec.ofChange padSeeksWrong)

/-- 'lockwrightlaw.WalshImmune': WHATEVER THE INPUT: true; the input reads as it did. -/
def walshImmuneSpec : ChangeSpec := { name := "walshImmune", fn := fun _ => fun
  | [d1, d2, d3] => { results := [.lit (.bool true)], args := [d1, d2, d3] }
  | _ => none }
def walshImmuneRow : OpenClaim := { program := "yteeicpfjmahmeaa", sum := "a8bd996f9e3aa499a648f14fc50b688ceec270502b465277b183515ca9239792", func := "lockwright/lockwrightlaw.WalshImmune", spec := "walshImmune", unfollowed := true, recurses := true, apart := false }
def WalshImmuneSaid : Prop := walshImmuneRow.holds Try.pinned (OpenSpec.ofChange walshImmuneSpec)

/-- ITS FALSE NEIGHBOUR: 'it returns false'. Refute it at one input. -/
def walshImmuneWrong : ChangeSpec := { name := "walshImmune", fn := fun _ => fun
  | [d1, d2, d3] => { results := [.lit (.bool false)], args := [d1, d2, d3] }
  | _ => none }
def WalshImmuneWrongFalsely : Prop := walshImmuneRow.holds Try.pinned (OpenSpec.ofChange walshImmuneWrong)

/-- 'lockwrightlaw.PadPerfect': WHATEVER THE INPUT: true; the input reads as it did. -/
def padPerfectSpec : ChangeSpec := { name := "padPerfect", fn := fun _ => fun
  | [d] => { results := [.lit (.bool true)], args := [d] }
  | _ => none }
def padPerfectRow : OpenClaim := { program := "yteeicpfjmahmeaa", sum := "a8bd996f9e3aa499a648f14fc50b688ceec270502b465277b183515ca9239792", func := "lockwright/lockwrightlaw.PadPerfect", spec := "padPerfect", unfollowed := true, recurses := true, apart := false }
def PadPerfectSaid : Prop := padPerfectRow.holds Try.pinned (OpenSpec.ofChange padPerfectSpec)

/-- ITS FALSE NEIGHBOUR: 'it returns false'. Refute it at one input. -/
def padPerfectWrong : ChangeSpec := { name := "padPerfect", fn := fun _ => fun
  | [d] => { results := [.lit (.bool false)], args := [d] }
  | _ => none }
def PadPerfectWrongFalsely : Prop := padPerfectRow.holds Try.pinned (OpenSpec.ofChange padPerfectWrong)

/-- 'lockwrightlaw.FeistelReturns': WHATEVER THE INPUT: true; the input reads as it did. -/
def feistelReturnsSpec : ChangeSpec := { name := "feistelReturns", fn := fun _ => fun
  | [d] => { results := [.lit (.bool true)], args := [d] }
  | _ => none }
def feistelReturnsRow : OpenClaim := { program := "yteeicpfjmahmeaa", sum := "a8bd996f9e3aa499a648f14fc50b688ceec270502b465277b183515ca9239792", func := "lockwright/lockwrightlaw.FeistelReturns", spec := "feistelReturns", unfollowed := true, recurses := true, apart := false }
def FeistelReturnsSaid : Prop := feistelReturnsRow.holds Try.pinned (OpenSpec.ofChange feistelReturnsSpec)

/-- ITS FALSE NEIGHBOUR: 'it returns false'. Refute it at one input. -/
def feistelReturnsWrong : ChangeSpec := { name := "feistelReturns", fn := fun _ => fun
  | [d] => { results := [.lit (.bool false)], args := [d] }
  | _ => none }
def FeistelReturnsWrongFalsely : Prop := feistelReturnsRow.holds Try.pinned (OpenSpec.ofChange feistelReturnsWrong)

/- THE SECOND FORM. 'bulk': how many values and letters a reading holds, each counted each time it is reached (what is shared counts as often as it is met; a slice's spare places count too). A statement '..UptoSaid' is the law's where the arguments, and the package variables that the reading takes, are together of bulk at most 1048576: NARROWER than '..Said'. Prove '..Said' where nothing that the law and all that it calls make is longer than what came in: it says more and counts as full. Else prove '..UptoSaid'. A law counts once. -/
mutual
def uptoBulk {H : Type} : DataW H → Nat
  | .lit (.string bytes) => bytes.length + 1
  | .lit _ => 1
  | .nil => 1
  | .ptr d => uptoBulk d + 1
  | .slice elems spare => uptoBulkAll elems + uptoBulkAll spare + 1
  | .agg parts => uptoBulkAll parts + 1
  | .iface _ d => uptoBulk d + 1
  | .map entries => uptoBulkEntries entries + 1
  | .held _ => 1
def uptoBulkAll {H : Type} : List (DataW H) → Nat
  | [] => 0
  | d :: r => uptoBulk d + uptoBulkAll r
def uptoBulkEntries {H : Type} : List (Lit × DataW H) → Nat
  | [] => 0
  | x :: r => uptoBulkEntry x + uptoBulkEntries r
def uptoBulkEntry {H : Type} : Lit × DataW H → Nat
  | (.string bytes, d) => bytes.length + uptoBulk d + 1
  | (_, d) => uptoBulk d + 1
 end
def uptoSmall : (H : Type) → List (DataW H) → Bool := fun _ ds => decide (uptoBulkAll ds ≤ 1048576)
def OpenSpec.upto (s : _root_.Go.ChangeSpec) : _root_.Go.OpenSpec := { _root_.Go.OpenSpec.ofChange s with cond := some uptoSmall }

/-- 'lockwrightlaw.WalshWaves', WHERE WHAT IT READS IS OF BULK AT MOST 1048576: true; the input reads as it did. -/
def walshWavesUptoRow : OpenClaim := { program := "yteeicpfjmahmeaa", sum := "a8bd996f9e3aa499a648f14fc50b688ceec270502b465277b183515ca9239792", func := "lockwright/lockwrightlaw.WalshWaves", spec := "walshWaves", unfollowed := true, recurses := true, apart := false, narrowed := true }
def WalshWavesUptoSaid : Prop := walshWavesUptoRow.holds Try.pinned (OpenSpec.upto walshWavesSpec)

/-- 'lockwrightlaw.WalshSums', WHERE WHAT IT READS IS OF BULK AT MOST 1048576: true; the input reads as it did. -/
def walshSumsUptoRow : OpenClaim := { program := "yteeicpfjmahmeaa", sum := "a8bd996f9e3aa499a648f14fc50b688ceec270502b465277b183515ca9239792", func := "lockwright/lockwrightlaw.WalshSums", spec := "walshSums", unfollowed := true, recurses := true, apart := false, narrowed := true }
def WalshSumsUptoSaid : Prop := walshSumsUptoRow.holds Try.pinned (OpenSpec.upto walshSumsSpec)

/-- 'lockwrightlaw.PadChecks', WHERE WHAT IT READS IS OF BULK AT MOST 1048576: true; the input reads as it did. -/
def padChecksUptoRow : OpenClaim := { program := "yteeicpfjmahmeaa", sum := "a8bd996f9e3aa499a648f14fc50b688ceec270502b465277b183515ca9239792", func := "lockwright/lockwrightlaw.PadChecks", spec := "padChecks", unfollowed := true, recurses := true, apart := false, narrowed := true }
def PadChecksUptoSaid : Prop := padChecksUptoRow.holds Try.pinned (OpenSpec.upto padChecksSpec)

/-- 'lockwrightlaw.FeistelSeals', WHERE WHAT IT READS IS OF BULK AT MOST 1048576: true; the input reads as it did. -/
def feistelSealsUptoRow : OpenClaim := { program := "yteeicpfjmahmeaa", sum := "a8bd996f9e3aa499a648f14fc50b688ceec270502b465277b183515ca9239792", func := "lockwright/lockwrightlaw.FeistelSeals", spec := "feistelSeals", unfollowed := true, recurses := true, apart := false, narrowed := true }
def FeistelSealsUptoSaid : Prop := feistelSealsUptoRow.holds Try.pinned (OpenSpec.upto feistelSealsSpec)

/-- 'lockwrightlaw.PadPlain', WHERE WHAT IT READS IS OF BULK AT MOST 1048576: true; the input reads as it did. -/
def padPlainUptoRow : OpenClaim := { program := "yteeicpfjmahmeaa", sum := "a8bd996f9e3aa499a648f14fc50b688ceec270502b465277b183515ca9239792", func := "lockwright/lockwrightlaw.PadPlain", spec := "padPlain", unfollowed := true, recurses := true, apart := false, narrowed := true }
def PadPlainUptoSaid : Prop := padPlainUptoRow.holds Try.pinned (OpenSpec.upto padPlainSpec)

/-- 'lockwrightlaw.FeistelOpens', WHERE WHAT IT READS IS OF BULK AT MOST 1048576: true; the input reads as it did. -/
def feistelOpensUptoRow : OpenClaim := { program := "yteeicpfjmahmeaa", sum := "a8bd996f9e3aa499a648f14fc50b688ceec270502b465277b183515ca9239792", func := "lockwright/lockwrightlaw.FeistelOpens", spec := "feistelOpens", unfollowed := true, recurses := true, apart := false, narrowed := true }
def FeistelOpensUptoSaid : Prop := feistelOpensUptoRow.holds Try.pinned (OpenSpec.upto feistelOpensSpec)

/-- 'lockwrightlaw.PadSeeks', WHERE WHAT IT READS IS OF BULK AT MOST 1048576: true; the input reads as it did. -/
def padSeeksUptoRow : OpenClaim := { program := "yteeicpfjmahmeaa", sum := "a8bd996f9e3aa499a648f14fc50b688ceec270502b465277b183515ca9239792", func := "lockwright/lockwrightlaw.PadSeeks", spec := "padSeeks", unfollowed := true, recurses := true, apart := false, narrowed := true }
def PadSeeksUptoSaid : Prop := padSeeksUptoRow.holds Try.pinned (OpenSpec.upto padSeeksSpec)

/-- 'lockwrightlaw.WalshImmune', WHERE WHAT IT READS IS OF BULK AT MOST 1048576: true; the input reads as it did. -/
def walshImmuneUptoRow : OpenClaim := { program := "yteeicpfjmahmeaa", sum := "a8bd996f9e3aa499a648f14fc50b688ceec270502b465277b183515ca9239792", func := "lockwright/lockwrightlaw.WalshImmune", spec := "walshImmune", unfollowed := true, recurses := true, apart := false, narrowed := true }
def WalshImmuneUptoSaid : Prop := walshImmuneUptoRow.holds Try.pinned (OpenSpec.upto walshImmuneSpec)

/-- 'lockwrightlaw.PadPerfect', WHERE WHAT IT READS IS OF BULK AT MOST 1048576: true; the input reads as it did. -/
def padPerfectUptoRow : OpenClaim := { program := "yteeicpfjmahmeaa", sum := "a8bd996f9e3aa499a648f14fc50b688ceec270502b465277b183515ca9239792", func := "lockwright/lockwrightlaw.PadPerfect", spec := "padPerfect", unfollowed := true, recurses := true, apart := false, narrowed := true }
def PadPerfectUptoSaid : Prop := padPerfectUptoRow.holds Try.pinned (OpenSpec.upto padPerfectSpec)

/-- 'lockwrightlaw.FeistelReturns', WHERE WHAT IT READS IS OF BULK AT MOST 1048576: true; the input reads as it did. -/
def feistelReturnsUptoRow : OpenClaim := { program := "yteeicpfjmahmeaa", sum := "a8bd996f9e3aa499a648f14fc50b688ceec270502b465277b183515ca9239792", func := "lockwright/lockwrightlaw.FeistelReturns", spec := "feistelReturns", unfollowed := true, recurses := true, apart := false, narrowed := true }
def FeistelReturnsUptoSaid : Prop := feistelReturnsUptoRow.holds Try.pinned (OpenSpec.upto feistelReturnsSpec)

end Rows
end Go.Proofs.Yteeicpfjmahmeaa
