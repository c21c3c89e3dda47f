/-
  No cell of these rows narrows 'for every input' (looked for: loops, veiled, ifaces, maps, wideKeys, modest, calm, conditions, laid).
  DERIVED. THE GIVEN ROWS OF THIS SEAT. 6 by the template 'for every input the law returns true; each argument reads behind the call as it read before'; 0 by the template 'total and deterministic' (their statements: YtfidmmgcmfnleaaTotals.lean).
  GIVEN WITH THE SEED: the statements are not yours to turn. If you find one false, say at which input.
  Laid BY PROGRAM, IN A SANDBOX (cutbox-rows.mjs): the forced cells as the released guide's own fill.sh prints them over the translation bf8b96eeb25f0f74… (all of the seat's roots in one cut). By AI agents, Wed Nov 11 2026. No macro, syntax, notation, axiom, sorry.
-/
import Derived.Test.YtfidmmgcmfnleaaChecked
import GoSem.Claim
import GoSem.ClaimJoined
import GoSem.ClaimMapViews
import Derived.JoinedTies
import Derived.KernelRfl
namespace Go.Proofs.Ytfidmmgcmfnleaa
/- THE CELL 'sum', in the pinned program and in every row, IS THE sha256 OF THE DUMP (.gsa) THAT YtfidmmgcmfnleaaProg.lean LOADS. Nothing in Lean hashes anything: it is a label: what it is worth is what the hold of that sum in a sandbox is worth. -/
noncomputable def Try.pinned : Pinned := { name := "ytfidmmgcmfnleaa", sum := "bf8b96eeb25f0f747184b838b9e3de20b051e692ce7b040e424ebfcbd87d9972", checked := Try.checked }
namespace Rows
def none {H : Type} : Left H := { results := [], args := [] }

/-- 'lockwrightlaw.TalkFakes': WHATEVER THE INPUT: true; the input reads as it did. -/
def talkFakesSpec : ChangeSpec := { name := "talkFakes", fn := fun _ => fun
  | [d1, d2, d3, d4] => { results := [.lit (.bool true)], args := [d1, d2, d3, d4] }
  | _ => none }
def talkFakesRow : OpenClaim := { program := "ytfidmmgcmfnleaa", sum := "bf8b96eeb25f0f747184b838b9e3de20b051e692ce7b040e424ebfcbd87d9972", func := "lockwright/lockwrightlaw.TalkFakes", spec := "talkFakes", unfollowed := true, recurses := true, apart := false }
def TalkFakesSaid : Prop := talkFakesRow.holds Try.pinned (OpenSpec.ofChange talkFakesSpec)

/-- ITS FALSE NEIGHBOUR: 'it returns false'. Refute it at one input. -/
def talkFakesWrong : ChangeSpec := { name := "talkFakes", fn := fun _ => fun
  | [d1, d2, d3, d4] => { results := [.lit (.bool false)], args := [d1, d2, d3, d4] }
  | _ => none }
def TalkFakesWrongFalsely : Prop := talkFakesRow.holds Try.pinned (OpenSpec.ofChange talkFakesWrong)

/-- 'lockwrightlaw.TalkExtracts': WHATEVER THE INPUT: true; the input reads as it did. -/
def talkExtractsSpec : ChangeSpec := { name := "talkExtracts", fn := fun _ => fun
  | [d1, d2, d3, d4] => { results := [.lit (.bool true)], args := [d1, d2, d3, d4] }
  | _ => none }
def talkExtractsRow : OpenClaim := { program := "ytfidmmgcmfnleaa", sum := "bf8b96eeb25f0f747184b838b9e3de20b051e692ce7b040e424ebfcbd87d9972", func := "lockwright/lockwrightlaw.TalkExtracts", spec := "talkExtracts", unfollowed := true, recurses := true, apart := false }
def TalkExtractsSaid : Prop := talkExtractsRow.holds Try.pinned (OpenSpec.ofChange talkExtractsSpec)

/-- ITS FALSE NEIGHBOUR: 'it returns false'. Refute it at one input. -/
def talkExtractsWrong : ChangeSpec := { name := "talkExtracts", fn := fun _ => fun
  | [d1, d2, d3, d4] => { results := [.lit (.bool false)], args := [d1, d2, d3, d4] }
  | _ => none }
def TalkExtractsWrongFalsely : Prop := talkExtractsRow.holds Try.pinned (OpenSpec.ofChange talkExtractsWrong)

/-- 'lockwrightlaw.TalkWrites': WHATEVER THE INPUT: true; the input reads as it did. -/
def talkWritesSpec : ChangeSpec := { name := "talkWrites", fn := fun _ => fun
  | [d1, d2, d3, d4] => { results := [.lit (.bool true)], args := [d1, d2, d3, d4] }
  | _ => none }
def talkWritesRow : OpenClaim := { program := "ytfidmmgcmfnleaa", sum := "bf8b96eeb25f0f747184b838b9e3de20b051e692ce7b040e424ebfcbd87d9972", func := "lockwright/lockwrightlaw.TalkWrites", spec := "talkWrites", unfollowed := true, recurses := true, apart := false }
def TalkWritesSaid : Prop := talkWritesRow.holds Try.pinned (OpenSpec.ofChange talkWritesSpec)

/-- ITS FALSE NEIGHBOUR: 'it returns false'. Refute it at one input. -/
def talkWritesWrong : ChangeSpec := { name := "talkWrites", fn := fun _ => fun
  | [d1, d2, d3, d4] => { results := [.lit (.bool false)], args := [d1, d2, d3, d4] }
  | _ => none }
def TalkWritesWrongFalsely : Prop := talkWritesRow.holds Try.pinned (OpenSpec.ofChange talkWritesWrong)

/-- 'lockwrightlaw.TalkVerifies': WHATEVER THE INPUT: true; the input reads as it did. -/
def talkVerifiesSpec : ChangeSpec := { name := "talkVerifies", fn := fun _ => fun
  | [d1, d2, d3, d4] => { results := [.lit (.bool true)], args := [d1, d2, d3, d4] }
  | _ => none }
def talkVerifiesRow : OpenClaim := { program := "ytfidmmgcmfnleaa", sum := "bf8b96eeb25f0f747184b838b9e3de20b051e692ce7b040e424ebfcbd87d9972", func := "lockwright/lockwrightlaw.TalkVerifies", spec := "talkVerifies", unfollowed := true, recurses := true, apart := false }
def TalkVerifiesSaid : Prop := talkVerifiesRow.holds Try.pinned (OpenSpec.ofChange talkVerifiesSpec)

/-- ITS FALSE NEIGHBOUR: 'it returns false'. Refute it at one input. -/
def talkVerifiesWrong : ChangeSpec := { name := "talkVerifies", fn := fun _ => fun
  | [d1, d2, d3, d4] => { results := [.lit (.bool false)], args := [d1, d2, d3, d4] }
  | _ => none }
def TalkVerifiesWrongFalsely : Prop := talkVerifiesRow.holds Try.pinned (OpenSpec.ofChange talkVerifiesWrong)

/-- 'lockwrightlaw.ShakeAnswers': WHATEVER THE INPUT: true; the input reads as it did. -/
def shakeAnswersSpec : ChangeSpec := { name := "shakeAnswers", fn := fun _ => fun
  | [d1, d2, d3, d4] => { results := [.lit (.bool true)], args := [d1, d2, d3, d4] }
  | _ => none }
def shakeAnswersRow : OpenClaim := { program := "ytfidmmgcmfnleaa", sum := "bf8b96eeb25f0f747184b838b9e3de20b051e692ce7b040e424ebfcbd87d9972", func := "lockwright/lockwrightlaw.ShakeAnswers", spec := "shakeAnswers", unfollowed := true, recurses := true, apart := false }
def ShakeAnswersSaid : Prop := shakeAnswersRow.holds Try.pinned (OpenSpec.ofChange shakeAnswersSpec)

/-- ITS FALSE NEIGHBOUR: 'it returns false'. Refute it at one input. -/
def shakeAnswersWrong : ChangeSpec := { name := "shakeAnswers", fn := fun _ => fun
  | [d1, d2, d3, d4] => { results := [.lit (.bool false)], args := [d1, d2, d3, d4] }
  | _ => none }
def ShakeAnswersWrongFalsely : Prop := shakeAnswersRow.holds Try.pinned (OpenSpec.ofChange shakeAnswersWrong)

/-- 'lockwrightlaw.ShakeEnds': WHATEVER THE INPUT: true; the input reads as it did. -/
def shakeEndsSpec : ChangeSpec := { name := "shakeEnds", fn := fun _ => fun
  | [d1, d2, d3, d4] => { results := [.lit (.bool true)], args := [d1, d2, d3, d4] }
  | _ => none }
def shakeEndsRow : OpenClaim := { program := "ytfidmmgcmfnleaa", sum := "bf8b96eeb25f0f747184b838b9e3de20b051e692ce7b040e424ebfcbd87d9972", func := "lockwright/lockwrightlaw.ShakeEnds", spec := "shakeEnds", unfollowed := true, recurses := true, apart := false }
def ShakeEndsSaid : Prop := shakeEndsRow.holds Try.pinned (OpenSpec.ofChange shakeEndsSpec)

/-- ITS FALSE NEIGHBOUR: 'it returns false'. Refute it at one input. -/
def shakeEndsWrong : ChangeSpec := { name := "shakeEnds", fn := fun _ => fun
  | [d1, d2, d3, d4] => { results := [.lit (.bool false)], args := [d1, d2, d3, d4] }
  | _ => none }
def ShakeEndsWrongFalsely : Prop := shakeEndsRow.holds Try.pinned (OpenSpec.ofChange shakeEndsWrong)

/- THE SECOND FORM. 'bulk': how many values and letters a reading holds, each counted each time it is reached (what is shared counts as often as it is met; a slice's spare places count too). A statement '..UptoSaid' is the law's where the arguments, and the package variables that the reading takes, are together of bulk at most 1048576: NARROWER than '..Said'. Prove '..Said' where nothing that the law and all that it calls make is longer than what came in: it says more and counts as full. Else prove '..UptoSaid'. A law counts once. -/
mutual
def uptoBulk {H : Type} : DataW H → Nat
  | .lit (.string bytes) => bytes.length + 1
  | .lit _ => 1
  | .nil => 1
  | .ptr d => uptoBulk d + 1
  | .slice elems spare => uptoBulkAll elems + uptoBulkAll spare + 1
  | .agg parts => uptoBulkAll parts + 1
  | .iface _ d => uptoBulk d + 1
  | .map entries => uptoBulkEntries entries + 1
  | .held _ => 1
def uptoBulkAll {H : Type} : List (DataW H) → Nat
  | [] => 0
  | d :: r => uptoBulk d + uptoBulkAll r
def uptoBulkEntries {H : Type} : List (Lit × DataW H) → Nat
  | [] => 0
  | x :: r => uptoBulkEntry x + uptoBulkEntries r
def uptoBulkEntry {H : Type} : Lit × DataW H → Nat
  | (.string bytes, d) => bytes.length + uptoBulk d + 1
  | (_, d) => uptoBulk d + 1
 end
def uptoSmall : (H : Type) → List (DataW H) → Bool := fun _ ds => decide (uptoBulkAll ds ≤ 1048576)
def OpenSpec.upto (s : _root_.Go.ChangeSpec) : _root_.Go.OpenSpec := { _root_.Go.OpenSpec.ofChange s with cond := some uptoSmall }

/-- 'lockwrightlaw.TalkFakes', WHERE WHAT IT READS IS OF BULK AT MOST 1048576: true; the input reads as it did. -/
def talkFakesUptoRow : OpenClaim := { program := "ytfidmmgcmfnleaa", sum := "bf8b96eeb25f0f747184b838b9e3de20b051e692ce7b040e424ebfcbd87d9972", func := "lockwright/lockwrightlaw.TalkFakes", spec := "talkFakes", unfollowed := true, recurses := true, apart := false, narrowed := true }
def TalkFakesUptoSaid : Prop := talkFakesUptoRow.holds Try.pinned (OpenSpec.upto talkFakesSpec)

/-- 'lockwrightlaw.TalkExtracts', WHERE WHAT IT READS IS OF BULK AT MOST 1048576: true; the input reads as it did. -/
def talkExtractsUptoRow : OpenClaim := { program := "ytfidmmgcmfnleaa", sum := "bf8b96eeb25f0f747184b838b9e3de20b051e692ce7b040e424ebfcbd87d9972", func := "lockwright/lockwrightlaw.TalkExtracts", spec := "talkExtracts", unfollowed := true, recurses := true, apart := false, narrowed := true }
def TalkExtractsUptoSaid : Prop := talkExtractsUptoRow.holds Try.pinned (OpenSpec.upto talkExtractsSpec)

/-- 'lockwrightlaw.TalkWrites', WHERE WHAT IT READS IS OF BULK AT MOST 1048576: true; the input reads as it did. -/
def talkWritesUptoRow : OpenClaim := { program := "ytfidmmgcmfnleaa", sum := "bf8b96eeb25f0f747184b838b9e3de20b051e692ce7b040e424ebfcbd87d9972", func := "lockwright/lockwrightlaw.TalkWrites", spec := "talkWrites", unfollowed := true, recurses := true, apart := false, narrowed := true }
def TalkWritesUptoSaid : Prop := talkWritesUptoRow.holds Try.pinned (OpenSpec.upto talkWritesSpec)

/-- 'lockwrightlaw.TalkVerifies', WHERE WHAT IT READS IS OF BULK AT MOST 1048576: true; the input reads as it did. -/
def talkVerifiesUptoRow : OpenClaim := { program := "ytfidmmgcmfnleaa", sum := "bf8b96eeb25f0f747184b838b9e3de20b051e692ce7b040e424ebfcbd87d9972", func := "lockwright/lockwrightlaw.TalkVerifies", spec := "talkVerifies", unfollowed := true, recurses := true, apart := false, narrowed := true }
def TalkVerifiesUptoSaid : Prop := talkVerifiesUptoRow.holds Try.pinned (OpenSpec.upto talkVerifiesSpec)

/-- 'lockwrightlaw.ShakeAnswers', WHERE WHAT IT READS IS OF BULK AT MOST 1048576: true; the input reads as it did. -/
def shakeAnswersUptoRow : OpenClaim := { program := "ytfidmmgcmfnleaa", sum := "bf8b96eeb25f0f747184b838b9e3de20b051e692ce7b040e424ebfcbd87d9972", func := "lockwright/lockwrightlaw.ShakeAnswers", spec := "shakeAnswers", unfollowed := true, recurses := true, apart := false, narrowed := true }
def ShakeAnswersUptoSaid : Prop := shakeAnswersUptoRow.holds Try.pinned (OpenSpec.upto shakeAnswersSpec)

/-- 'lockwrightlaw.ShakeEnds', WHERE WHAT IT READS IS OF BULK AT MOST 1048576: true; the input reads as it did. -/
def shakeEndsUptoRow : OpenClaim := { program := "ytfidmmgcmfnleaa", sum := "bf8b96eeb25f0f747184b838b9e3de20b051e692ce7b040e424ebfcbd87d9972", func := "lockwright/lockwrightlaw.ShakeEnds", spec := "shakeEnds", unfollowed := true, recurses := true, apart := false, narrowed := true }
def ShakeEndsUptoSaid : Prop := shakeEndsUptoRow.holds Try.pinned (OpenSpec.upto shakeEndsSpec)

end Rows
end Go.Proofs.Ytfidmmgcmfnleaa
