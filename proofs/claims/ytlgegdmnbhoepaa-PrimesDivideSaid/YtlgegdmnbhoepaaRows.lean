/-
  No cell of these rows narrows 'for every input' (looked for: loops, veiled, ifaces, maps, wideKeys, modest, calm, conditions, laid).
  DERIVED. THE GIVEN ROWS OF THIS SEAT. 12 by the template 'for every input the law returns true; each argument reads behind the call as it read before'; 0 by the template 'total and deterministic' (their statements: YtlgegdmnbhoepaaTotals.lean).
  GIVEN WITH THE SEED: the statements are not yours to turn. If you find one false, say at which input.
  Laid BY PROGRAM, IN A SANDBOX (cutbox-rows.mjs): the forced cells as the released guide's own fill.sh prints them over the translation 9d8da0638dbb16bf… (all of the seat's roots in one cut). By AI agents, Wed Nov 11 2026. No macro, syntax, notation, axiom, sorry.
-/
import Derived.Test.YtlgegdmnbhoepaaChecked
import GoSem.Claim
import GoSem.ClaimJoined
import GoSem.ClaimMapViews
import Derived.JoinedTies
import Derived.KernelRfl
namespace Go.Proofs.Ytlgegdmnbhoepaa
/- THE CELL 'sum', in the pinned program and in every row, IS THE sha256 OF THE DUMP (.gsa) THAT YtlgegdmnbhoepaaProg.lean LOADS. Nothing in Lean hashes anything: it is a label: what it is worth is what the hold of that sum in a sandbox is worth. -/
noncomputable def Try.pinned : Pinned := { name := "ytlgegdmnbhoepaa", sum := "9d8da0638dbb16bfc370169fbbd0e2c0f66606fd5739a7bca84d40f4ae4b8231", checked := Try.checked }
namespace Rows
def none {H : Type} : Left H := { results := [], args := [] }

/-- 'lockwrighttop.TopRight': WHATEVER THE INPUT: true; the input reads as it did. -/
def topRightSpec : ChangeSpec := { name := "topRight", fn := fun _ => fun
  | [d1, d2, d3] => { results := [.lit (.bool true)], args := [d1, d2, d3] }
  | _ => none }
def topRightRow : OpenClaim := { program := "ytlgegdmnbhoepaa", sum := "9d8da0638dbb16bfc370169fbbd0e2c0f66606fd5739a7bca84d40f4ae4b8231", func := "lockwright/lockwrighttop.TopRight", spec := "topRight", unfollowed := true, recurses := true, apart := false }
def TopRightSaid : Prop := topRightRow.holds Try.pinned (OpenSpec.ofChange topRightSpec)

/-- ITS FALSE NEIGHBOUR: 'it returns false'. Refute it at one input. -/
def topRightWrong : ChangeSpec := { name := "topRight", fn := fun _ => fun
  | [d1, d2, d3] => { results := [.lit (.bool false)], args := [d1, d2, d3] }
  | _ => none }
def TopRightWrongFalsely : Prop := topRightRow.holds Try.pinned (OpenSpec.ofChange topRightWrong)

/-- 'lockwrightlaw.PrattChecks': WHATEVER THE INPUT: true; the input reads as it did. -/
def prattChecksSpec : ChangeSpec := { name := "prattChecks", fn := fun _ => fun
  | [d] => { results := [.lit (.bool true)], args := [d] }
  | _ => none }
def prattChecksRow : OpenClaim := { program := "ytlgegdmnbhoepaa", sum := "9d8da0638dbb16bfc370169fbbd0e2c0f66606fd5739a7bca84d40f4ae4b8231", func := "lockwright/lockwrightlaw.PrattChecks", spec := "prattChecks", unfollowed := true, recurses := true, apart := false }
def PrattChecksSaid : Prop := prattChecksRow.holds Try.pinned (OpenSpec.ofChange prattChecksSpec)

/-- ITS FALSE NEIGHBOUR: 'it returns false'. Refute it at one input. -/
def prattChecksWrong : ChangeSpec := { name := "prattChecks", fn := fun _ => fun
  | [d] => { results := [.lit (.bool false)], args := [d] }
  | _ => none }
def PrattChecksWrongFalsely : Prop := prattChecksRow.holds Try.pinned (OpenSpec.ofChange prattChecksWrong)

/-- 'lockwrighttop.TopTurned': WHATEVER THE INPUT: true; the input reads as it did. -/
def topTurnedSpec : ChangeSpec := { name := "topTurned", fn := fun _ => fun
  | [d1, d2, d3] => { results := [.lit (.bool true)], args := [d1, d2, d3] }
  | _ => none }
def topTurnedRow : OpenClaim := { program := "ytlgegdmnbhoepaa", sum := "9d8da0638dbb16bfc370169fbbd0e2c0f66606fd5739a7bca84d40f4ae4b8231", func := "lockwright/lockwrighttop.TopTurned", spec := "topTurned", unfollowed := true, recurses := true, apart := false }
def TopTurnedSaid : Prop := topTurnedRow.holds Try.pinned (OpenSpec.ofChange topTurnedSpec)

/-- ITS FALSE NEIGHBOUR: 'it returns false'. Refute it at one input. -/
def topTurnedWrong : ChangeSpec := { name := "topTurned", fn := fun _ => fun
  | [d1, d2, d3] => { results := [.lit (.bool false)], args := [d1, d2, d3] }
  | _ => none }
def TopTurnedWrongFalsely : Prop := topTurnedRow.holds Try.pinned (OpenSpec.ofChange topTurnedWrong)

/-- 'lockwrightlaw.LogPowers': WHATEVER THE INPUT: true; the input reads as it did. -/
def logPowersSpec : ChangeSpec := { name := "logPowers", fn := fun _ => fun
  | [d1, d2, d3] => { results := [.lit (.bool true)], args := [d1, d2, d3] }
  | _ => none }
def logPowersRow : OpenClaim := { program := "ytlgegdmnbhoepaa", sum := "9d8da0638dbb16bfc370169fbbd0e2c0f66606fd5739a7bca84d40f4ae4b8231", func := "lockwright/lockwrightlaw.LogPowers", spec := "logPowers", unfollowed := true, recurses := true, apart := false }
def LogPowersSaid : Prop := logPowersRow.holds Try.pinned (OpenSpec.ofChange logPowersSpec)

/-- ITS FALSE NEIGHBOUR: 'it returns false'. Refute it at one input. -/
def logPowersWrong : ChangeSpec := { name := "logPowers", fn := fun _ => fun
  | [d1, d2, d3] => { results := [.lit (.bool false)], args := [d1, d2, d3] }
  | _ => none }
def LogPowersWrongFalsely : Prop := logPowersRow.holds Try.pinned (OpenSpec.ofChange logPowersWrong)

/-- 'lockwrightlaw.PowerLambdas': WHATEVER THE INPUT: true; the input reads as it did. -/
def powerLambdasSpec : ChangeSpec := { name := "powerLambdas", fn := fun _ => fun
  | [d] => { results := [.lit (.bool true)], args := [d] }
  | _ => none }
def powerLambdasRow : OpenClaim := { program := "ytlgegdmnbhoepaa", sum := "9d8da0638dbb16bfc370169fbbd0e2c0f66606fd5739a7bca84d40f4ae4b8231", func := "lockwright/lockwrightlaw.PowerLambdas", spec := "powerLambdas", unfollowed := true, recurses := true, apart := false }
def PowerLambdasSaid : Prop := powerLambdasRow.holds Try.pinned (OpenSpec.ofChange powerLambdasSpec)

/-- ITS FALSE NEIGHBOUR: 'it returns false'. Refute it at one input. -/
def powerLambdasWrong : ChangeSpec := { name := "powerLambdas", fn := fun _ => fun
  | [d] => { results := [.lit (.bool false)], args := [d] }
  | _ => none }
def PowerLambdasWrongFalsely : Prop := powerLambdasRow.holds Try.pinned (OpenSpec.ofChange powerLambdasWrong)

/-- 'lockwrightlaw.SquaresRoots': WHATEVER THE INPUT: true; the input reads as it did. -/
def squaresRootsSpec : ChangeSpec := { name := "squaresRoots", fn := fun _ => fun
  | [d1, d2] => { results := [.lit (.bool true)], args := [d1, d2] }
  | _ => none }
def squaresRootsRow : OpenClaim := { program := "ytlgegdmnbhoepaa", sum := "9d8da0638dbb16bfc370169fbbd0e2c0f66606fd5739a7bca84d40f4ae4b8231", func := "lockwright/lockwrightlaw.SquaresRoots", spec := "squaresRoots", unfollowed := true, recurses := true, apart := false }
def SquaresRootsSaid : Prop := squaresRootsRow.holds Try.pinned (OpenSpec.ofChange squaresRootsSpec)

/-- ITS FALSE NEIGHBOUR: 'it returns false'. Refute it at one input. -/
def squaresRootsWrong : ChangeSpec := { name := "squaresRoots", fn := fun _ => fun
  | [d1, d2] => { results := [.lit (.bool false)], args := [d1, d2] }
  | _ => none }
def SquaresRootsWrongFalsely : Prop := squaresRootsRow.holds Try.pinned (OpenSpec.ofChange squaresRootsWrong)

/-- 'lockwrightlaw.RatchetPlays': WHATEVER THE INPUT: true; the input reads as it did. -/
def ratchetPlaysSpec : ChangeSpec := { name := "ratchetPlays", fn := fun _ => fun
  | [d1, d2, d3] => { results := [.lit (.bool true)], args := [d1, d2, d3] }
  | _ => none }
def ratchetPlaysRow : OpenClaim := { program := "ytlgegdmnbhoepaa", sum := "9d8da0638dbb16bfc370169fbbd0e2c0f66606fd5739a7bca84d40f4ae4b8231", func := "lockwright/lockwrightlaw.RatchetPlays", spec := "ratchetPlays", apart := false }
def RatchetPlaysSaid : Prop := ratchetPlaysRow.holds Try.pinned (OpenSpec.ofChange ratchetPlaysSpec)

/-- ITS FALSE NEIGHBOUR: 'it returns false'. Refute it at one input. -/
def ratchetPlaysWrong : ChangeSpec := { name := "ratchetPlays", fn := fun _ => fun
  | [d1, d2, d3] => { results := [.lit (.bool false)], args := [d1, d2, d3] }
  | _ => none }
def RatchetPlaysWrongFalsely : Prop := ratchetPlaysRow.holds Try.pinned (OpenSpec.ofChange ratchetPlaysWrong)

/-- 'lockwrightlaw.PartsOpens': WHATEVER THE INPUT: true; the input reads as it did. -/
def partsOpensSpec : ChangeSpec := { name := "partsOpens", fn := fun _ => fun
  | [d1, d2, d3] => { results := [.lit (.bool true)], args := [d1, d2, d3] }
  | _ => none }
def partsOpensRow : OpenClaim := { program := "ytlgegdmnbhoepaa", sum := "9d8da0638dbb16bfc370169fbbd0e2c0f66606fd5739a7bca84d40f4ae4b8231", func := "lockwright/lockwrightlaw.PartsOpens", spec := "partsOpens", unfollowed := true, recurses := true, apart := false }
def PartsOpensSaid : Prop := partsOpensRow.holds Try.pinned (OpenSpec.ofChange partsOpensSpec)

/-- ITS FALSE NEIGHBOUR: 'it returns false'. Refute it at one input. -/
def partsOpensWrong : ChangeSpec := { name := "partsOpens", fn := fun _ => fun
  | [d1, d2, d3] => { results := [.lit (.bool false)], args := [d1, d2, d3] }
  | _ => none }
def PartsOpensWrongFalsely : Prop := partsOpensRow.holds Try.pinned (OpenSpec.ofChange partsOpensWrong)

/-- 'lockwrightlaw.PartsPlays': WHATEVER THE INPUT: true; the input reads as it did. -/
def partsPlaysSpec : ChangeSpec := { name := "partsPlays", fn := fun _ => fun
  | [d1, d2, d3, d4, d5] => { results := [.lit (.bool true)], args := [d1, d2, d3, d4, d5] }
  | _ => none }
def partsPlaysRow : OpenClaim := { program := "ytlgegdmnbhoepaa", sum := "9d8da0638dbb16bfc370169fbbd0e2c0f66606fd5739a7bca84d40f4ae4b8231", func := "lockwright/lockwrightlaw.PartsPlays", spec := "partsPlays", unfollowed := true, recurses := true, apart := false }
def PartsPlaysSaid : Prop := partsPlaysRow.holds Try.pinned (OpenSpec.ofChange partsPlaysSpec)

/-- ITS FALSE NEIGHBOUR: 'it returns false'. Refute it at one input. -/
def partsPlaysWrong : ChangeSpec := { name := "partsPlays", fn := fun _ => fun
  | [d1, d2, d3, d4, d5] => { results := [.lit (.bool false)], args := [d1, d2, d3, d4, d5] }
  | _ => none }
def PartsPlaysWrongFalsely : Prop := partsPlaysRow.holds Try.pinned (OpenSpec.ofChange partsPlaysWrong)

/-- 'lockwrightlaw.RelayPlays': WHATEVER THE INPUT: true; the input reads as it did. -/
def relayPlaysSpec : ChangeSpec := { name := "relayPlays", fn := fun _ => fun
  | [d1, d2, d3] => { results := [.lit (.bool true)], args := [d1, d2, d3] }
  | _ => none }
def relayPlaysRow : OpenClaim := { program := "ytlgegdmnbhoepaa", sum := "9d8da0638dbb16bfc370169fbbd0e2c0f66606fd5739a7bca84d40f4ae4b8231", func := "lockwright/lockwrightlaw.RelayPlays", spec := "relayPlays", unfollowed := true, recurses := true, apart := false }
def RelayPlaysSaid : Prop := relayPlaysRow.holds Try.pinned (OpenSpec.ofChange relayPlaysSpec)

/-- ITS FALSE NEIGHBOUR: 'it returns false'. Refute it at one input. -/
def relayPlaysWrong : ChangeSpec := { name := "relayPlays", fn := fun _ => fun
  | [d1, d2, d3] => { results := [.lit (.bool false)], args := [d1, d2, d3] }
  | _ => none }
def RelayPlaysWrongFalsely : Prop := relayPlaysRow.holds Try.pinned (OpenSpec.ofChange relayPlaysWrong)

/-- 'lockwrightlaw.PrimesDivide': WHATEVER THE INPUT: true; the input reads as it did. -/
def primesDivideSpec : ChangeSpec := { name := "primesDivide", fn := fun _ => fun
  | [d] => { results := [.lit (.bool true)], args := [d] }
  | _ => none }
def primesDivideRow : OpenClaim := { program := "ytlgegdmnbhoepaa", sum := "9d8da0638dbb16bfc370169fbbd0e2c0f66606fd5739a7bca84d40f4ae4b8231", func := "lockwright/lockwrightlaw.PrimesDivide", spec := "primesDivide", unfollowed := true, recurses := true, apart := false }
def PrimesDivideSaid : Prop := primesDivideRow.holds Try.pinned (OpenSpec.ofChange primesDivideSpec)

/-- ITS FALSE NEIGHBOUR: 'it returns false'. Refute it at one input. -/
def primesDivideWrong : ChangeSpec := { name := "primesDivide", fn := fun _ => fun
  | [d] => { results := [.lit (.bool false)], args := [d] }
  | _ => none }
def PrimesDivideWrongFalsely : Prop := primesDivideRow.holds Try.pinned (OpenSpec.ofChange primesDivideWrong)

/-- 'lockwrightlaw.PrattMakes': WHATEVER THE INPUT: true; the input reads as it did. -/
def prattMakesSpec : ChangeSpec := { name := "prattMakes", fn := fun _ => fun
  | [d] => { results := [.lit (.bool true)], args := [d] }
  | _ => none }
def prattMakesRow : OpenClaim := { program := "ytlgegdmnbhoepaa", sum := "9d8da0638dbb16bfc370169fbbd0e2c0f66606fd5739a7bca84d40f4ae4b8231", func := "lockwright/lockwrightlaw.PrattMakes", spec := "prattMakes", unfollowed := true, recurses := true, apart := false }
def PrattMakesSaid : Prop := prattMakesRow.holds Try.pinned (OpenSpec.ofChange prattMakesSpec)

/-- ITS FALSE NEIGHBOUR: 'it returns false'. Refute it at one input. -/
def prattMakesWrong : ChangeSpec := { name := "prattMakes", fn := fun _ => fun
  | [d] => { results := [.lit (.bool false)], args := [d] }
  | _ => none }
def PrattMakesWrongFalsely : Prop := prattMakesRow.holds Try.pinned (OpenSpec.ofChange prattMakesWrong)

/- THE SECOND FORM. 'bulk': how many values and letters a reading holds, each counted each time it is reached (what is shared counts as often as it is met; a slice's spare places count too). A statement '..UptoSaid' is the law's where the arguments, and the package variables that the reading takes, are together of bulk at most 1048576: NARROWER than '..Said'. Prove '..Said' where nothing that the law and all that it calls make is longer than what came in: it says more and counts as full. Else prove '..UptoSaid'. A law counts once. -/
mutual
def uptoBulk {H : Type} : DataW H → Nat
  | .lit (.string bytes) => bytes.length + 1
  | .lit _ => 1
  | .nil => 1
  | .ptr d => uptoBulk d + 1
  | .slice elems spare => uptoBulkAll elems + uptoBulkAll spare + 1
  | .agg parts => uptoBulkAll parts + 1
  | .iface _ d => uptoBulk d + 1
  | .map entries => uptoBulkEntries entries + 1
  | .held _ => 1
def uptoBulkAll {H : Type} : List (DataW H) → Nat
  | [] => 0
  | d :: r => uptoBulk d + uptoBulkAll r
def uptoBulkEntries {H : Type} : List (Lit × DataW H) → Nat
  | [] => 0
  | x :: r => uptoBulkEntry x + uptoBulkEntries r
def uptoBulkEntry {H : Type} : Lit × DataW H → Nat
  | (.string bytes, d) => bytes.length + uptoBulk d + 1
  | (_, d) => uptoBulk d + 1
 end
def uptoSmall : (H : Type) → List (DataW H) → Bool := fun _ ds => decide (uptoBulkAll ds ≤ 1048576)
def OpenSpec.upto (s : _root_.Go.ChangeSpec) : _root_.Go.OpenSpec := { _root_.Go.OpenSpec.ofChange s with cond := some uptoSmall }

/-- 'lockwrighttop.TopRight', WHERE WHAT IT READS IS OF BULK AT MOST 1048576: true; the input reads as it did. -/
def topRightUptoRow : OpenClaim := { program := "ytlgegdmnbhoepaa", sum := "9d8da0638dbb16bfc370169fbbd0e2c0f66606fd5739a7bca84d40f4ae4b8231", func := "lockwright/lockwrighttop.TopRight", spec := "topRight", unfollowed := true, recurses := true, apart := false, narrowed := true }
def TopRightUptoSaid : Prop := topRightUptoRow.holds Try.pinned (OpenSpec.upto topRightSpec)

/-- 'lockwrightlaw.PrattChecks', WHERE WHAT IT READS IS OF BULK AT MOST 1048576: true; the input reads as it did. -/
def prattChecksUptoRow : OpenClaim := { program := "ytlgegdmnbhoepaa", sum := "9d8da0638dbb16bfc370169fbbd0e2c0f66606fd5739a7bca84d40f4ae4b8231", func := "lockwright/lockwrightlaw.PrattChecks", spec := "prattChecks", unfollowed := true, recurses := true, apart := false, narrowed := true }
def PrattChecksUptoSaid : Prop := prattChecksUptoRow.holds Try.pinned (OpenSpec.upto prattChecksSpec)

/-- 'lockwrighttop.TopTurned', WHERE WHAT IT READS IS OF BULK AT MOST 1048576: true; the input reads as it did. -/
def topTurnedUptoRow : OpenClaim := { program := "ytlgegdmnbhoepaa", sum := "9d8da0638dbb16bfc370169fbbd0e2c0f66606fd5739a7bca84d40f4ae4b8231", func := "lockwright/lockwrighttop.TopTurned", spec := "topTurned", unfollowed := true, recurses := true, apart := false, narrowed := true }
def TopTurnedUptoSaid : Prop := topTurnedUptoRow.holds Try.pinned (OpenSpec.upto topTurnedSpec)

/-- 'lockwrightlaw.LogPowers', WHERE WHAT IT READS IS OF BULK AT MOST 1048576: true; the input reads as it did. -/
def logPowersUptoRow : OpenClaim := { program := "ytlgegdmnbhoepaa", sum := "9d8da0638dbb16bfc370169fbbd0e2c0f66606fd5739a7bca84d40f4ae4b8231", func := "lockwright/lockwrightlaw.LogPowers", spec := "logPowers", unfollowed := true, recurses := true, apart := false, narrowed := true }
def LogPowersUptoSaid : Prop := logPowersUptoRow.holds Try.pinned (OpenSpec.upto logPowersSpec)

/-- 'lockwrightlaw.PowerLambdas', WHERE WHAT IT READS IS OF BULK AT MOST 1048576: true; the input reads as it did. -/
def powerLambdasUptoRow : OpenClaim := { program := "ytlgegdmnbhoepaa", sum := "9d8da0638dbb16bfc370169fbbd0e2c0f66606fd5739a7bca84d40f4ae4b8231", func := "lockwright/lockwrightlaw.PowerLambdas", spec := "powerLambdas", unfollowed := true, recurses := true, apart := false, narrowed := true }
def PowerLambdasUptoSaid : Prop := powerLambdasUptoRow.holds Try.pinned (OpenSpec.upto powerLambdasSpec)

/-- 'lockwrightlaw.SquaresRoots', WHERE WHAT IT READS IS OF BULK AT MOST 1048576: true; the input reads as it did. -/
def squaresRootsUptoRow : OpenClaim := { program := "ytlgegdmnbhoepaa", sum := "9d8da0638dbb16bfc370169fbbd0e2c0f66606fd5739a7bca84d40f4ae4b8231", func := "lockwright/lockwrightlaw.SquaresRoots", spec := "squaresRoots", unfollowed := true, recurses := true, apart := false, narrowed := true }
def SquaresRootsUptoSaid : Prop := squaresRootsUptoRow.holds Try.pinned (OpenSpec.upto squaresRootsSpec)

/-- 'lockwrightlaw.RatchetPlays', WHERE WHAT IT READS IS OF BULK AT MOST 1048576: true; the input reads as it did. -/
def ratchetPlaysUptoRow : OpenClaim := { program := "ytlgegdmnbhoepaa", sum := "9d8da0638dbb16bfc370169fbbd0e2c0f66606fd5739a7bca84d40f4ae4b8231", func := "lockwright/lockwrightlaw.RatchetPlays", spec := "ratchetPlays", apart := false, narrowed := true }
def RatchetPlaysUptoSaid : Prop := ratchetPlaysUptoRow.holds Try.pinned (OpenSpec.upto ratchetPlaysSpec)

/-- 'lockwrightlaw.PartsOpens', WHERE WHAT IT READS IS OF BULK AT MOST 1048576: true; the input reads as it did. -/
def partsOpensUptoRow : OpenClaim := { program := "ytlgegdmnbhoepaa", sum := "9d8da0638dbb16bfc370169fbbd0e2c0f66606fd5739a7bca84d40f4ae4b8231", func := "lockwright/lockwrightlaw.PartsOpens", spec := "partsOpens", unfollowed := true, recurses := true, apart := false, narrowed := true }
def PartsOpensUptoSaid : Prop := partsOpensUptoRow.holds Try.pinned (OpenSpec.upto partsOpensSpec)

/-- 'lockwrightlaw.PartsPlays', WHERE WHAT IT READS IS OF BULK AT MOST 1048576: true; the input reads as it did. -/
def partsPlaysUptoRow : OpenClaim := { program := "ytlgegdmnbhoepaa", sum := "9d8da0638dbb16bfc370169fbbd0e2c0f66606fd5739a7bca84d40f4ae4b8231", func := "lockwright/lockwrightlaw.PartsPlays", spec := "partsPlays", unfollowed := true, recurses := true, apart := false, narrowed := true }
def PartsPlaysUptoSaid : Prop := partsPlaysUptoRow.holds Try.pinned (OpenSpec.upto partsPlaysSpec)

/-- 'lockwrightlaw.RelayPlays', WHERE WHAT IT READS IS OF BULK AT MOST 1048576: true; the input reads as it did. -/
def relayPlaysUptoRow : OpenClaim := { program := "ytlgegdmnbhoepaa", sum := "9d8da0638dbb16bfc370169fbbd0e2c0f66606fd5739a7bca84d40f4ae4b8231", func := "lockwright/lockwrightlaw.RelayPlays", spec := "relayPlays", unfollowed := true, recurses := true, apart := false, narrowed := true }
def RelayPlaysUptoSaid : Prop := relayPlaysUptoRow.holds Try.pinned (OpenSpec.upto relayPlaysSpec)

/-- 'lockwrightlaw.PrimesDivide', WHERE WHAT IT READS IS OF BULK AT MOST 1048576: true; the input reads as it did. -/
def primesDivideUptoRow : OpenClaim := { program := "ytlgegdmnbhoepaa", sum := "9d8da0638dbb16bfc370169fbbd0e2c0f66606fd5739a7bca84d40f4ae4b8231", func := "lockwright/lockwrightlaw.PrimesDivide", spec := "primesDivide", unfollowed := true, recurses := true, apart := false, narrowed := true }
def PrimesDivideUptoSaid : Prop := primesDivideUptoRow.holds Try.pinned (OpenSpec.upto primesDivideSpec)

/-- 'lockwrightlaw.PrattMakes', WHERE WHAT IT READS IS OF BULK AT MOST 1048576: true; the input reads as it did. -/
def prattMakesUptoRow : OpenClaim := { program := "ytlgegdmnbhoepaa", sum := "9d8da0638dbb16bfc370169fbbd0e2c0f66606fd5739a7bca84d40f4ae4b8231", func := "lockwright/lockwrightlaw.PrattMakes", spec := "prattMakes", unfollowed := true, recurses := true, apart := false, narrowed := true }
def PrattMakesUptoSaid : Prop := prattMakesUptoRow.holds Try.pinned (OpenSpec.upto prattMakesSpec)

end Rows
end Go.Proofs.Ytlgegdmnbhoepaa
