/-
  No cell of these rows narrows 'for every input' (looked for: loops, veiled, ifaces, maps, wideKeys, modest, calm, conditions, laid).
  DERIVED. THE GIVEN ROWS OF THIS SEAT. 12 by the template 'for every input the law returns true; each argument reads behind the call as it read before'; 0 by the template 'total and deterministic' (their statements: YthejhpbbjjjmjaaTotals.lean).
  GIVEN WITH THE SEED: the statements are not yours to turn. If you find one false, say at which input.
  Laid BY PROGRAM, IN A SANDBOX (cutbox-rows.mjs): the forced cells as the released guide's own fill.sh prints them over the translation 2f678d62956365b6… (all of the seat's roots in one cut). By AI agents, Wed Nov 11 2026. No macro, syntax, notation, axiom, sorry.
-/
import Derived.Test.YthejhpbbjjjmjaaChecked
import GoSem.Claim
import GoSem.ClaimJoined
import GoSem.ClaimMapViews
import Derived.JoinedTies
import Derived.KernelRfl
namespace Go.Proofs.Ythejhpbbjjjmjaa
/- THE CELL 'sum', in the pinned program and in every row, IS THE sha256 OF THE DUMP (.gsa) THAT YthejhpbbjjjmjaaProg.lean LOADS. Nothing in Lean hashes anything: it is a label: what it is worth is what the hold of that sum in a sandbox is worth. -/
noncomputable def Try.pinned : Pinned := { name := "ythejhpbbjjjmjaa", sum := "2f678d62956365b6f8e5d20da8af732a50da7c18287715146a298b004a9331c3", checked := Try.checked }
namespace Rows
def none {H : Type} : Left H := { results := [], args := [] }

/-- 'lockwrightlaw.PrimesSigns': WHATEVER THE INPUT: true; the input reads as it did. -/
def primesSignsSpec : ChangeSpec := { name := "primesSigns", fn := fun _ => fun
  | [d] => { results := [.lit (.bool true)], args := [d] }
  | _ => none }
def primesSignsRow : OpenClaim := { program := "ythejhpbbjjjmjaa", sum := "2f678d62956365b6f8e5d20da8af732a50da7c18287715146a298b004a9331c3", func := "lockwright/lockwrightlaw.PrimesSigns", spec := "primesSigns", unfollowed := true, recurses := true, apart := false }
def PrimesSignsSaid : Prop := primesSignsRow.holds Try.pinned (OpenSpec.ofChange primesSignsSpec)

/-- ITS FALSE NEIGHBOUR: 'it returns false'. Refute it at one input. -/
def primesSignsWrong : ChangeSpec := { name := "primesSigns", fn := fun _ => fun
  | [d] => { results := [.lit (.bool false)], args := [d] }
  | _ => none }
def PrimesSignsWrongFalsely : Prop := primesSignsRow.holds Try.pinned (OpenSpec.ofChange primesSignsWrong)

/-- 'lockwrightlaw.PrimesFactor': WHATEVER THE INPUT: true; the input reads as it did. -/
def primesFactorSpec : ChangeSpec := { name := "primesFactor", fn := fun _ => fun
  | [d] => { results := [.lit (.bool true)], args := [d] }
  | _ => none }
def primesFactorRow : OpenClaim := { program := "ythejhpbbjjjmjaa", sum := "2f678d62956365b6f8e5d20da8af732a50da7c18287715146a298b004a9331c3", func := "lockwright/lockwrightlaw.PrimesFactor", spec := "primesFactor", unfollowed := true, recurses := true, apart := false }
def PrimesFactorSaid : Prop := primesFactorRow.holds Try.pinned (OpenSpec.ofChange primesFactorSpec)

/-- ITS FALSE NEIGHBOUR: 'it returns false'. Refute it at one input. -/
def primesFactorWrong : ChangeSpec := { name := "primesFactor", fn := fun _ => fun
  | [d] => { results := [.lit (.bool false)], args := [d] }
  | _ => none }
def PrimesFactorWrongFalsely : Prop := primesFactorRow.holds Try.pinned (OpenSpec.ofChange primesFactorWrong)

/-- 'lockwrightlaw.SquaresSymbols': WHATEVER THE INPUT: true; the input reads as it did. -/
def squaresSymbolsSpec : ChangeSpec := { name := "squaresSymbols", fn := fun _ => fun
  | [d1, d2] => { results := [.lit (.bool true)], args := [d1, d2] }
  | _ => none }
def squaresSymbolsRow : OpenClaim := { program := "ythejhpbbjjjmjaa", sum := "2f678d62956365b6f8e5d20da8af732a50da7c18287715146a298b004a9331c3", func := "lockwright/lockwrightlaw.SquaresSymbols", spec := "squaresSymbols", apart := false }
def SquaresSymbolsSaid : Prop := squaresSymbolsRow.holds Try.pinned (OpenSpec.ofChange squaresSymbolsSpec)

/-- ITS FALSE NEIGHBOUR: 'it returns false'. Refute it at one input. -/
def squaresSymbolsWrong : ChangeSpec := { name := "squaresSymbols", fn := fun _ => fun
  | [d1, d2] => { results := [.lit (.bool false)], args := [d1, d2] }
  | _ => none }
def SquaresSymbolsWrongFalsely : Prop := squaresSymbolsRow.holds Try.pinned (OpenSpec.ofChange squaresSymbolsWrong)

/-- 'lockwrightlaw.LiarsEulers': WHATEVER THE INPUT: true; the input reads as it did. -/
def liarsEulersSpec : ChangeSpec := { name := "liarsEulers", fn := fun _ => fun
  | [d1, d2] => { results := [.lit (.bool true)], args := [d1, d2] }
  | _ => none }
def liarsEulersRow : OpenClaim := { program := "ythejhpbbjjjmjaa", sum := "2f678d62956365b6f8e5d20da8af732a50da7c18287715146a298b004a9331c3", func := "lockwright/lockwrightlaw.LiarsEulers", spec := "liarsEulers", unfollowed := true, recurses := true, apart := false }
def LiarsEulersSaid : Prop := liarsEulersRow.holds Try.pinned (OpenSpec.ofChange liarsEulersSpec)

/-- ITS FALSE NEIGHBOUR: 'it returns false'. Refute it at one input. -/
def liarsEulersWrong : ChangeSpec := { name := "liarsEulers", fn := fun _ => fun
  | [d1, d2] => { results := [.lit (.bool false)], args := [d1, d2] }
  | _ => none }
def LiarsEulersWrongFalsely : Prop := liarsEulersRow.holds Try.pinned (OpenSpec.ofChange liarsEulersWrong)

/-- 'lockwrightlaw.PowerLambdas': WHATEVER THE INPUT: true; the input reads as it did. -/
def powerLambdasSpec : ChangeSpec := { name := "powerLambdas", fn := fun _ => fun
  | [d] => { results := [.lit (.bool true)], args := [d] }
  | _ => none }
def powerLambdasRow : OpenClaim := { program := "ythejhpbbjjjmjaa", sum := "2f678d62956365b6f8e5d20da8af732a50da7c18287715146a298b004a9331c3", func := "lockwright/lockwrightlaw.PowerLambdas", spec := "powerLambdas", unfollowed := true, recurses := true, apart := false }
def PowerLambdasSaid : Prop := powerLambdasRow.holds Try.pinned (OpenSpec.ofChange powerLambdasSpec)

/-- ITS FALSE NEIGHBOUR: 'it returns false'. Refute it at one input. -/
def powerLambdasWrong : ChangeSpec := { name := "powerLambdas", fn := fun _ => fun
  | [d] => { results := [.lit (.bool false)], args := [d] }
  | _ => none }
def PowerLambdasWrongFalsely : Prop := powerLambdasRow.holds Try.pinned (OpenSpec.ofChange powerLambdasWrong)

/-- 'lockwrightlaw.PowerOrders': WHATEVER THE INPUT: true; the input reads as it did. -/
def powerOrdersSpec : ChangeSpec := { name := "powerOrders", fn := fun _ => fun
  | [d1, d2] => { results := [.lit (.bool true)], args := [d1, d2] }
  | _ => none }
def powerOrdersRow : OpenClaim := { program := "ythejhpbbjjjmjaa", sum := "2f678d62956365b6f8e5d20da8af732a50da7c18287715146a298b004a9331c3", func := "lockwright/lockwrightlaw.PowerOrders", spec := "powerOrders", unfollowed := true, recurses := true, apart := false }
def PowerOrdersSaid : Prop := powerOrdersRow.holds Try.pinned (OpenSpec.ofChange powerOrdersSpec)

/-- ITS FALSE NEIGHBOUR: 'it returns false'. Refute it at one input. -/
def powerOrdersWrong : ChangeSpec := { name := "powerOrders", fn := fun _ => fun
  | [d1, d2] => { results := [.lit (.bool false)], args := [d1, d2] }
  | _ => none }
def PowerOrdersWrongFalsely : Prop := powerOrdersRow.holds Try.pinned (OpenSpec.ofChange powerOrdersWrong)

/-- 'lockwrightlaw.LogBases': WHATEVER THE INPUT: true; the input reads as it did. -/
def logBasesSpec : ChangeSpec := { name := "logBases", fn := fun _ => fun
  | [d] => { results := [.lit (.bool true)], args := [d] }
  | _ => none }
def logBasesRow : OpenClaim := { program := "ythejhpbbjjjmjaa", sum := "2f678d62956365b6f8e5d20da8af732a50da7c18287715146a298b004a9331c3", func := "lockwright/lockwrightlaw.LogBases", spec := "logBases", unfollowed := true, recurses := true, apart := false }
def LogBasesSaid : Prop := logBasesRow.holds Try.pinned (OpenSpec.ofChange logBasesSpec)

/-- ITS FALSE NEIGHBOUR: 'it returns false'. Refute it at one input. -/
def logBasesWrong : ChangeSpec := { name := "logBases", fn := fun _ => fun
  | [d] => { results := [.lit (.bool false)], args := [d] }
  | _ => none }
def LogBasesWrongFalsely : Prop := logBasesRow.holds Try.pinned (OpenSpec.ofChange logBasesWrong)

/-- 'lockwrightlaw.LogPowers': WHATEVER THE INPUT: true; the input reads as it did. -/
def logPowersSpec : ChangeSpec := { name := "logPowers", fn := fun _ => fun
  | [d1, d2, d3] => { results := [.lit (.bool true)], args := [d1, d2, d3] }
  | _ => none }
def logPowersRow : OpenClaim := { program := "ythejhpbbjjjmjaa", sum := "2f678d62956365b6f8e5d20da8af732a50da7c18287715146a298b004a9331c3", func := "lockwright/lockwrightlaw.LogPowers", spec := "logPowers", unfollowed := true, recurses := true, apart := false }
def LogPowersSaid : Prop := logPowersRow.holds Try.pinned (OpenSpec.ofChange logPowersSpec)

/-- ITS FALSE NEIGHBOUR: 'it returns false'. Refute it at one input. -/
def logPowersWrong : ChangeSpec := { name := "logPowers", fn := fun _ => fun
  | [d1, d2, d3] => { results := [.lit (.bool false)], args := [d1, d2, d3] }
  | _ => none }
def LogPowersWrongFalsely : Prop := logPowersRow.holds Try.pinned (OpenSpec.ofChange logPowersWrong)

/-- 'lockwrightlaw.SquaresRoots': WHATEVER THE INPUT: true; the input reads as it did. -/
def squaresRootsSpec : ChangeSpec := { name := "squaresRoots", fn := fun _ => fun
  | [d1, d2] => { results := [.lit (.bool true)], args := [d1, d2] }
  | _ => none }
def squaresRootsRow : OpenClaim := { program := "ythejhpbbjjjmjaa", sum := "2f678d62956365b6f8e5d20da8af732a50da7c18287715146a298b004a9331c3", func := "lockwright/lockwrightlaw.SquaresRoots", spec := "squaresRoots", unfollowed := true, recurses := true, apart := false }
def SquaresRootsSaid : Prop := squaresRootsRow.holds Try.pinned (OpenSpec.ofChange squaresRootsSpec)

/-- ITS FALSE NEIGHBOUR: 'it returns false'. Refute it at one input. -/
def squaresRootsWrong : ChangeSpec := { name := "squaresRoots", fn := fun _ => fun
  | [d1, d2] => { results := [.lit (.bool false)], args := [d1, d2] }
  | _ => none }
def SquaresRootsWrongFalsely : Prop := squaresRootsRow.holds Try.pinned (OpenSpec.ofChange squaresRootsWrong)

/-- 'lockwrightlaw.PrimesDivide': WHATEVER THE INPUT: true; the input reads as it did. -/
def primesDivideSpec : ChangeSpec := { name := "primesDivide", fn := fun _ => fun
  | [d] => { results := [.lit (.bool true)], args := [d] }
  | _ => none }
def primesDivideRow : OpenClaim := { program := "ythejhpbbjjjmjaa", sum := "2f678d62956365b6f8e5d20da8af732a50da7c18287715146a298b004a9331c3", func := "lockwright/lockwrightlaw.PrimesDivide", spec := "primesDivide", unfollowed := true, recurses := true, apart := false }
def PrimesDivideSaid : Prop := primesDivideRow.holds Try.pinned (OpenSpec.ofChange primesDivideSpec)

/-- ITS FALSE NEIGHBOUR: 'it returns false'. Refute it at one input. -/
def primesDivideWrong : ChangeSpec := { name := "primesDivide", fn := fun _ => fun
  | [d] => { results := [.lit (.bool false)], args := [d] }
  | _ => none }
def PrimesDivideWrongFalsely : Prop := primesDivideRow.holds Try.pinned (OpenSpec.ofChange primesDivideWrong)

/-- 'lockwrightlaw.PrattChecks': WHATEVER THE INPUT: true; the input reads as it did. -/
def prattChecksSpec : ChangeSpec := { name := "prattChecks", fn := fun _ => fun
  | [d] => { results := [.lit (.bool true)], args := [d] }
  | _ => none }
def prattChecksRow : OpenClaim := { program := "ythejhpbbjjjmjaa", sum := "2f678d62956365b6f8e5d20da8af732a50da7c18287715146a298b004a9331c3", func := "lockwright/lockwrightlaw.PrattChecks", spec := "prattChecks", unfollowed := true, recurses := true, apart := false }
def PrattChecksSaid : Prop := prattChecksRow.holds Try.pinned (OpenSpec.ofChange prattChecksSpec)

/-- ITS FALSE NEIGHBOUR: 'it returns false'. Refute it at one input. -/
def prattChecksWrong : ChangeSpec := { name := "prattChecks", fn := fun _ => fun
  | [d] => { results := [.lit (.bool false)], args := [d] }
  | _ => none }
def PrattChecksWrongFalsely : Prop := prattChecksRow.holds Try.pinned (OpenSpec.ofChange prattChecksWrong)

/-- 'lockwrightlaw.PrattMakes': WHATEVER THE INPUT: true; the input reads as it did. -/
def prattMakesSpec : ChangeSpec := { name := "prattMakes", fn := fun _ => fun
  | [d] => { results := [.lit (.bool true)], args := [d] }
  | _ => none }
def prattMakesRow : OpenClaim := { program := "ythejhpbbjjjmjaa", sum := "2f678d62956365b6f8e5d20da8af732a50da7c18287715146a298b004a9331c3", func := "lockwright/lockwrightlaw.PrattMakes", spec := "prattMakes", unfollowed := true, recurses := true, apart := false }
def PrattMakesSaid : Prop := prattMakesRow.holds Try.pinned (OpenSpec.ofChange prattMakesSpec)

/-- ITS FALSE NEIGHBOUR: 'it returns false'. Refute it at one input. -/
def prattMakesWrong : ChangeSpec := { name := "prattMakes", fn := fun _ => fun
  | [d] => { results := [.lit (.bool false)], args := [d] }
  | _ => none }
def PrattMakesWrongFalsely : Prop := prattMakesRow.holds Try.pinned (OpenSpec.ofChange prattMakesWrong)

/- THE SECOND FORM. 'bulk': how many values and letters a reading holds, each counted each time it is reached (what is shared counts as often as it is met; a slice's spare places count too). A statement '..UptoSaid' is the law's where the arguments, and the package variables that the reading takes, are together of bulk at most 1048576: NARROWER than '..Said'. Prove '..Said' where nothing that the law and all that it calls make is longer than what came in: it says more and counts as full. Else prove '..UptoSaid'. A law counts once. -/
mutual
def uptoBulk {H : Type} : DataW H → Nat
  | .lit (.string bytes) => bytes.length + 1
  | .lit _ => 1
  | .nil => 1
  | .ptr d => uptoBulk d + 1
  | .slice elems spare => uptoBulkAll elems + uptoBulkAll spare + 1
  | .agg parts => uptoBulkAll parts + 1
  | .iface _ d => uptoBulk d + 1
  | .map entries => uptoBulkEntries entries + 1
  | .held _ => 1
def uptoBulkAll {H : Type} : List (DataW H) → Nat
  | [] => 0
  | d :: r => uptoBulk d + uptoBulkAll r
def uptoBulkEntries {H : Type} : List (Lit × DataW H) → Nat
  | [] => 0
  | x :: r => uptoBulkEntry x + uptoBulkEntries r
def uptoBulkEntry {H : Type} : Lit × DataW H → Nat
  | (.string bytes, d) => bytes.length + uptoBulk d + 1
  | (_, d) => uptoBulk d + 1
 end
def uptoSmall : (H : Type) → List (DataW H) → Bool := fun _ ds => decide (uptoBulkAll ds ≤ 1048576)
def OpenSpec.upto (s : _root_.Go.ChangeSpec) : _root_.Go.OpenSpec := { _root_.Go.OpenSpec.ofChange s with cond := some uptoSmall }

/-- 'lockwrightlaw.PrimesSigns', WHERE WHAT IT READS IS OF BULK AT MOST 1048576: true; the input reads as it did. -/
def primesSignsUptoRow : OpenClaim := { program := "ythejhpbbjjjmjaa", sum := "2f678d62956365b6f8e5d20da8af732a50da7c18287715146a298b004a9331c3", func := "lockwright/lockwrightlaw.PrimesSigns", spec := "primesSigns", unfollowed := true, recurses := true, apart := false, narrowed := true }
def PrimesSignsUptoSaid : Prop := primesSignsUptoRow.holds Try.pinned (OpenSpec.upto primesSignsSpec)

/-- 'lockwrightlaw.PrimesFactor', WHERE WHAT IT READS IS OF BULK AT MOST 1048576: true; the input reads as it did. -/
def primesFactorUptoRow : OpenClaim := { program := "ythejhpbbjjjmjaa", sum := "2f678d62956365b6f8e5d20da8af732a50da7c18287715146a298b004a9331c3", func := "lockwright/lockwrightlaw.PrimesFactor", spec := "primesFactor", unfollowed := true, recurses := true, apart := false, narrowed := true }
def PrimesFactorUptoSaid : Prop := primesFactorUptoRow.holds Try.pinned (OpenSpec.upto primesFactorSpec)

/-- 'lockwrightlaw.SquaresSymbols', WHERE WHAT IT READS IS OF BULK AT MOST 1048576: true; the input reads as it did. -/
def squaresSymbolsUptoRow : OpenClaim := { program := "ythejhpbbjjjmjaa", sum := "2f678d62956365b6f8e5d20da8af732a50da7c18287715146a298b004a9331c3", func := "lockwright/lockwrightlaw.SquaresSymbols", spec := "squaresSymbols", apart := false, narrowed := true }
def SquaresSymbolsUptoSaid : Prop := squaresSymbolsUptoRow.holds Try.pinned (OpenSpec.upto squaresSymbolsSpec)

/-- 'lockwrightlaw.LiarsEulers', WHERE WHAT IT READS IS OF BULK AT MOST 1048576: true; the input reads as it did. -/
def liarsEulersUptoRow : OpenClaim := { program := "ythejhpbbjjjmjaa", sum := "2f678d62956365b6f8e5d20da8af732a50da7c18287715146a298b004a9331c3", func := "lockwright/lockwrightlaw.LiarsEulers", spec := "liarsEulers", unfollowed := true, recurses := true, apart := false, narrowed := true }
def LiarsEulersUptoSaid : Prop := liarsEulersUptoRow.holds Try.pinned (OpenSpec.upto liarsEulersSpec)

/-- 'lockwrightlaw.PowerLambdas', WHERE WHAT IT READS IS OF BULK AT MOST 1048576: true; the input reads as it did. -/
def powerLambdasUptoRow : OpenClaim := { program := "ythejhpbbjjjmjaa", sum := "2f678d62956365b6f8e5d20da8af732a50da7c18287715146a298b004a9331c3", func := "lockwright/lockwrightlaw.PowerLambdas", spec := "powerLambdas", unfollowed := true, recurses := true, apart := false, narrowed := true }
def PowerLambdasUptoSaid : Prop := powerLambdasUptoRow.holds Try.pinned (OpenSpec.upto powerLambdasSpec)

/-- 'lockwrightlaw.PowerOrders', WHERE WHAT IT READS IS OF BULK AT MOST 1048576: true; the input reads as it did. -/
def powerOrdersUptoRow : OpenClaim := { program := "ythejhpbbjjjmjaa", sum := "2f678d62956365b6f8e5d20da8af732a50da7c18287715146a298b004a9331c3", func := "lockwright/lockwrightlaw.PowerOrders", spec := "powerOrders", unfollowed := true, recurses := true, apart := false, narrowed := true }
def PowerOrdersUptoSaid : Prop := powerOrdersUptoRow.holds Try.pinned (OpenSpec.upto powerOrdersSpec)

/-- 'lockwrightlaw.LogBases', WHERE WHAT IT READS IS OF BULK AT MOST 1048576: true; the input reads as it did. -/
def logBasesUptoRow : OpenClaim := { program := "ythejhpbbjjjmjaa", sum := "2f678d62956365b6f8e5d20da8af732a50da7c18287715146a298b004a9331c3", func := "lockwright/lockwrightlaw.LogBases", spec := "logBases", unfollowed := true, recurses := true, apart := false, narrowed := true }
def LogBasesUptoSaid : Prop := logBasesUptoRow.holds Try.pinned (OpenSpec.upto logBasesSpec)

/-- 'lockwrightlaw.LogPowers', WHERE WHAT IT READS IS OF BULK AT MOST 1048576: true; the input reads as it did. -/
def logPowersUptoRow : OpenClaim := { program := "ythejhpbbjjjmjaa", sum := "2f678d62956365b6f8e5d20da8af732a50da7c18287715146a298b004a9331c3", func := "lockwright/lockwrightlaw.LogPowers", spec := "logPowers", unfollowed := true, recurses := true, apart := false, narrowed := true }
def LogPowersUptoSaid : Prop := logPowersUptoRow.holds Try.pinned (OpenSpec.upto logPowersSpec)

/-- 'lockwrightlaw.SquaresRoots', WHERE WHAT IT READS IS OF BULK AT MOST 1048576: true; the input reads as it did. -/
def squaresRootsUptoRow : OpenClaim := { program := "ythejhpbbjjjmjaa", sum := "2f678d62956365b6f8e5d20da8af732a50da7c18287715146a298b004a9331c3", func := "lockwright/lockwrightlaw.SquaresRoots", spec := "squaresRoots", unfollowed := true, recurses := true, apart := false, narrowed := true }
def SquaresRootsUptoSaid : Prop := squaresRootsUptoRow.holds Try.pinned (OpenSpec.upto squaresRootsSpec)

/-- 'lockwrightlaw.PrimesDivide', WHERE WHAT IT READS IS OF BULK AT MOST 1048576: true; the input reads as it did. -/
def primesDivideUptoRow : OpenClaim := { program := "ythejhpbbjjjmjaa", sum := "2f678d62956365b6f8e5d20da8af732a50da7c18287715146a298b004a9331c3", func := "lockwright/lockwrightlaw.PrimesDivide", spec := "primesDivide", unfollowed := true, recurses := true, apart := false, narrowed := true }
def PrimesDivideUptoSaid : Prop := primesDivideUptoRow.holds Try.pinned (OpenSpec.upto primesDivideSpec)

/-- 'lockwrightlaw.PrattChecks', WHERE WHAT IT READS IS OF BULK AT MOST 1048576: true; the input reads as it did. -/
def prattChecksUptoRow : OpenClaim := { program := "ythejhpbbjjjmjaa", sum := "2f678d62956365b6f8e5d20da8af732a50da7c18287715146a298b004a9331c3", func := "lockwright/lockwrightlaw.PrattChecks", spec := "prattChecks", unfollowed := true, recurses := true, apart := false, narrowed := true }
def PrattChecksUptoSaid : Prop := prattChecksUptoRow.holds Try.pinned (OpenSpec.upto prattChecksSpec)

/-- 'lockwrightlaw.PrattMakes', WHERE WHAT IT READS IS OF BULK AT MOST 1048576: true; the input reads as it did. -/
def prattMakesUptoRow : OpenClaim := { program := "ythejhpbbjjjmjaa", sum := "2f678d62956365b6f8e5d20da8af732a50da7c18287715146a298b004a9331c3", func := "lockwright/lockwrightlaw.PrattMakes", spec := "prattMakes", unfollowed := true, recurses := true, apart := false, narrowed := true }
def PrattMakesUptoSaid : Prop := prattMakesUptoRow.holds Try.pinned (OpenSpec.upto prattMakesSpec)

end Rows
end Go.Proofs.Ythejhpbbjjjmjaa
