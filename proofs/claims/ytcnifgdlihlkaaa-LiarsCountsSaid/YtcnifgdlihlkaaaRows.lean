/-
  No cell of these rows narrows 'for every input' (looked for: loops, veiled, ifaces, maps, wideKeys, modest, calm, conditions, laid).
  DERIVED. THE GIVEN ROWS OF THIS SEAT. 12 by the template 'for every input the law returns true; each argument reads behind the call as it read before'; 0 by the template 'total and deterministic' (their statements: YtcnifgdlihlkaaaTotals.lean).
  GIVEN WITH THE SEED: the statements are not yours to turn. If you find one false, say at which input.
  Laid BY PROGRAM, IN A SANDBOX (cutbox-rows.mjs): the forced cells as the released guide's own fill.sh prints them over the translation e60995469d7a6520… (all of the seat's roots in one cut). By AI agents, Wed Nov 11 2026. No macro, syntax, notation, axiom, sorry.
-/
import Derived.Test.YtcnifgdlihlkaaaChecked
import GoSem.Claim
import GoSem.ClaimJoined
import GoSem.ClaimMapViews
import Derived.JoinedTies
import Derived.KernelRfl
namespace Go.Proofs.Ytcnifgdlihlkaaa
/- THE CELL 'sum', in the pinned program and in every row, IS THE sha256 OF THE DUMP (.gsa) THAT YtcnifgdlihlkaaaProg.lean LOADS. Nothing in Lean hashes anything: it is a label: what it is worth is what the hold of that sum in a sandbox is worth. -/
noncomputable def Try.pinned : Pinned := { name := "ytcnifgdlihlkaaa", sum := "e60995469d7a652078f34a6962fd6398246c8e51accbc1e194d4b68906b7367f", checked := Try.checked }
namespace Rows
def none {H : Type} : Left H := { results := [], args := [] }

/-- 'lockwrightlaw.PrimesSigns': WHATEVER THE INPUT: true; the input reads as it did. -/
def primesSignsSpec : ChangeSpec := { name := "primesSigns", fn := fun _ => fun
  | [d] => { results := [.lit (.bool true)], args := [d] }
  | _ => none }
def primesSignsRow : OpenClaim := { program := "ytcnifgdlihlkaaa", sum := "e60995469d7a652078f34a6962fd6398246c8e51accbc1e194d4b68906b7367f", func := "lockwright/lockwrightlaw.PrimesSigns", spec := "primesSigns", unfollowed := true, recurses := true, apart := false }
def PrimesSignsSaid : Prop := primesSignsRow.holds Try.pinned (OpenSpec.ofChange primesSignsSpec)

/-- ITS FALSE NEIGHBOUR: 'it returns false'. Refute it at one input. -/
def primesSignsWrong : ChangeSpec := { name := "primesSigns", fn := fun _ => fun
  | [d] => { results := [.lit (.bool false)], args := [d] }
  | _ => none }
def PrimesSignsWrongFalsely : Prop := primesSignsRow.holds Try.pinned (OpenSpec.ofChange primesSignsWrong)

/-- 'lockwrightlaw.EuclidLcms': WHATEVER THE INPUT: true; the input reads as it did. -/
def euclidLcmsSpec : ChangeSpec := { name := "euclidLcms", fn := fun _ => fun
  | [d1, d2] => { results := [.lit (.bool true)], args := [d1, d2] }
  | _ => none }
def euclidLcmsRow : OpenClaim := { program := "ytcnifgdlihlkaaa", sum := "e60995469d7a652078f34a6962fd6398246c8e51accbc1e194d4b68906b7367f", func := "lockwright/lockwrightlaw.EuclidLcms", spec := "euclidLcms", apart := false }
def EuclidLcmsSaid : Prop := euclidLcmsRow.holds Try.pinned (OpenSpec.ofChange euclidLcmsSpec)

/-- ITS FALSE NEIGHBOUR: 'it returns false'. Refute it at one input. -/
def euclidLcmsWrong : ChangeSpec := { name := "euclidLcms", fn := fun _ => fun
  | [d1, d2] => { results := [.lit (.bool false)], args := [d1, d2] }
  | _ => none }
def EuclidLcmsWrongFalsely : Prop := euclidLcmsRow.holds Try.pinned (OpenSpec.ofChange euclidLcmsWrong)

/-- 'lockwrightlaw.PrimesFactor': WHATEVER THE INPUT: true; the input reads as it did. -/
def primesFactorSpec : ChangeSpec := { name := "primesFactor", fn := fun _ => fun
  | [d] => { results := [.lit (.bool true)], args := [d] }
  | _ => none }
def primesFactorRow : OpenClaim := { program := "ytcnifgdlihlkaaa", sum := "e60995469d7a652078f34a6962fd6398246c8e51accbc1e194d4b68906b7367f", func := "lockwright/lockwrightlaw.PrimesFactor", spec := "primesFactor", unfollowed := true, recurses := true, apart := false }
def PrimesFactorSaid : Prop := primesFactorRow.holds Try.pinned (OpenSpec.ofChange primesFactorSpec)

/-- ITS FALSE NEIGHBOUR: 'it returns false'. Refute it at one input. -/
def primesFactorWrong : ChangeSpec := { name := "primesFactor", fn := fun _ => fun
  | [d] => { results := [.lit (.bool false)], args := [d] }
  | _ => none }
def PrimesFactorWrongFalsely : Prop := primesFactorRow.holds Try.pinned (OpenSpec.ofChange primesFactorWrong)

/-- 'lockwrightlaw.EuclidMakes': WHATEVER THE INPUT: true; the input reads as it did. -/
def euclidMakesSpec : ChangeSpec := { name := "euclidMakes", fn := fun _ => fun
  | [d1, d2] => { results := [.lit (.bool true)], args := [d1, d2] }
  | _ => none }
def euclidMakesRow : OpenClaim := { program := "ytcnifgdlihlkaaa", sum := "e60995469d7a652078f34a6962fd6398246c8e51accbc1e194d4b68906b7367f", func := "lockwright/lockwrightlaw.EuclidMakes", spec := "euclidMakes", apart := false }
def EuclidMakesSaid : Prop := euclidMakesRow.holds Try.pinned (OpenSpec.ofChange euclidMakesSpec)

/-- ITS FALSE NEIGHBOUR: 'it returns false'. Refute it at one input. -/
def euclidMakesWrong : ChangeSpec := { name := "euclidMakes", fn := fun _ => fun
  | [d1, d2] => { results := [.lit (.bool false)], args := [d1, d2] }
  | _ => none }
def EuclidMakesWrongFalsely : Prop := euclidMakesRow.holds Try.pinned (OpenSpec.ofChange euclidMakesWrong)

/-- 'lockwrightlaw.LiarsStrong': WHATEVER THE INPUT: true; the input reads as it did. -/
def liarsStrongSpec : ChangeSpec := { name := "liarsStrong", fn := fun _ => fun
  | [d1, d2] => { results := [.lit (.bool true)], args := [d1, d2] }
  | _ => none }
def liarsStrongRow : OpenClaim := { program := "ytcnifgdlihlkaaa", sum := "e60995469d7a652078f34a6962fd6398246c8e51accbc1e194d4b68906b7367f", func := "lockwright/lockwrightlaw.LiarsStrong", spec := "liarsStrong", unfollowed := true, recurses := true, apart := false }
def LiarsStrongSaid : Prop := liarsStrongRow.holds Try.pinned (OpenSpec.ofChange liarsStrongSpec)

/-- ITS FALSE NEIGHBOUR: 'it returns false'. Refute it at one input. -/
def liarsStrongWrong : ChangeSpec := { name := "liarsStrong", fn := fun _ => fun
  | [d1, d2] => { results := [.lit (.bool false)], args := [d1, d2] }
  | _ => none }
def LiarsStrongWrongFalsely : Prop := liarsStrongRow.holds Try.pinned (OpenSpec.ofChange liarsStrongWrong)

/-- 'lockwrightlaw.CycleTells': WHATEVER THE INPUT: true; the input reads as it did. -/
def cycleTellsSpec : ChangeSpec := { name := "cycleTells", fn := fun _ => fun
  | [d1, d2, d3] => { results := [.lit (.bool true)], args := [d1, d2, d3] }
  | _ => none }
def cycleTellsRow : OpenClaim := { program := "ytcnifgdlihlkaaa", sum := "e60995469d7a652078f34a6962fd6398246c8e51accbc1e194d4b68906b7367f", func := "lockwright/lockwrightlaw.CycleTells", spec := "cycleTells", apart := false }
def CycleTellsSaid : Prop := cycleTellsRow.holds Try.pinned (OpenSpec.ofChange cycleTellsSpec)

/-- ITS FALSE NEIGHBOUR: 'it returns false'. Refute it at one input. -/
def cycleTellsWrong : ChangeSpec := { name := "cycleTells", fn := fun _ => fun
  | [d1, d2, d3] => { results := [.lit (.bool false)], args := [d1, d2, d3] }
  | _ => none }
def CycleTellsWrongFalsely : Prop := cycleTellsRow.holds Try.pinned (OpenSpec.ofChange cycleTellsWrong)

/-- 'lockwrightlaw.CurveChecks': WHATEVER THE INPUT: true; the input reads as it did. -/
def curveChecksSpec : ChangeSpec := { name := "curveChecks", fn := fun _ => fun
  | [d] => { results := [.lit (.bool true)], args := [d] }
  | _ => none }
def curveChecksRow : OpenClaim := { program := "ytcnifgdlihlkaaa", sum := "e60995469d7a652078f34a6962fd6398246c8e51accbc1e194d4b68906b7367f", func := "lockwright/lockwrightlaw.CurveChecks", spec := "curveChecks", unfollowed := true, recurses := true, apart := false }
def CurveChecksSaid : Prop := curveChecksRow.holds Try.pinned (OpenSpec.ofChange curveChecksSpec)

/-- ITS FALSE NEIGHBOUR: 'it returns false'. Refute it at one input. -/
def curveChecksWrong : ChangeSpec := { name := "curveChecks", fn := fun _ => fun
  | [d] => { results := [.lit (.bool false)], args := [d] }
  | _ => none }
def CurveChecksWrongFalsely : Prop := curveChecksRow.holds Try.pinned (OpenSpec.ofChange curveChecksWrong)

/-- 'lockwrightlaw.LiarsCounts': WHATEVER THE INPUT: true; the input reads as it did. -/
def liarsCountsSpec : ChangeSpec := { name := "liarsCounts", fn := fun _ => fun
  | [d] => { results := [.lit (.bool true)], args := [d] }
  | _ => none }
def liarsCountsRow : OpenClaim := { program := "ytcnifgdlihlkaaa", sum := "e60995469d7a652078f34a6962fd6398246c8e51accbc1e194d4b68906b7367f", func := "lockwright/lockwrightlaw.LiarsCounts", spec := "liarsCounts", recurses := true, apart := false }
def LiarsCountsSaid : Prop := liarsCountsRow.holds Try.pinned (OpenSpec.ofChange liarsCountsSpec)

/-- ITS FALSE NEIGHBOUR: 'it returns false'. Refute it at one input. -/
def liarsCountsWrong : ChangeSpec := { name := "liarsCounts", fn := fun _ => fun
  | [d] => { results := [.lit (.bool false)], args := [d] }
  | _ => none }
def LiarsCountsWrongFalsely : Prop := liarsCountsRow.holds Try.pinned (OpenSpec.ofChange liarsCountsWrong)

/-- 'lockwrightlaw.LiarsEulers': WHATEVER THE INPUT: true; the input reads as it did. -/
def liarsEulersSpec : ChangeSpec := { name := "liarsEulers", fn := fun _ => fun
  | [d1, d2] => { results := [.lit (.bool true)], args := [d1, d2] }
  | _ => none }
def liarsEulersRow : OpenClaim := { program := "ytcnifgdlihlkaaa", sum := "e60995469d7a652078f34a6962fd6398246c8e51accbc1e194d4b68906b7367f", func := "lockwright/lockwrightlaw.LiarsEulers", spec := "liarsEulers", unfollowed := true, recurses := true, apart := false }
def LiarsEulersSaid : Prop := liarsEulersRow.holds Try.pinned (OpenSpec.ofChange liarsEulersSpec)

/-- ITS FALSE NEIGHBOUR: 'it returns false'. Refute it at one input. -/
def liarsEulersWrong : ChangeSpec := { name := "liarsEulers", fn := fun _ => fun
  | [d1, d2] => { results := [.lit (.bool false)], args := [d1, d2] }
  | _ => none }
def LiarsEulersWrongFalsely : Prop := liarsEulersRow.holds Try.pinned (OpenSpec.ofChange liarsEulersWrong)

/-- 'lockwrightlaw.PadChecks': WHATEVER THE INPUT: true; the input reads as it did. -/
def padChecksSpec : ChangeSpec := { name := "padChecks", fn := fun _ => fun
  | [d] => { results := [.lit (.bool true)], args := [d] }
  | _ => none }
def padChecksRow : OpenClaim := { program := "ytcnifgdlihlkaaa", sum := "e60995469d7a652078f34a6962fd6398246c8e51accbc1e194d4b68906b7367f", func := "lockwright/lockwrightlaw.PadChecks", spec := "padChecks", unfollowed := true, recurses := true, apart := false }
def PadChecksSaid : Prop := padChecksRow.holds Try.pinned (OpenSpec.ofChange padChecksSpec)

/-- ITS FALSE NEIGHBOUR: 'it returns false'. Refute it at one input. -/
def padChecksWrong : ChangeSpec := { name := "padChecks", fn := fun _ => fun
  | [d] => { results := [.lit (.bool false)], args := [d] }
  | _ => none }
def PadChecksWrongFalsely : Prop := padChecksRow.holds Try.pinned (OpenSpec.ofChange padChecksWrong)

/-- 'lockwrightlaw.GroupChecks': WHATEVER THE INPUT: true; the input reads as it did. -/
def groupChecksSpec : ChangeSpec := { name := "groupChecks", fn := fun _ => fun
  | [d] => { results := [.lit (.bool true)], args := [d] }
  | _ => none }
def groupChecksRow : OpenClaim := { program := "ytcnifgdlihlkaaa", sum := "e60995469d7a652078f34a6962fd6398246c8e51accbc1e194d4b68906b7367f", func := "lockwright/lockwrightlaw.GroupChecks", spec := "groupChecks", unfollowed := true, recurses := true, apart := false }
def GroupChecksSaid : Prop := groupChecksRow.holds Try.pinned (OpenSpec.ofChange groupChecksSpec)

/-- ITS FALSE NEIGHBOUR: 'it returns false'. Refute it at one input. -/
def groupChecksWrong : ChangeSpec := { name := "groupChecks", fn := fun _ => fun
  | [d] => { results := [.lit (.bool false)], args := [d] }
  | _ => none }
def GroupChecksWrongFalsely : Prop := groupChecksRow.holds Try.pinned (OpenSpec.ofChange groupChecksWrong)

/-- 'lockwrightlaw.HashSums': WHATEVER THE INPUT: true; the input reads as it did. -/
def hashSumsSpec : ChangeSpec := { name := "hashSums", fn := fun _ => fun
  | [d] => { results := [.lit (.bool true)], args := [d] }
  | _ => none }
def hashSumsRow : OpenClaim := { program := "ytcnifgdlihlkaaa", sum := "e60995469d7a652078f34a6962fd6398246c8e51accbc1e194d4b68906b7367f", func := "lockwright/lockwrightlaw.HashSums", spec := "hashSums", apart := false }
def HashSumsSaid : Prop := hashSumsRow.holds Try.pinned (OpenSpec.ofChange hashSumsSpec)

/-- ITS FALSE NEIGHBOUR: 'it returns false'. Refute it at one input. -/
def hashSumsWrong : ChangeSpec := { name := "hashSums", fn := fun _ => fun
  | [d] => { results := [.lit (.bool false)], args := [d] }
  | _ => none }
def HashSumsWrongFalsely : Prop := hashSumsRow.holds Try.pinned (OpenSpec.ofChange hashSumsWrong)

/- THE SECOND FORM. 'bulk': how many values and letters a reading holds, each counted each time it is reached (what is shared counts as often as it is met; a slice's spare places count too). A statement '..UptoSaid' is the law's where the arguments, and the package variables that the reading takes, are together of bulk at most 1048576: NARROWER than '..Said'. Prove '..Said' where nothing that the law and all that it calls make is longer than what came in: it says more and counts as full. Else prove '..UptoSaid'. A law counts once. -/
mutual
def uptoBulk {H : Type} : DataW H → Nat
  | .lit (.string bytes) => bytes.length + 1
  | .lit _ => 1
  | .nil => 1
  | .ptr d => uptoBulk d + 1
  | .slice elems spare => uptoBulkAll elems + uptoBulkAll spare + 1
  | .agg parts => uptoBulkAll parts + 1
  | .iface _ d => uptoBulk d + 1
  | .map entries => uptoBulkEntries entries + 1
  | .held _ => 1
def uptoBulkAll {H : Type} : List (DataW H) → Nat
  | [] => 0
  | d :: r => uptoBulk d + uptoBulkAll r
def uptoBulkEntries {H : Type} : List (Lit × DataW H) → Nat
  | [] => 0
  | x :: r => uptoBulkEntry x + uptoBulkEntries r
def uptoBulkEntry {H : Type} : Lit × DataW H → Nat
  | (.string bytes, d) => bytes.length + uptoBulk d + 1
  | (_, d) => uptoBulk d + 1
 end
def uptoSmall : (H : Type) → List (DataW H) → Bool := fun _ ds => decide (uptoBulkAll ds ≤ 1048576)
def OpenSpec.upto (s : _root_.Go.ChangeSpec) : _root_.Go.OpenSpec := { _root_.Go.OpenSpec.ofChange s with cond := some uptoSmall }

/-- 'lockwrightlaw.PrimesSigns', WHERE WHAT IT READS IS OF BULK AT MOST 1048576: true; the input reads as it did. -/
def primesSignsUptoRow : OpenClaim := { program := "ytcnifgdlihlkaaa", sum := "e60995469d7a652078f34a6962fd6398246c8e51accbc1e194d4b68906b7367f", func := "lockwright/lockwrightlaw.PrimesSigns", spec := "primesSigns", unfollowed := true, recurses := true, apart := false, narrowed := true }
def PrimesSignsUptoSaid : Prop := primesSignsUptoRow.holds Try.pinned (OpenSpec.upto primesSignsSpec)

/-- 'lockwrightlaw.EuclidLcms', WHERE WHAT IT READS IS OF BULK AT MOST 1048576: true; the input reads as it did. -/
def euclidLcmsUptoRow : OpenClaim := { program := "ytcnifgdlihlkaaa", sum := "e60995469d7a652078f34a6962fd6398246c8e51accbc1e194d4b68906b7367f", func := "lockwright/lockwrightlaw.EuclidLcms", spec := "euclidLcms", apart := false, narrowed := true }
def EuclidLcmsUptoSaid : Prop := euclidLcmsUptoRow.holds Try.pinned (OpenSpec.upto euclidLcmsSpec)

/-- 'lockwrightlaw.PrimesFactor', WHERE WHAT IT READS IS OF BULK AT MOST 1048576: true; the input reads as it did. -/
def primesFactorUptoRow : OpenClaim := { program := "ytcnifgdlihlkaaa", sum := "e60995469d7a652078f34a6962fd6398246c8e51accbc1e194d4b68906b7367f", func := "lockwright/lockwrightlaw.PrimesFactor", spec := "primesFactor", unfollowed := true, recurses := true, apart := false, narrowed := true }
def PrimesFactorUptoSaid : Prop := primesFactorUptoRow.holds Try.pinned (OpenSpec.upto primesFactorSpec)

/-- 'lockwrightlaw.EuclidMakes', WHERE WHAT IT READS IS OF BULK AT MOST 1048576: true; the input reads as it did. -/
def euclidMakesUptoRow : OpenClaim := { program := "ytcnifgdlihlkaaa", sum := "e60995469d7a652078f34a6962fd6398246c8e51accbc1e194d4b68906b7367f", func := "lockwright/lockwrightlaw.EuclidMakes", spec := "euclidMakes", apart := false, narrowed := true }
def EuclidMakesUptoSaid : Prop := euclidMakesUptoRow.holds Try.pinned (OpenSpec.upto euclidMakesSpec)

/-- 'lockwrightlaw.LiarsStrong', WHERE WHAT IT READS IS OF BULK AT MOST 1048576: true; the input reads as it did. -/
def liarsStrongUptoRow : OpenClaim := { program := "ytcnifgdlihlkaaa", sum := "e60995469d7a652078f34a6962fd6398246c8e51accbc1e194d4b68906b7367f", func := "lockwright/lockwrightlaw.LiarsStrong", spec := "liarsStrong", unfollowed := true, recurses := true, apart := false, narrowed := true }
def LiarsStrongUptoSaid : Prop := liarsStrongUptoRow.holds Try.pinned (OpenSpec.upto liarsStrongSpec)

/-- 'lockwrightlaw.CycleTells', WHERE WHAT IT READS IS OF BULK AT MOST 1048576: true; the input reads as it did. -/
def cycleTellsUptoRow : OpenClaim := { program := "ytcnifgdlihlkaaa", sum := "e60995469d7a652078f34a6962fd6398246c8e51accbc1e194d4b68906b7367f", func := "lockwright/lockwrightlaw.CycleTells", spec := "cycleTells", apart := false, narrowed := true }
def CycleTellsUptoSaid : Prop := cycleTellsUptoRow.holds Try.pinned (OpenSpec.upto cycleTellsSpec)

/-- 'lockwrightlaw.CurveChecks', WHERE WHAT IT READS IS OF BULK AT MOST 1048576: true; the input reads as it did. -/
def curveChecksUptoRow : OpenClaim := { program := "ytcnifgdlihlkaaa", sum := "e60995469d7a652078f34a6962fd6398246c8e51accbc1e194d4b68906b7367f", func := "lockwright/lockwrightlaw.CurveChecks", spec := "curveChecks", unfollowed := true, recurses := true, apart := false, narrowed := true }
def CurveChecksUptoSaid : Prop := curveChecksUptoRow.holds Try.pinned (OpenSpec.upto curveChecksSpec)

/-- 'lockwrightlaw.LiarsCounts', WHERE WHAT IT READS IS OF BULK AT MOST 1048576: true; the input reads as it did. -/
def liarsCountsUptoRow : OpenClaim := { program := "ytcnifgdlihlkaaa", sum := "e60995469d7a652078f34a6962fd6398246c8e51accbc1e194d4b68906b7367f", func := "lockwright/lockwrightlaw.LiarsCounts", spec := "liarsCounts", recurses := true, apart := false, narrowed := true }
def LiarsCountsUptoSaid : Prop := liarsCountsUptoRow.holds Try.pinned (OpenSpec.upto liarsCountsSpec)

/-- 'lockwrightlaw.LiarsEulers', WHERE WHAT IT READS IS OF BULK AT MOST 1048576: true; the input reads as it did. -/
def liarsEulersUptoRow : OpenClaim := { program := "ytcnifgdlihlkaaa", sum := "e60995469d7a652078f34a6962fd6398246c8e51accbc1e194d4b68906b7367f", func := "lockwright/lockwrightlaw.LiarsEulers", spec := "liarsEulers", unfollowed := true, recurses := true, apart := false, narrowed := true }
def LiarsEulersUptoSaid : Prop := liarsEulersUptoRow.holds Try.pinned (OpenSpec.upto liarsEulersSpec)

/-- 'lockwrightlaw.PadChecks', WHERE WHAT IT READS IS OF BULK AT MOST 1048576: true; the input reads as it did. -/
def padChecksUptoRow : OpenClaim := { program := "ytcnifgdlihlkaaa", sum := "e60995469d7a652078f34a6962fd6398246c8e51accbc1e194d4b68906b7367f", func := "lockwright/lockwrightlaw.PadChecks", spec := "padChecks", unfollowed := true, recurses := true, apart := false, narrowed := true }
def PadChecksUptoSaid : Prop := padChecksUptoRow.holds Try.pinned (OpenSpec.upto padChecksSpec)

/-- 'lockwrightlaw.GroupChecks', WHERE WHAT IT READS IS OF BULK AT MOST 1048576: true; the input reads as it did. -/
def groupChecksUptoRow : OpenClaim := { program := "ytcnifgdlihlkaaa", sum := "e60995469d7a652078f34a6962fd6398246c8e51accbc1e194d4b68906b7367f", func := "lockwright/lockwrightlaw.GroupChecks", spec := "groupChecks", unfollowed := true, recurses := true, apart := false, narrowed := true }
def GroupChecksUptoSaid : Prop := groupChecksUptoRow.holds Try.pinned (OpenSpec.upto groupChecksSpec)

/-- 'lockwrightlaw.HashSums', WHERE WHAT IT READS IS OF BULK AT MOST 1048576: true; the input reads as it did. -/
def hashSumsUptoRow : OpenClaim := { program := "ytcnifgdlihlkaaa", sum := "e60995469d7a652078f34a6962fd6398246c8e51accbc1e194d4b68906b7367f", func := "lockwright/lockwrightlaw.HashSums", spec := "hashSums", apart := false, narrowed := true }
def HashSumsUptoSaid : Prop := hashSumsUptoRow.holds Try.pinned (OpenSpec.upto hashSumsSpec)

end Rows
end Go.Proofs.Ytcnifgdlihlkaaa
