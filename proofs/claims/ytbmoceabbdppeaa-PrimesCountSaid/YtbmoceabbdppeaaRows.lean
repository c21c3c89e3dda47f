/-
  No cell of these rows narrows 'for every input' (looked for: loops, veiled, ifaces, maps, wideKeys, modest, calm, conditions, laid).
  DERIVED. THE GIVEN ROWS OF THIS SEAT. 12 by the template 'for every input the law returns true; each argument reads behind the call as it read before'; 0 by the template 'total and deterministic' (their statements: YtbmoceabbdppeaaTotals.lean).
  GIVEN WITH THE SEED: the statements are not yours to turn. If you find one false, say at which input.
  Laid BY PROGRAM, IN A SANDBOX (cutbox-rows.mjs): the forced cells as the released guide's own fill.sh prints them over the translation c4c329900540643c… (all of the seat's roots in one cut). By AI agents, Wed Nov 11 2026. No macro, syntax, notation, axiom, sorry.
-/
import Derived.Test.YtbmoceabbdppeaaChecked
import GoSem.Claim
import GoSem.ClaimJoined
import GoSem.ClaimMapViews
import Derived.JoinedTies
import Derived.KernelRfl
namespace Go.Proofs.Ytbmoceabbdppeaa
/- THE CELL 'sum', in the pinned program and in every row, IS THE sha256 OF THE DUMP (.gsa) THAT YtbmoceabbdppeaaProg.lean LOADS. Nothing in Lean hashes anything: it is a label: what it is worth is what the hold of that sum in a sandbox is worth. -/
noncomputable def Try.pinned : Pinned := { name := "ytbmoceabbdppeaa", sum := "c4c329900540643ce032062857c2ba3baef5523787738c72b65151f9ed7166be", checked := Try.checked }
namespace Rows
def none {H : Type} : Left H := { results := [], args := [] }

/-- 'lockwrightlaw.HashMixes': WHATEVER THE INPUT: true; the input reads as it did. -/
def hashMixesSpec : ChangeSpec := { name := "hashMixes", fn := fun _ => fun
  | [d1, d2] => { results := [.lit (.bool true)], args := [d1, d2] }
  | _ => none }
def hashMixesRow : OpenClaim := { program := "ytbmoceabbdppeaa", sum := "c4c329900540643ce032062857c2ba3baef5523787738c72b65151f9ed7166be", func := "lockwright/lockwrightlaw.HashMixes", spec := "hashMixes", apart := false }
def HashMixesSaid : Prop := hashMixesRow.holds Try.pinned (OpenSpec.ofChange hashMixesSpec)

/-- ITS FALSE NEIGHBOUR: 'it returns false'. Refute it at one input. -/
def hashMixesWrong : ChangeSpec := { name := "hashMixes", fn := fun _ => fun
  | [d1, d2] => { results := [.lit (.bool false)], args := [d1, d2] }
  | _ => none }
def HashMixesWrongFalsely : Prop := hashMixesRow.holds Try.pinned (OpenSpec.ofChange hashMixesWrong)

/-- 'lockwrightlaw.PowerRaises': WHATEVER THE INPUT: true; the input reads as it did. -/
def powerRaisesSpec : ChangeSpec := { name := "powerRaises", fn := fun _ => fun
  | [d1, d2, d3] => { results := [.lit (.bool true)], args := [d1, d2, d3] }
  | _ => none }
def powerRaisesRow : OpenClaim := { program := "ytbmoceabbdppeaa", sum := "c4c329900540643ce032062857c2ba3baef5523787738c72b65151f9ed7166be", func := "lockwright/lockwrightlaw.PowerRaises", spec := "powerRaises", recurses := true, apart := false }
def PowerRaisesSaid : Prop := powerRaisesRow.holds Try.pinned (OpenSpec.ofChange powerRaisesSpec)

/-- ITS FALSE NEIGHBOUR: 'it returns false'. Refute it at one input. -/
def powerRaisesWrong : ChangeSpec := { name := "powerRaises", fn := fun _ => fun
  | [d1, d2, d3] => { results := [.lit (.bool false)], args := [d1, d2, d3] }
  | _ => none }
def PowerRaisesWrongFalsely : Prop := powerRaisesRow.holds Try.pinned (OpenSpec.ofChange powerRaisesWrong)

/-- 'lockwrightlaw.RsaLocks': WHATEVER THE INPUT: true; the input reads as it did. -/
def rsaLocksSpec : ChangeSpec := { name := "rsaLocks", fn := fun _ => fun
  | [d1, d2] => { results := [.lit (.bool true)], args := [d1, d2] }
  | _ => none }
def rsaLocksRow : OpenClaim := { program := "ytbmoceabbdppeaa", sum := "c4c329900540643ce032062857c2ba3baef5523787738c72b65151f9ed7166be", func := "lockwright/lockwrightlaw.RsaLocks", spec := "rsaLocks", recurses := true, apart := false }
def RsaLocksSaid : Prop := rsaLocksRow.holds Try.pinned (OpenSpec.ofChange rsaLocksSpec)

/-- ITS FALSE NEIGHBOUR: 'it returns false'. Refute it at one input. -/
def rsaLocksWrong : ChangeSpec := { name := "rsaLocks", fn := fun _ => fun
  | [d1, d2] => { results := [.lit (.bool false)], args := [d1, d2] }
  | _ => none }
def RsaLocksWrongFalsely : Prop := rsaLocksRow.holds Try.pinned (OpenSpec.ofChange rsaLocksWrong)

/-- 'lockwrightlaw.RsaUnlocks': WHATEVER THE INPUT: true; the input reads as it did. -/
def rsaUnlocksSpec : ChangeSpec := { name := "rsaUnlocks", fn := fun _ => fun
  | [d1, d2] => { results := [.lit (.bool true)], args := [d1, d2] }
  | _ => none }
def rsaUnlocksRow : OpenClaim := { program := "ytbmoceabbdppeaa", sum := "c4c329900540643ce032062857c2ba3baef5523787738c72b65151f9ed7166be", func := "lockwright/lockwrightlaw.RsaUnlocks", spec := "rsaUnlocks", recurses := true, apart := false }
def RsaUnlocksSaid : Prop := rsaUnlocksRow.holds Try.pinned (OpenSpec.ofChange rsaUnlocksSpec)

/-- ITS FALSE NEIGHBOUR: 'it returns false'. Refute it at one input. -/
def rsaUnlocksWrong : ChangeSpec := { name := "rsaUnlocks", fn := fun _ => fun
  | [d1, d2] => { results := [.lit (.bool false)], args := [d1, d2] }
  | _ => none }
def RsaUnlocksWrongFalsely : Prop := rsaUnlocksRow.holds Try.pinned (OpenSpec.ofChange rsaUnlocksWrong)

/-- 'lockwrightlaw.LiarsFermats': WHATEVER THE INPUT: true; the input reads as it did. -/
def liarsFermatsSpec : ChangeSpec := { name := "liarsFermats", fn := fun _ => fun
  | [d1, d2] => { results := [.lit (.bool true)], args := [d1, d2] }
  | _ => none }
def liarsFermatsRow : OpenClaim := { program := "ytbmoceabbdppeaa", sum := "c4c329900540643ce032062857c2ba3baef5523787738c72b65151f9ed7166be", func := "lockwright/lockwrightlaw.LiarsFermats", spec := "liarsFermats", unfollowed := true, recurses := true, apart := false }
def LiarsFermatsSaid : Prop := liarsFermatsRow.holds Try.pinned (OpenSpec.ofChange liarsFermatsSpec)

/-- ITS FALSE NEIGHBOUR: 'it returns false'. Refute it at one input. -/
def liarsFermatsWrong : ChangeSpec := { name := "liarsFermats", fn := fun _ => fun
  | [d1, d2] => { results := [.lit (.bool false)], args := [d1, d2] }
  | _ => none }
def LiarsFermatsWrongFalsely : Prop := liarsFermatsRow.holds Try.pinned (OpenSpec.ofChange liarsFermatsWrong)

/-- 'lockwrightlaw.WalshWaves': WHATEVER THE INPUT: true; the input reads as it did. -/
def walshWavesSpec : ChangeSpec := { name := "walshWaves", fn := fun _ => fun
  | [d1, d2] => { results := [.lit (.bool true)], args := [d1, d2] }
  | _ => none }
def walshWavesRow : OpenClaim := { program := "ytbmoceabbdppeaa", sum := "c4c329900540643ce032062857c2ba3baef5523787738c72b65151f9ed7166be", func := "lockwright/lockwrightlaw.WalshWaves", spec := "walshWaves", unfollowed := true, recurses := true, apart := false }
def WalshWavesSaid : Prop := walshWavesRow.holds Try.pinned (OpenSpec.ofChange walshWavesSpec)

/-- ITS FALSE NEIGHBOUR: 'it returns false'. Refute it at one input. -/
def walshWavesWrong : ChangeSpec := { name := "walshWaves", fn := fun _ => fun
  | [d1, d2] => { results := [.lit (.bool false)], args := [d1, d2] }
  | _ => none }
def WalshWavesWrongFalsely : Prop := walshWavesRow.holds Try.pinned (OpenSpec.ofChange walshWavesWrong)

/-- 'lockwrightlaw.EuclidGcds': WHATEVER THE INPUT: true; the input reads as it did. -/
def euclidGcdsSpec : ChangeSpec := { name := "euclidGcds", fn := fun _ => fun
  | [d1, d2] => { results := [.lit (.bool true)], args := [d1, d2] }
  | _ => none }
def euclidGcdsRow : OpenClaim := { program := "ytbmoceabbdppeaa", sum := "c4c329900540643ce032062857c2ba3baef5523787738c72b65151f9ed7166be", func := "lockwright/lockwrightlaw.EuclidGcds", spec := "euclidGcds", apart := false }
def EuclidGcdsSaid : Prop := euclidGcdsRow.holds Try.pinned (OpenSpec.ofChange euclidGcdsSpec)

/-- ITS FALSE NEIGHBOUR: 'it returns false'. Refute it at one input. -/
def euclidGcdsWrong : ChangeSpec := { name := "euclidGcds", fn := fun _ => fun
  | [d1, d2] => { results := [.lit (.bool false)], args := [d1, d2] }
  | _ => none }
def EuclidGcdsWrongFalsely : Prop := euclidGcdsRow.holds Try.pinned (OpenSpec.ofChange euclidGcdsWrong)

/-- 'lockwrightlaw.PrimesAre': WHATEVER THE INPUT: true; the input reads as it did. -/
def primesAreSpec : ChangeSpec := { name := "primesAre", fn := fun _ => fun
  | [d] => { results := [.lit (.bool true)], args := [d] }
  | _ => none }
def primesAreRow : OpenClaim := { program := "ytbmoceabbdppeaa", sum := "c4c329900540643ce032062857c2ba3baef5523787738c72b65151f9ed7166be", func := "lockwright/lockwrightlaw.PrimesAre", spec := "primesAre", unfollowed := true, recurses := true, apart := false }
def PrimesAreSaid : Prop := primesAreRow.holds Try.pinned (OpenSpec.ofChange primesAreSpec)

/-- ITS FALSE NEIGHBOUR: 'it returns false'. Refute it at one input. -/
def primesAreWrong : ChangeSpec := { name := "primesAre", fn := fun _ => fun
  | [d] => { results := [.lit (.bool false)], args := [d] }
  | _ => none }
def PrimesAreWrongFalsely : Prop := primesAreRow.holds Try.pinned (OpenSpec.ofChange primesAreWrong)

/-- 'lockwrightlaw.EuclidInverts': WHATEVER THE INPUT: true; the input reads as it did. -/
def euclidInvertsSpec : ChangeSpec := { name := "euclidInverts", fn := fun _ => fun
  | [d1, d2] => { results := [.lit (.bool true)], args := [d1, d2] }
  | _ => none }
def euclidInvertsRow : OpenClaim := { program := "ytbmoceabbdppeaa", sum := "c4c329900540643ce032062857c2ba3baef5523787738c72b65151f9ed7166be", func := "lockwright/lockwrightlaw.EuclidInverts", spec := "euclidInverts", apart := false }
def EuclidInvertsSaid : Prop := euclidInvertsRow.holds Try.pinned (OpenSpec.ofChange euclidInvertsSpec)

/-- ITS FALSE NEIGHBOUR: 'it returns false'. Refute it at one input. -/
def euclidInvertsWrong : ChangeSpec := { name := "euclidInverts", fn := fun _ => fun
  | [d1, d2] => { results := [.lit (.bool false)], args := [d1, d2] }
  | _ => none }
def EuclidInvertsWrongFalsely : Prop := euclidInvertsRow.holds Try.pinned (OpenSpec.ofChange euclidInvertsWrong)

/-- 'lockwrightlaw.PrimesCount': WHATEVER THE INPUT: true; the input reads as it did. -/
def primesCountSpec : ChangeSpec := { name := "primesCount", fn := fun _ => fun
  | [d] => { results := [.lit (.bool true)], args := [d] }
  | _ => none }
def primesCountRow : OpenClaim := { program := "ytbmoceabbdppeaa", sum := "c4c329900540643ce032062857c2ba3baef5523787738c72b65151f9ed7166be", func := "lockwright/lockwrightlaw.PrimesCount", spec := "primesCount", unfollowed := true, recurses := true, apart := false }
def PrimesCountSaid : Prop := primesCountRow.holds Try.pinned (OpenSpec.ofChange primesCountSpec)

/-- ITS FALSE NEIGHBOUR: 'it returns false'. Refute it at one input. -/
def primesCountWrong : ChangeSpec := { name := "primesCount", fn := fun _ => fun
  | [d] => { results := [.lit (.bool false)], args := [d] }
  | _ => none }
def PrimesCountWrongFalsely : Prop := primesCountRow.holds Try.pinned (OpenSpec.ofChange primesCountWrong)

/-- 'lockwrightlaw.SquaresSymbols': WHATEVER THE INPUT: true; the input reads as it did. -/
def squaresSymbolsSpec : ChangeSpec := { name := "squaresSymbols", fn := fun _ => fun
  | [d1, d2] => { results := [.lit (.bool true)], args := [d1, d2] }
  | _ => none }
def squaresSymbolsRow : OpenClaim := { program := "ytbmoceabbdppeaa", sum := "c4c329900540643ce032062857c2ba3baef5523787738c72b65151f9ed7166be", func := "lockwright/lockwrightlaw.SquaresSymbols", spec := "squaresSymbols", apart := false }
def SquaresSymbolsSaid : Prop := squaresSymbolsRow.holds Try.pinned (OpenSpec.ofChange squaresSymbolsSpec)

/-- ITS FALSE NEIGHBOUR: 'it returns false'. Refute it at one input. -/
def squaresSymbolsWrong : ChangeSpec := { name := "squaresSymbols", fn := fun _ => fun
  | [d1, d2] => { results := [.lit (.bool false)], args := [d1, d2] }
  | _ => none }
def SquaresSymbolsWrongFalsely : Prop := squaresSymbolsRow.holds Try.pinned (OpenSpec.ofChange squaresSymbolsWrong)

/-- 'lockwrightlaw.WalshSums': WHATEVER THE INPUT: true; the input reads as it did. -/
def walshSumsSpec : ChangeSpec := { name := "walshSums", fn := fun _ => fun
  | [d1, d2] => { results := [.lit (.bool true)], args := [d1, d2] }
  | _ => none }
def walshSumsRow : OpenClaim := { program := "ytbmoceabbdppeaa", sum := "c4c329900540643ce032062857c2ba3baef5523787738c72b65151f9ed7166be", func := "lockwright/lockwrightlaw.WalshSums", spec := "walshSums", unfollowed := true, recurses := true, apart := false }
def WalshSumsSaid : Prop := walshSumsRow.holds Try.pinned (OpenSpec.ofChange walshSumsSpec)

/-- ITS FALSE NEIGHBOUR: 'it returns false'. Refute it at one input. -/
def walshSumsWrong : ChangeSpec := { name := "walshSums", fn := fun _ => fun
  | [d1, d2] => { results := [.lit (.bool false)], args := [d1, d2] }
  | _ => none }
def WalshSumsWrongFalsely : Prop := walshSumsRow.holds Try.pinned (OpenSpec.ofChange walshSumsWrong)

/- THE SECOND FORM. 'bulk': how many values and letters a reading holds, each counted each time it is reached (what is shared counts as often as it is met; a slice's spare places count too). A statement '..UptoSaid' is the law's where the arguments, and the package variables that the reading takes, are together of bulk at most 1048576: NARROWER than '..Said'. Prove '..Said' where nothing that the law and all that it calls make is longer than what came in: it says more and counts as full. Else prove '..UptoSaid'. A law counts once. -/
mutual
def uptoBulk {H : Type} : DataW H → Nat
  | .lit (.string bytes) => bytes.length + 1
  | .lit _ => 1
  | .nil => 1
  | .ptr d => uptoBulk d + 1
  | .slice elems spare => uptoBulkAll elems + uptoBulkAll spare + 1
  | .agg parts => uptoBulkAll parts + 1
  | .iface _ d => uptoBulk d + 1
  | .map entries => uptoBulkEntries entries + 1
  | .held _ => 1
def uptoBulkAll {H : Type} : List (DataW H) → Nat
  | [] => 0
  | d :: r => uptoBulk d + uptoBulkAll r
def uptoBulkEntries {H : Type} : List (Lit × DataW H) → Nat
  | [] => 0
  | x :: r => uptoBulkEntry x + uptoBulkEntries r
def uptoBulkEntry {H : Type} : Lit × DataW H → Nat
  | (.string bytes, d) => bytes.length + uptoBulk d + 1
  | (_, d) => uptoBulk d + 1
 end
def uptoSmall : (H : Type) → List (DataW H) → Bool := fun _ ds => decide (uptoBulkAll ds ≤ 1048576)
def OpenSpec.upto (s : _root_.Go.ChangeSpec) : _root_.Go.OpenSpec := { _root_.Go.OpenSpec.ofChange s with cond := some uptoSmall }

/-- 'lockwrightlaw.HashMixes', WHERE WHAT IT READS IS OF BULK AT MOST 1048576: true; the input reads as it did. -/
def hashMixesUptoRow : OpenClaim := { program := "ytbmoceabbdppeaa", sum := "c4c329900540643ce032062857c2ba3baef5523787738c72b65151f9ed7166be", func := "lockwright/lockwrightlaw.HashMixes", spec := "hashMixes", apart := false, narrowed := true }
def HashMixesUptoSaid : Prop := hashMixesUptoRow.holds Try.pinned (OpenSpec.upto hashMixesSpec)

/-- 'lockwrightlaw.PowerRaises', WHERE WHAT IT READS IS OF BULK AT MOST 1048576: true; the input reads as it did. -/
def powerRaisesUptoRow : OpenClaim := { program := "ytbmoceabbdppeaa", sum := "c4c329900540643ce032062857c2ba3baef5523787738c72b65151f9ed7166be", func := "lockwright/lockwrightlaw.PowerRaises", spec := "powerRaises", recurses := true, apart := false, narrowed := true }
def PowerRaisesUptoSaid : Prop := powerRaisesUptoRow.holds Try.pinned (OpenSpec.upto powerRaisesSpec)

/-- 'lockwrightlaw.RsaLocks', WHERE WHAT IT READS IS OF BULK AT MOST 1048576: true; the input reads as it did. -/
def rsaLocksUptoRow : OpenClaim := { program := "ytbmoceabbdppeaa", sum := "c4c329900540643ce032062857c2ba3baef5523787738c72b65151f9ed7166be", func := "lockwright/lockwrightlaw.RsaLocks", spec := "rsaLocks", recurses := true, apart := false, narrowed := true }
def RsaLocksUptoSaid : Prop := rsaLocksUptoRow.holds Try.pinned (OpenSpec.upto rsaLocksSpec)

/-- 'lockwrightlaw.RsaUnlocks', WHERE WHAT IT READS IS OF BULK AT MOST 1048576: true; the input reads as it did. -/
def rsaUnlocksUptoRow : OpenClaim := { program := "ytbmoceabbdppeaa", sum := "c4c329900540643ce032062857c2ba3baef5523787738c72b65151f9ed7166be", func := "lockwright/lockwrightlaw.RsaUnlocks", spec := "rsaUnlocks", recurses := true, apart := false, narrowed := true }
def RsaUnlocksUptoSaid : Prop := rsaUnlocksUptoRow.holds Try.pinned (OpenSpec.upto rsaUnlocksSpec)

/-- 'lockwrightlaw.LiarsFermats', WHERE WHAT IT READS IS OF BULK AT MOST 1048576: true; the input reads as it did. -/
def liarsFermatsUptoRow : OpenClaim := { program := "ytbmoceabbdppeaa", sum := "c4c329900540643ce032062857c2ba3baef5523787738c72b65151f9ed7166be", func := "lockwright/lockwrightlaw.LiarsFermats", spec := "liarsFermats", unfollowed := true, recurses := true, apart := false, narrowed := true }
def LiarsFermatsUptoSaid : Prop := liarsFermatsUptoRow.holds Try.pinned (OpenSpec.upto liarsFermatsSpec)

/-- 'lockwrightlaw.WalshWaves', WHERE WHAT IT READS IS OF BULK AT MOST 1048576: true; the input reads as it did. -/
def walshWavesUptoRow : OpenClaim := { program := "ytbmoceabbdppeaa", sum := "c4c329900540643ce032062857c2ba3baef5523787738c72b65151f9ed7166be", func := "lockwright/lockwrightlaw.WalshWaves", spec := "walshWaves", unfollowed := true, recurses := true, apart := false, narrowed := true }
def WalshWavesUptoSaid : Prop := walshWavesUptoRow.holds Try.pinned (OpenSpec.upto walshWavesSpec)

/-- 'lockwrightlaw.EuclidGcds', WHERE WHAT IT READS IS OF BULK AT MOST 1048576: true; the input reads as it did. -/
def euclidGcdsUptoRow : OpenClaim := { program := "ytbmoceabbdppeaa", sum := "c4c329900540643ce032062857c2ba3baef5523787738c72b65151f9ed7166be", func := "lockwright/lockwrightlaw.EuclidGcds", spec := "euclidGcds", apart := false, narrowed := true }
def EuclidGcdsUptoSaid : Prop := euclidGcdsUptoRow.holds Try.pinned (OpenSpec.upto euclidGcdsSpec)

/-- 'lockwrightlaw.PrimesAre', WHERE WHAT IT READS IS OF BULK AT MOST 1048576: true; the input reads as it did. -/
def primesAreUptoRow : OpenClaim := { program := "ytbmoceabbdppeaa", sum := "c4c329900540643ce032062857c2ba3baef5523787738c72b65151f9ed7166be", func := "lockwright/lockwrightlaw.PrimesAre", spec := "primesAre", unfollowed := true, recurses := true, apart := false, narrowed := true }
def PrimesAreUptoSaid : Prop := primesAreUptoRow.holds Try.pinned (OpenSpec.upto primesAreSpec)

/-- 'lockwrightlaw.EuclidInverts', WHERE WHAT IT READS IS OF BULK AT MOST 1048576: true; the input reads as it did. -/
def euclidInvertsUptoRow : OpenClaim := { program := "ytbmoceabbdppeaa", sum := "c4c329900540643ce032062857c2ba3baef5523787738c72b65151f9ed7166be", func := "lockwright/lockwrightlaw.EuclidInverts", spec := "euclidInverts", apart := false, narrowed := true }
def EuclidInvertsUptoSaid : Prop := euclidInvertsUptoRow.holds Try.pinned (OpenSpec.upto euclidInvertsSpec)

/-- 'lockwrightlaw.PrimesCount', WHERE WHAT IT READS IS OF BULK AT MOST 1048576: true; the input reads as it did. -/
def primesCountUptoRow : OpenClaim := { program := "ytbmoceabbdppeaa", sum := "c4c329900540643ce032062857c2ba3baef5523787738c72b65151f9ed7166be", func := "lockwright/lockwrightlaw.PrimesCount", spec := "primesCount", unfollowed := true, recurses := true, apart := false, narrowed := true }
def PrimesCountUptoSaid : Prop := primesCountUptoRow.holds Try.pinned (OpenSpec.upto primesCountSpec)

/-- 'lockwrightlaw.SquaresSymbols', WHERE WHAT IT READS IS OF BULK AT MOST 1048576: true; the input reads as it did. -/
def squaresSymbolsUptoRow : OpenClaim := { program := "ytbmoceabbdppeaa", sum := "c4c329900540643ce032062857c2ba3baef5523787738c72b65151f9ed7166be", func := "lockwright/lockwrightlaw.SquaresSymbols", spec := "squaresSymbols", apart := false, narrowed := true }
def SquaresSymbolsUptoSaid : Prop := squaresSymbolsUptoRow.holds Try.pinned (OpenSpec.upto squaresSymbolsSpec)

/-- 'lockwrightlaw.WalshSums', WHERE WHAT IT READS IS OF BULK AT MOST 1048576: true; the input reads as it did. -/
def walshSumsUptoRow : OpenClaim := { program := "ytbmoceabbdppeaa", sum := "c4c329900540643ce032062857c2ba3baef5523787738c72b65151f9ed7166be", func := "lockwright/lockwrightlaw.WalshSums", spec := "walshSums", unfollowed := true, recurses := true, apart := false, narrowed := true }
def WalshSumsUptoSaid : Prop := walshSumsUptoRow.holds Try.pinned (OpenSpec.upto walshSumsSpec)

end Rows
end Go.Proofs.Ytbmoceabbdppeaa
