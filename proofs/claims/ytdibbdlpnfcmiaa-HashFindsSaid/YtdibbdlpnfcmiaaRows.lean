/-
  No cell of these rows narrows 'for every input' (looked for: loops, veiled, ifaces, maps, wideKeys, modest, calm, conditions, laid).
  DERIVED. THE GIVEN ROWS OF THIS SEAT. 10 by the template 'for every input the law returns true; each argument reads behind the call as it read before'; 0 by the template 'total and deterministic' (their statements: YtdibbdlpnfcmiaaTotals.lean).
  GIVEN WITH THE SEED: the statements are not yours to turn. If you find one false, say at which input.
  Laid BY PROGRAM, IN A SANDBOX (cutbox-rows.mjs): the forced cells as the released guide's own fill.sh prints them over the translation 4022570952a1a59c… (all of the seat's roots in one cut). By AI agents, Wed Nov 11 2026. No macro, syntax, notation, axiom, sorry.
-/
import Derived.Test.YtdibbdlpnfcmiaaChecked
import GoSem.Claim
import GoSem.ClaimJoined
import GoSem.ClaimMapViews
import Derived.JoinedTies
import Derived.KernelRfl
namespace Go.Proofs.Ytdibbdlpnfcmiaa
/- THE CELL 'sum', in the pinned program and in every row, IS THE sha256 OF THE DUMP (.gsa) THAT YtdibbdlpnfcmiaaProg.lean LOADS. Nothing in Lean hashes anything: it is a label: what it is worth is what the hold of that sum in a sandbox is worth. -/
noncomputable def Try.pinned : Pinned := { name := "ytdibbdlpnfcmiaa", sum := "4022570952a1a59cff96aa80cfad140fad10921015594a54da6e1e7359045380", checked := Try.checked }
namespace Rows
def none {H : Type} : Left H := { results := [], args := [] }

/-- 'lockwrightlaw.HashSums': WHATEVER THE INPUT: true; the input reads as it did. -/
def hashSumsSpec : ChangeSpec := { name := "hashSums", fn := fun _ => fun
  | [d] => { results := [.lit (.bool true)], args := [d] }
  | _ => none }
def hashSumsRow : OpenClaim := { program := "ytdibbdlpnfcmiaa", sum := "4022570952a1a59cff96aa80cfad140fad10921015594a54da6e1e7359045380", func := "lockwright/lockwrightlaw.HashSums", spec := "hashSums", apart := false }
def HashSumsSaid : Prop := hashSumsRow.holds Try.pinned (OpenSpec.ofChange hashSumsSpec)

/-- ITS FALSE NEIGHBOUR: 'it returns false'. Refute it at one input. -/
def hashSumsWrong : ChangeSpec := { name := "hashSums", fn := fun _ => fun
  | [d] => { results := [.lit (.bool false)], args := [d] }
  | _ => none }
def HashSumsWrongFalsely : Prop := hashSumsRow.holds Try.pinned (OpenSpec.ofChange hashSumsWrong)

/-- 'lockwrighttop.TopRight': WHATEVER THE INPUT: true; the input reads as it did. -/
def topRightSpec : ChangeSpec := { name := "topRight", fn := fun _ => fun
  | [d1, d2, d3] => { results := [.lit (.bool true)], args := [d1, d2, d3] }
  | _ => none }
def topRightRow : OpenClaim := { program := "ytdibbdlpnfcmiaa", sum := "4022570952a1a59cff96aa80cfad140fad10921015594a54da6e1e7359045380", func := "lockwright/lockwrighttop.TopRight", spec := "topRight", unfollowed := true, recurses := true, apart := false }
def TopRightSaid : Prop := topRightRow.holds Try.pinned (OpenSpec.ofChange topRightSpec)

/-- ITS FALSE NEIGHBOUR: 'it returns false'. Refute it at one input. -/
def topRightWrong : ChangeSpec := { name := "topRight", fn := fun _ => fun
  | [d1, d2, d3] => { results := [.lit (.bool false)], args := [d1, d2, d3] }
  | _ => none }
def TopRightWrongFalsely : Prop := topRightRow.holds Try.pinned (OpenSpec.ofChange topRightWrong)

/-- 'lockwrightlaw.RatchetNexts': WHATEVER THE INPUT: true; the input reads as it did. -/
def ratchetNextsSpec : ChangeSpec := { name := "ratchetNexts", fn := fun _ => fun
  | [d] => { results := [.lit (.bool true)], args := [d] }
  | _ => none }
def ratchetNextsRow : OpenClaim := { program := "ytdibbdlpnfcmiaa", sum := "4022570952a1a59cff96aa80cfad140fad10921015594a54da6e1e7359045380", func := "lockwright/lockwrightlaw.RatchetNexts", spec := "ratchetNexts", apart := false }
def RatchetNextsSaid : Prop := ratchetNextsRow.holds Try.pinned (OpenSpec.ofChange ratchetNextsSpec)

/-- ITS FALSE NEIGHBOUR: 'it returns false'. Refute it at one input. -/
def ratchetNextsWrong : ChangeSpec := { name := "ratchetNexts", fn := fun _ => fun
  | [d] => { results := [.lit (.bool false)], args := [d] }
  | _ => none }
def RatchetNextsWrongFalsely : Prop := ratchetNextsRow.holds Try.pinned (OpenSpec.ofChange ratchetNextsWrong)

/-- 'lockwrightlaw.CellMakes': WHATEVER THE INPUT: true; the input reads as it did. -/
def cellMakesSpec : ChangeSpec := { name := "cellMakes", fn := fun _ => fun
  | [d1, d2, d3] => { results := [.lit (.bool true)], args := [d1, d2, d3] }
  | _ => none }
def cellMakesRow : OpenClaim := { program := "ytdibbdlpnfcmiaa", sum := "4022570952a1a59cff96aa80cfad140fad10921015594a54da6e1e7359045380", func := "lockwright/lockwrightlaw.CellMakes", spec := "cellMakes", apart := false }
def CellMakesSaid : Prop := cellMakesRow.holds Try.pinned (OpenSpec.ofChange cellMakesSpec)

/-- ITS FALSE NEIGHBOUR: 'it returns false'. Refute it at one input. -/
def cellMakesWrong : ChangeSpec := { name := "cellMakes", fn := fun _ => fun
  | [d1, d2, d3] => { results := [.lit (.bool false)], args := [d1, d2, d3] }
  | _ => none }
def CellMakesWrongFalsely : Prop := cellMakesRow.holds Try.pinned (OpenSpec.ofChange cellMakesWrong)

/-- 'lockwrighttop.TopTurned': WHATEVER THE INPUT: true; the input reads as it did. -/
def topTurnedSpec : ChangeSpec := { name := "topTurned", fn := fun _ => fun
  | [d1, d2, d3] => { results := [.lit (.bool true)], args := [d1, d2, d3] }
  | _ => none }
def topTurnedRow : OpenClaim := { program := "ytdibbdlpnfcmiaa", sum := "4022570952a1a59cff96aa80cfad140fad10921015594a54da6e1e7359045380", func := "lockwright/lockwrighttop.TopTurned", spec := "topTurned", unfollowed := true, recurses := true, apart := false }
def TopTurnedSaid : Prop := topTurnedRow.holds Try.pinned (OpenSpec.ofChange topTurnedSpec)

/-- ITS FALSE NEIGHBOUR: 'it returns false'. Refute it at one input. -/
def topTurnedWrong : ChangeSpec := { name := "topTurned", fn := fun _ => fun
  | [d1, d2, d3] => { results := [.lit (.bool false)], args := [d1, d2, d3] }
  | _ => none }
def TopTurnedWrongFalsely : Prop := topTurnedRow.holds Try.pinned (OpenSpec.ofChange topTurnedWrong)

/-- 'lockwrightlaw.HashFinds': WHATEVER THE INPUT: true; the input reads as it did. -/
def hashFindsSpec : ChangeSpec := { name := "hashFinds", fn := fun _ => fun
  | [d1, d2] => { results := [.lit (.bool true)], args := [d1, d2] }
  | _ => none }
def hashFindsRow : OpenClaim := { program := "ytdibbdlpnfcmiaa", sum := "4022570952a1a59cff96aa80cfad140fad10921015594a54da6e1e7359045380", func := "lockwright/lockwrightlaw.HashFinds", spec := "hashFinds", apart := false }
def HashFindsSaid : Prop := hashFindsRow.holds Try.pinned (OpenSpec.ofChange hashFindsSpec)

/-- ITS FALSE NEIGHBOUR: 'it returns false'. Refute it at one input. -/
def hashFindsWrong : ChangeSpec := { name := "hashFinds", fn := fun _ => fun
  | [d1, d2] => { results := [.lit (.bool false)], args := [d1, d2] }
  | _ => none }
def HashFindsWrongFalsely : Prop := hashFindsRow.holds Try.pinned (OpenSpec.ofChange hashFindsWrong)

/-- 'lockwrightlaw.CellLays': WHATEVER THE INPUT: true; the input reads as it did. -/
def cellLaysSpec : ChangeSpec := { name := "cellLays", fn := fun _ => fun
  | [d1, d2, d3] => { results := [.lit (.bool true)], args := [d1, d2, d3] }
  | _ => none }
def cellLaysRow : OpenClaim := { program := "ytdibbdlpnfcmiaa", sum := "4022570952a1a59cff96aa80cfad140fad10921015594a54da6e1e7359045380", func := "lockwright/lockwrightlaw.CellLays", spec := "cellLays", apart := false }
def CellLaysSaid : Prop := cellLaysRow.holds Try.pinned (OpenSpec.ofChange cellLaysSpec)

/-- ITS FALSE NEIGHBOUR: 'it returns false'. Refute it at one input. -/
def cellLaysWrong : ChangeSpec := { name := "cellLays", fn := fun _ => fun
  | [d1, d2, d3] => { results := [.lit (.bool false)], args := [d1, d2, d3] }
  | _ => none }
def CellLaysWrongFalsely : Prop := cellLaysRow.holds Try.pinned (OpenSpec.ofChange cellLaysWrong)

/-- 'lockwrightlaw.RatchetPlays': WHATEVER THE INPUT: true; the input reads as it did. -/
def ratchetPlaysSpec : ChangeSpec := { name := "ratchetPlays", fn := fun _ => fun
  | [d1, d2, d3] => { results := [.lit (.bool true)], args := [d1, d2, d3] }
  | _ => none }
def ratchetPlaysRow : OpenClaim := { program := "ytdibbdlpnfcmiaa", sum := "4022570952a1a59cff96aa80cfad140fad10921015594a54da6e1e7359045380", func := "lockwright/lockwrightlaw.RatchetPlays", spec := "ratchetPlays", apart := false }
def RatchetPlaysSaid : Prop := ratchetPlaysRow.holds Try.pinned (OpenSpec.ofChange ratchetPlaysSpec)

/-- ITS FALSE NEIGHBOUR: 'it returns false'. Refute it at one input. -/
def ratchetPlaysWrong : ChangeSpec := { name := "ratchetPlays", fn := fun _ => fun
  | [d1, d2, d3] => { results := [.lit (.bool false)], args := [d1, d2, d3] }
  | _ => none }
def RatchetPlaysWrongFalsely : Prop := ratchetPlaysRow.holds Try.pinned (OpenSpec.ofChange ratchetPlaysWrong)

/-- 'lockwrightlaw.CellReads': WHATEVER THE INPUT: true; the input reads as it did. -/
def cellReadsSpec : ChangeSpec := { name := "cellReads", fn := fun _ => fun
  | [d1, d2, d3] => { results := [.lit (.bool true)], args := [d1, d2, d3] }
  | _ => none }
def cellReadsRow : OpenClaim := { program := "ytdibbdlpnfcmiaa", sum := "4022570952a1a59cff96aa80cfad140fad10921015594a54da6e1e7359045380", func := "lockwright/lockwrightlaw.CellReads", spec := "cellReads", unfollowed := true, recurses := true, apart := false }
def CellReadsSaid : Prop := cellReadsRow.holds Try.pinned (OpenSpec.ofChange cellReadsSpec)

/-- ITS FALSE NEIGHBOUR: 'it returns false'. Refute it at one input. -/
def cellReadsWrong : ChangeSpec := { name := "cellReads", fn := fun _ => fun
  | [d1, d2, d3] => { results := [.lit (.bool false)], args := [d1, d2, d3] }
  | _ => none }
def CellReadsWrongFalsely : Prop := cellReadsRow.holds Try.pinned (OpenSpec.ofChange cellReadsWrong)

/-- 'lockwrightlaw.RelayPlays': WHATEVER THE INPUT: true; the input reads as it did. -/
def relayPlaysSpec : ChangeSpec := { name := "relayPlays", fn := fun _ => fun
  | [d1, d2, d3] => { results := [.lit (.bool true)], args := [d1, d2, d3] }
  | _ => none }
def relayPlaysRow : OpenClaim := { program := "ytdibbdlpnfcmiaa", sum := "4022570952a1a59cff96aa80cfad140fad10921015594a54da6e1e7359045380", func := "lockwright/lockwrightlaw.RelayPlays", spec := "relayPlays", unfollowed := true, recurses := true, apart := false }
def RelayPlaysSaid : Prop := relayPlaysRow.holds Try.pinned (OpenSpec.ofChange relayPlaysSpec)

/-- ITS FALSE NEIGHBOUR: 'it returns false'. Refute it at one input. -/
def relayPlaysWrong : ChangeSpec := { name := "relayPlays", fn := fun _ => fun
  | [d1, d2, d3] => { results := [.lit (.bool false)], args := [d1, d2, d3] }
  | _ => none }
def RelayPlaysWrongFalsely : Prop := relayPlaysRow.holds Try.pinned (OpenSpec.ofChange relayPlaysWrong)

/- THE SECOND FORM. 'bulk': how many values and letters a reading holds, each counted each time it is reached (what is shared counts as often as it is met; a slice's spare places count too). A statement '..UptoSaid' is the law's where the arguments, and the package variables that the reading takes, are together of bulk at most 1048576: NARROWER than '..Said'. Prove '..Said' where nothing that the law and all that it calls make is longer than what came in: it says more and counts as full. Else prove '..UptoSaid'. A law counts once. -/
mutual
def uptoBulk {H : Type} : DataW H → Nat
  | .lit (.string bytes) => bytes.length + 1
  | .lit _ => 1
  | .nil => 1
  | .ptr d => uptoBulk d + 1
  | .slice elems spare => uptoBulkAll elems + uptoBulkAll spare + 1
  | .agg parts => uptoBulkAll parts + 1
  | .iface _ d => uptoBulk d + 1
  | .map entries => uptoBulkEntries entries + 1
  | .held _ => 1
def uptoBulkAll {H : Type} : List (DataW H) → Nat
  | [] => 0
  | d :: r => uptoBulk d + uptoBulkAll r
def uptoBulkEntries {H : Type} : List (Lit × DataW H) → Nat
  | [] => 0
  | x :: r => uptoBulkEntry x + uptoBulkEntries r
def uptoBulkEntry {H : Type} : Lit × DataW H → Nat
  | (.string bytes, d) => bytes.length + uptoBulk d + 1
  | (_, d) => uptoBulk d + 1
 end
def uptoSmall : (H : Type) → List (DataW H) → Bool := fun _ ds => decide (uptoBulkAll ds ≤ 1048576)
def OpenSpec.upto (s : _root_.Go.ChangeSpec) : _root_.Go.OpenSpec := { _root_.Go.OpenSpec.ofChange s with cond := some uptoSmall }

/-- 'lockwrightlaw.HashSums', WHERE WHAT IT READS IS OF BULK AT MOST 1048576: true; the input reads as it did. -/
def hashSumsUptoRow : OpenClaim := { program := "ytdibbdlpnfcmiaa", sum := "4022570952a1a59cff96aa80cfad140fad10921015594a54da6e1e7359045380", func := "lockwright/lockwrightlaw.HashSums", spec := "hashSums", apart := false, narrowed := true }
def HashSumsUptoSaid : Prop := hashSumsUptoRow.holds Try.pinned (OpenSpec.upto hashSumsSpec)

/-- 'lockwrighttop.TopRight', WHERE WHAT IT READS IS OF BULK AT MOST 1048576: true; the input reads as it did. -/
def topRightUptoRow : OpenClaim := { program := "ytdibbdlpnfcmiaa", sum := "4022570952a1a59cff96aa80cfad140fad10921015594a54da6e1e7359045380", func := "lockwright/lockwrighttop.TopRight", spec := "topRight", unfollowed := true, recurses := true, apart := false, narrowed := true }
def TopRightUptoSaid : Prop := topRightUptoRow.holds Try.pinned (OpenSpec.upto topRightSpec)

/-- 'lockwrightlaw.RatchetNexts', WHERE WHAT IT READS IS OF BULK AT MOST 1048576: true; the input reads as it did. -/
def ratchetNextsUptoRow : OpenClaim := { program := "ytdibbdlpnfcmiaa", sum := "4022570952a1a59cff96aa80cfad140fad10921015594a54da6e1e7359045380", func := "lockwright/lockwrightlaw.RatchetNexts", spec := "ratchetNexts", apart := false, narrowed := true }
def RatchetNextsUptoSaid : Prop := ratchetNextsUptoRow.holds Try.pinned (OpenSpec.upto ratchetNextsSpec)

/-- 'lockwrightlaw.CellMakes', WHERE WHAT IT READS IS OF BULK AT MOST 1048576: true; the input reads as it did. -/
def cellMakesUptoRow : OpenClaim := { program := "ytdibbdlpnfcmiaa", sum := "4022570952a1a59cff96aa80cfad140fad10921015594a54da6e1e7359045380", func := "lockwright/lockwrightlaw.CellMakes", spec := "cellMakes", apart := false, narrowed := true }
def CellMakesUptoSaid : Prop := cellMakesUptoRow.holds Try.pinned (OpenSpec.upto cellMakesSpec)

/-- 'lockwrighttop.TopTurned', WHERE WHAT IT READS IS OF BULK AT MOST 1048576: true; the input reads as it did. -/
def topTurnedUptoRow : OpenClaim := { program := "ytdibbdlpnfcmiaa", sum := "4022570952a1a59cff96aa80cfad140fad10921015594a54da6e1e7359045380", func := "lockwright/lockwrighttop.TopTurned", spec := "topTurned", unfollowed := true, recurses := true, apart := false, narrowed := true }
def TopTurnedUptoSaid : Prop := topTurnedUptoRow.holds Try.pinned (OpenSpec.upto topTurnedSpec)

/-- 'lockwrightlaw.HashFinds', WHERE WHAT IT READS IS OF BULK AT MOST 1048576: true; the input reads as it did. -/
def hashFindsUptoRow : OpenClaim := { program := "ytdibbdlpnfcmiaa", sum := "4022570952a1a59cff96aa80cfad140fad10921015594a54da6e1e7359045380", func := "lockwright/lockwrightlaw.HashFinds", spec := "hashFinds", apart := false, narrowed := true }
def HashFindsUptoSaid : Prop := hashFindsUptoRow.holds Try.pinned (OpenSpec.upto hashFindsSpec)

/-- 'lockwrightlaw.CellLays', WHERE WHAT IT READS IS OF BULK AT MOST 1048576: true; the input reads as it did. -/
def cellLaysUptoRow : OpenClaim := { program := "ytdibbdlpnfcmiaa", sum := "4022570952a1a59cff96aa80cfad140fad10921015594a54da6e1e7359045380", func := "lockwright/lockwrightlaw.CellLays", spec := "cellLays", apart := false, narrowed := true }
def CellLaysUptoSaid : Prop := cellLaysUptoRow.holds Try.pinned (OpenSpec.upto cellLaysSpec)

/-- 'lockwrightlaw.RatchetPlays', WHERE WHAT IT READS IS OF BULK AT MOST 1048576: true; the input reads as it did. -/
def ratchetPlaysUptoRow : OpenClaim := { program := "ytdibbdlpnfcmiaa", sum := "4022570952a1a59cff96aa80cfad140fad10921015594a54da6e1e7359045380", func := "lockwright/lockwrightlaw.RatchetPlays", spec := "ratchetPlays", apart := false, narrowed := true }
def RatchetPlaysUptoSaid : Prop := ratchetPlaysUptoRow.holds Try.pinned (OpenSpec.upto ratchetPlaysSpec)

/-- 'lockwrightlaw.CellReads', WHERE WHAT IT READS IS OF BULK AT MOST 1048576: true; the input reads as it did. -/
def cellReadsUptoRow : OpenClaim := { program := "ytdibbdlpnfcmiaa", sum := "4022570952a1a59cff96aa80cfad140fad10921015594a54da6e1e7359045380", func := "lockwright/lockwrightlaw.CellReads", spec := "cellReads", unfollowed := true, recurses := true, apart := false, narrowed := true }
def CellReadsUptoSaid : Prop := cellReadsUptoRow.holds Try.pinned (OpenSpec.upto cellReadsSpec)

/-- 'lockwrightlaw.RelayPlays', WHERE WHAT IT READS IS OF BULK AT MOST 1048576: true; the input reads as it did. -/
def relayPlaysUptoRow : OpenClaim := { program := "ytdibbdlpnfcmiaa", sum := "4022570952a1a59cff96aa80cfad140fad10921015594a54da6e1e7359045380", func := "lockwright/lockwrightlaw.RelayPlays", spec := "relayPlays", unfollowed := true, recurses := true, apart := false, narrowed := true }
def RelayPlaysUptoSaid : Prop := relayPlaysUptoRow.holds Try.pinned (OpenSpec.upto relayPlaysSpec)

end Rows
end Go.Proofs.Ytdibbdlpnfcmiaa
