/- walsh.Immune and the reference's Immune: the walks. -/
import Derived.Test.YteeicpfjmahmeaaDoorWai
namespace Lw
open Go Go.RowKit
theorem some_bd (n : Nat) (f : Int) (s v : Nat) : ∀ m : Nat, 0 ≤ sumT m (fun x => if x &&& s = v then bitF f x else 0) ∧ sumT m (fun x => if x &&& s = v then bitF f x else 0) ≤ m
  | 0 => ⟨Int.le_refl _, Int.le_refl _⟩
  | m + 1 => by
    have h1 := some_bd n f s v m
    have h2 := bitF_bd f m
    show 0 ≤ sumT m (fun x => if x &&& s = v then bitF f x else 0) + (if m &&& s = v then bitF f m else 0) ∧ sumT m (fun x => if x &&& s = v then bitF f x else 0) + (if m &&& s = v then bitF f m else 0) ≤ _
    split <;> omega
theorem all_bd (f : Int) : ∀ m : Nat, 0 ≤ sumT m (bitF f) ∧ sumT m (bitF f) ≤ m
  | 0 => ⟨Int.le_refl _, Int.le_refl _⟩
  | m + 1 => by
    have h1 := all_bd f m
    have h2 := bitF_bd f m
    show 0 ≤ sumT m (bitF f) + bitF f m ∧ sumT m (bitF f) + bitF f m ≤ _
    omega
/-- what Immune returns -/
def ImR (Q : Prop) (w : World) (e : Ending) (w' : World) : Prop := (∃ r : Bool, e = .returned (.tuple #[.bool r, .int .i64 0]) ∧ (r = true ↔ Q)) ∧ Below w.heap.size w w'
def ImB (Q : Prop) (w : World) (e : Ending) (w' : World) : Prop := (∃ r : Bool, e = .returned (.bool r) ∧ (r = true ↔ Q)) ∧ w = w'
end Lw
set_option linter.unusedVariables false
set_option linter.unusedSimpArgs false
namespace Go.Proofs.YteeicpfjmahmeaaDoor
open Go.RowKit
theorem bits_OnesCount64 (x : Nat) (hx : x < 32) (w : World) : Calls Tryd.prog 17 #[.int .u64 (x : Int)] w fun e w' => e = .returned (.int .i64 ((Lw.onesF 6 x : Nat) : Int)) ∧ w = w' := by
  go_enter Tryd.func17, Tryd.ntmps17
  go_wp2
  go_ret
  refine ⟨?_, rfl⟩
  simp only [Array.getD, List.size_toArray, List.length_cons, List.length_nil]
  show Ending.returned (Value.int IntKind.i64 _) = _
  congr 2
  rw [← IntWalk.i64_left]
  clear w
  revert hx
  revert x
  decide
theorem bits_OnesCount (x : Nat) (hx : x < 32) (w : World) : Calls Tryd.prog 9 #[.int .u64 (x : Int)] w fun e w' => e = .returned (.int .i64 ((Lw.onesF 6 x : Nat) : Int)) ∧ w = w' := by
  have X := Lib.hid (fun W => bits_OnesCount64 x hx W)
  go_enter Tryd.func9, Tryd.ntmps9
  go_wp2_with (go_at_call 17; (with_reducible refine (X.out _).mono ?_); rintro e w' ⟨rfl, rfl⟩)
  go_ret
  exact ⟨rfl, rfl⟩
end Go.Proofs.YteeicpfjmahmeaaDoor
