/- Contracts of (*asked).shared, shake.Answer, the reference's Shake. -/
import Derived.Test.YtfidmmgcmfnleaaShk
set_option linter.unusedVariables false
set_option linter.unusedSimpArgs false
namespace Go.Proofs.Ytfidmmgcmfnleaa
open Go.RowKit
theorem shake_shared_skip (P Q G H k x E : Int) (b : Nat) (w : World) (hb : w.heap[b]? = some (.cells #[.int .i64 P, .int .i64 Q, .int .i64 G, .int .i64 H, .int .i64 E] 67 (0, 0))) (hn : (E != 0) = true) :
    Calls Try.prog 36 #[.pointer (some ⟨b, 0, none⟩), .int .i64 k, .int .i64 x] w fun e w' => e = .returned (.int .i64 0) ∧ w = w' := by
  have c4 := Lw.blk_cell hb 4
  simp at c4
  clear hb
  go_enter Try.func36, Try.ntmps36
  go_wp2
  go_ret
  exact ⟨rfl, rfl⟩
theorem shake_shared_ok (P Q G H k x : Int) (b : Nat) (w : World) (hb : w.heap[b]? = some (.cells #[.int .i64 P, .int .i64 Q, .int .i64 G, .int .i64 H, .int .i64 0] 67 (0, 0))) (hE : Lw.askE P Q G H [k] [x] = 0) :
    Calls Try.prog 36 #[.pointer (some ⟨b, 0, none⟩), .int .i64 k, .int .i64 x] w fun e w' => e = .returned (.int .i64 (Lw.pw x k P)) ∧ Below w.heap.size w w' := by
  have c0 := Lw.blk_cell hb 0; have c1 := Lw.blk_cell hb 1; have c2 := Lw.blk_cell hb 2; have c3 := Lw.blk_cell hb 3; have c4 := Lw.blk_cell hb 4; have fr := fun i => Lw.blk_free hb i
  simp at c0 c1 c2 c3 c4
  have hlt := Lw.blk_lt hb
  have HB := Lib.hid hb
  have HE := Lib.hid hE
  clear hb hE
  go_enter Try.func36, Try.ntmps36
  go_wp2_with (go_at_call 49; (with_reducible refine (group_Shared_ok P Q G H k x _ HE.out).mono ?_); rintro e w1 ⟨rfl, hb1⟩; obtain ⟨hc1, hf1⟩ := Lw.bcell hb1)
  go_ret
  rw [Lw.set_same ((hb1.block b hlt).trans HB.out) rfl]
  exact ⟨rfl, hb1⟩
theorem shake_shared_bad (P Q G H k x E : Int) (b : Nat) (w : World) (hb : w.heap[b]? = some (.cells #[.int .i64 P, .int .i64 Q, .int .i64 G, .int .i64 H, .int .i64 0] 67 (0, 0))) (hE : Lw.askE P Q G H [k] [x] = E) (hn : (E != 0) = true) :
    Calls Try.prog 36 #[.pointer (some ⟨b, 0, none⟩), .int .i64 k, .int .i64 x] w fun e w' => e = .returned (.int .i64 0) ∧ w'.heap[b]? = some (.cells #[.int .i64 P, .int .i64 Q, .int .i64 G, .int .i64 H, .int .i64 E] 67 (0, 0)) ∧ Below b w w' := by
  have c0 := Lw.blk_cell hb 0; have c1 := Lw.blk_cell hb 1; have c2 := Lw.blk_cell hb 2; have c3 := Lw.blk_cell hb 3; have c4 := Lw.blk_cell hb 4; have fr := fun i => Lw.blk_free hb i
  simp at c0 c1 c2 c3 c4
  have hlt := Lw.blk_lt hb
  have HB := Lib.hid hb
  have HE := Lib.hid hE
  clear hb hE
  go_enter Try.func36, Try.ntmps36
  go_wp2_with (go_at_call 49; (with_reducible refine (group_Shared_bad P Q G H k x E _ HE.out hn).mono ?_); rintro e w1 ⟨rfl, hb1⟩; obtain ⟨hc1, hf1⟩ := Lw.bcell hb1)
  go_ret
  refine ⟨rfl, ?_, (hb1.mono (Nat.le_of_lt hlt) : Below b w w1).setCell (p := ⟨b, 4, none⟩) (Nat.le_refl _) _⟩
  have h1 := (hb1.block b hlt).trans HB.out
  simp [World.setCell, Array.getElem?_modify, h1]
end Go.Proofs.Ytfidmmgcmfnleaa
