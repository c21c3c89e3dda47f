/- Contracts of group.Member, group.Check, and of the reference's Member and GroupCheck. -/
import Derived.Test.YtkjcpjbdckbjcaaKTopRight1
import Derived.Test.YtkjcpjbdckbjcaaKTopRight4
namespace Lw
def memB (P Q x : Int) : Bool := decide (1 ≤ x ∧ x < P) && (pw x Q P == 1)
theorem memB_no {P Q x : Int} (h : ¬ (1 ≤ x ∧ x < P)) : memB P Q x = false := by unfold memB; simp only [h, decide_false, Bool.false_and]
theorem memB_in {P Q x : Int} (h : 1 ≤ x ∧ x < P) : memB P Q x = (pw x Q P == 1) := by unfold memB; simp only [h, and_self, decide_true, Bool.true_and]
def GRange (P Q G H : Int) : Prop := 3 ≤ P ∧ P ≤ 1048576 ∧ 2 ≤ Q ∧ Q < P ∧ 2 ≤ G ∧ G < P ∧ 2 ≤ H ∧ H < P
instance (P Q G H : Int) : Decidable (GRange P Q G H) := inferInstanceAs (Decidable (_ ∧ _))
def GArg (P Q G H : Int) : Prop := primeB P = true ∧ primeB Q = true ∧ (P - 1) % Q = 0 ∧ pw G Q P = 1 ∧ pw H Q P = 1
instance (P Q G H : Int) : Decidable (GArg P Q G H) := inferInstanceAs (Decidable (_ ∧ _))
/-- what is wrong with a group: 0, 2 or 3 -/
def groupE (P Q G H : Int) : Int := if GRange P Q G H then (if GArg P Q G H then 0 else 3) else 2
theorem groupE_two {P Q G H : Int} (h : ¬ GRange P Q G H) : 2 = groupE P Q G H := by unfold groupE; rw [if_neg h]
theorem groupE_three {P Q G H : Int} (h : GRange P Q G H) (h2 : ¬ GArg P Q G H) : 3 = groupE P Q G H := by unfold groupE; rw [if_pos h, if_neg h2]
theorem groupE_zero {P Q G H : Int} (h : GRange P Q G H) (h2 : GArg P Q G H) : 0 = groupE P Q G H := by unfold groupE; rw [if_pos h, if_pos h2]
end Lw
set_option linter.unusedVariables false
set_option linter.unusedSimpArgs false
namespace Go.Proofs.Ytkjcpjbdckbjcaa
open Go.RowKit
theorem group_Member (P Q G H x : Int) (w : World) (h1 : 3 ≤ P) (h2 : P ≤ 1048576) (h3 : 0 ≤ Q) (h4 : Q ≤ 1048576) :
    Calls Try.prog 28 #[.agg #[.int .i64 P, .int .i64 Q, .int .i64 G, .int .i64 H], .int .i64 x] w fun e w' => e = .returned (.bool (Lw.memB P Q x)) ∧ Below w.heap.size w w' := by
  by_cases h : 1 ≤ x ∧ x < P
  · have E := Lib.hid (Lw.memB_in (Q := Q) h)
    obtain ⟨h5, h6⟩ := h
    go_enter Try.func28, Try.ntmps28
    go_wp2_with (go_at_call 47; refine (power_Of _ _ _ _ (by omega) (by omega) (by omega) (by omega)).mono ?_; rintro e w' ⟨rfl, rfl⟩)
    go_ret
    rw [E.out]; exact ⟨rfl, by go_grown⟩
  · have E := Lib.hid (Lw.memB_no (Q := Q) h)
    have hc : x < 1 ∨ (1 ≤ x ∧ P ≤ x) := by omega
    clear h
    rcases hc with h | ⟨h, h'⟩
    all_goals
      go_enter Try.func28, Try.ntmps28
      go_wp2_with fail
      go_ret
      rw [E.out]; exact ⟨rfl, by go_grown⟩
def insB (P x : Int) : Bool := decide (2 ≤ x ∧ x < P)
theorem insB_true {P x : Int} (h : 2 ≤ x ∧ x < P) : insB P x = true := decide_eq_true h
theorem insB_false {P x : Int} (h : ¬ (2 ≤ x ∧ x < P)) : insB P x = false := decide_eq_false h
theorem group_inside (P x : Int) (b : Nat) (w : World) (hc : w.cell? ⟨b, 0, none⟩ = some (.int .i64 P)) :
    Calls Try.prog 26 #[.int .i64 x, .pointer (some ⟨b, 0, none⟩)] w fun e w' => e = .returned (.bool (insB P x)) ∧ w = w' := by
  by_cases h : 2 ≤ x
  · have E : Hid (insB P x = decide (x < P)) := by unfold insB; show _ = _; simp [h]
    go_enter Try.func26, Try.ntmps26
    go_wp2
    go_ret
    rw [E.out]; exact ⟨rfl, rfl⟩
  · have E := Lib.hid (insB_false (P := P) (x := x) (fun e => h e.1))
    go_enter Try.func26, Try.ntmps26
    go_wp2
    go_ret
    rw [E.out]; exact ⟨by simp, rfl⟩

set_option maxHeartbeats 2000000 in
theorem group_Check_bad (P Q G H : Int) (w : World) (h : ¬ Lw.GRange P Q G H) :
    Calls Try.prog 12 #[.agg #[.int .i64 P, .int .i64 Q, .int .i64 G, .int .i64 H]] w fun e w' => e = .returned (.int .i64 2) ∧ Below w.heap.size w w' := by
  have hc : P < 3 ∨ (3 ≤ P ∧ 1048576 < P) ∨ ((3 ≤ P ∧ P ≤ 1048576) ∧ (insB P Q = false ∨ (insB P Q = true ∧ insB P G = false) ∨ (insB P Q = true ∧ insB P G = true ∧ insB P H = false))) := by
    unfold Lw.GRange at h; unfold insB; simp only [decide_eq_true_eq, decide_eq_false_iff_not]; omega
  clear h
  have hcl : (w.alloc (.cells #[.int .i64 P, .int .i64 Q, .int .i64 G, .int .i64 H] 23)).cell? ⟨w.heap.size, 0, none⟩ = some (.int .i64 P) := Lw.blk_cell (Lw.blk_new _ _ _) 0
  rcases hc with h | ⟨h, h'⟩ | ⟨⟨h1, h2⟩, h | ⟨h, h'⟩ | ⟨h, h', h''⟩⟩
  all_goals
    go_enter Try.func12, Try.ntmps12
    go_wp2_with (go_at_call 26; refine (group_inside _ _ _ _ hcl).mono ?_; rintro e w' ⟨rfl, rfl⟩)
    go_ret
    exact ⟨rfl, by go_grown⟩

set_option maxHeartbeats 4000000 in
theorem group_Check_in (P Q G H : Int) (w : World) (h : Lw.GRange P Q G H) :
    Calls Try.prog 12 #[.agg #[.int .i64 P, .int .i64 Q, .int .i64 G, .int .i64 H]] w fun e w' => e = .returned (.int .i64 (Lw.groupE P Q G H)) ∧ Below w.heap.size w w' := by
  have E3 := Lib.hid (Lw.groupE_three h)
  have E0 := Lib.hid (Lw.groupE_zero h)
  obtain ⟨h1, h2, h3, h4, h5, h6, h7, h8⟩ := h
  have i1 := insB_true ⟨h3, h4⟩
  have i2 := insB_true ⟨h5, h6⟩
  have i3 := insB_true ⟨h7, h8⟩
  have hc : (Lw.primeB P = false ∧ Hid (¬ Lw.GArg P Q G H)) ∨ (Lw.primeB P = true ∧ Lw.primeB Q = false ∧ Hid (¬ Lw.GArg P Q G H)) ∨ (Lw.primeB P = true ∧ Lw.primeB Q = true ∧ ((P - 1) % Q != 0) = true ∧ Hid (¬ Lw.GArg P Q G H)) ∨ (Lw.primeB P = true ∧ Lw.primeB Q = true ∧ ((P - 1) % Q != 0) = false ∧ Lw.memB P Q G = false ∧ Hid (¬ Lw.GArg P Q G H)) ∨ (Lw.primeB P = true ∧ Lw.primeB Q = true ∧ ((P - 1) % Q != 0) = false ∧ Lw.memB P Q G = true ∧ Lw.memB P Q H = false ∧ Hid (¬ Lw.GArg P Q G H)) ∨ (Lw.primeB P = true ∧ Lw.primeB Q = true ∧ ((P - 1) % Q != 0) = false ∧ Lw.memB P Q G = true ∧ Lw.memB P Q H = true ∧ Hid (Lw.GArg P Q G H)) := by
    rw [Lw.memB_in ⟨by omega, h6⟩, Lw.memB_in ⟨by omega, h8⟩]
    unfold Lw.GArg Hid
    cases a : Lw.primeB P <;> cases b : Lw.primeB Q <;> simp <;> by_cases c : (P - 1) % Q = 0 <;> by_cases d : Lw.pw G Q P = 1 <;> by_cases e : Lw.pw H Q P = 1 <;> simp [c, d, e]
  have hcl : (w.alloc (.cells #[.int .i64 P, .int .i64 Q, .int .i64 G, .int .i64 H] 23)).cell? ⟨w.heap.size, 0, none⟩ = some (.int .i64 P) := Lw.blk_cell (Lw.blk_new _ _ _) 0
  rcases hc with ⟨a, N⟩ | ⟨a, b, N⟩ | ⟨a, b, c, N⟩ | ⟨a, b, c, d, N⟩ | ⟨a, b, c, d, e, N⟩ | ⟨a, b, c, d, e, N⟩
  all_goals
    go_enter Try.func12, Try.ntmps12
    go_wp2_with (first | (go_at_call 26; refine (group_inside _ _ _ _ hcl).mono ?_; rintro e w' ⟨rfl, rfl⟩) | (go_at_call 27; refine (primes_Is _ _ (by omega) (by omega)).mono ?_; rintro e w1 ⟨rfl, hb1⟩; obtain ⟨hc1, hf1⟩ := Lw.bcell hb1; have hz1_1 : w.heap.size < w1.heap.size := by have := hb1.size; (try simp at this); omega) | (go_at_call 28; refine (group_Member _ _ _ _ _ _ (by omega) (by omega) (by omega) (by omega)).mono ?_; rintro e w3 ⟨rfl, hb3⟩; obtain ⟨hc3, hf3⟩ := Lw.bcell hb3; have hz3_1 : w.heap.size < w3.heap.size := by have := hb3.size; (try simp at this); omega))
    go_ret
    refine ⟨Lw.ret_int ?_, ?_⟩
    · first | exact E3.out N.out | exact E0.out N.out
    · repeat (refine Lw.bt ?_ (by assumption))
      go_grown
end Go.Proofs.Ytkjcpjbdckbjcaa
