/- Tables: is a row bad? The least and the greatest of a row. -/
import Derived.Test.YtlgegdmnbhoepaaTab
namespace Lw
open Go Go.RowKit
def Big (m n : Nat) : Prop := m < n
def Odd (m n : Nat) : Prop := n ≠ m
instance (m n : Nat) : Decidable (Big m n) := inferInstanceAs (Decidable (m < n))
instance (m n : Nat) : Decidable (Odd m n) := inferInstanceAs (Decidable (n ≠ m))
theorem Big.t {m n : Nat} (h : Big m n) : (m : Int) < (n : Int) := by unfold Big at h; omega
theorem Big.f {m n : Nat} (h : ¬ Big m n) : ¬ (m : Int) < (n : Int) := by unfold Big at h; omega
theorem Odd.t {m n : Nat} (h : Odd m n) : ((n : Int) == (m : Int)) = false := by unfold Odd at h; simp; omega
theorem Odd.f {m n : Nat} (h : ¬ Odd m n) : ((n : Int) == (m : Int)) = true := by unfold Odd at h; simp; omega
theorem big16t {n : Nat} (h : Big 16 n) : (16 : Int) < (n : Int) := h.t
theorem big16f {n : Nat} (h : ¬ Big 16 n) : ¬ (16 : Int) < (n : Int) := Big.f h
theorem odd16t {n : Nat} (h : Odd 16 n) : ((n : Int) == (16 : Int)) = false := h.t
theorem odd16f {n : Nat} (h : ¬ Odd 16 n) : ((n : Int) == (16 : Int)) = true := Odd.f h
/-- what IndexFunc returns -/
def IdxT (b : Bool) (w : World) (e : Ending) (w' : World) : Prop := ∃ r : Int, e = .returned (.int .i64 r) ∧ w = w' ∧ ((b = false ∧ r = -1) ∨ (b = true ∧ 0 ≤ r))
theorem IdxT.ge {b : Bool} {r : Int} (h : (b = false ∧ r = -1) ∨ (b = true ∧ 0 ≤ r)) : decide (0 ≤ r) = b := by rcases h with ⟨rfl, rfl⟩ | ⟨rfl, h⟩ <;> simp_all
/-- what Min and Max return -/
def MinP (zs : List Int) (w : World) (e : Ending) (w' : World) : Prop := ∃ m : Int, e = .returned (.int .i64 m) ∧ w = w' ∧ m ∈ zs ∧ ∀ z ∈ zs, m ≤ z
def MaxP (zs : List Int) (w : World) (e : Ending) (w' : World) : Prop := ∃ m : Int, e = .returned (.int .i64 m) ∧ w = w' ∧ m ∈ zs ∧ ∀ z ∈ zs, z ≤ m
/-- a row with a number out of bounds -/
def outR (m : Int) (zs : List Int) : Bool := zs.any (fun x => decide (x < 0) || decide (m ≤ x))
theorem outR_min {zs : List Int} {m a : Int} (h : a ∈ zs) (h0 : a < 0) : outR m zs = true := List.any_eq_true.2 ⟨a, h, by simp [h0]⟩
theorem outR_max {zs : List Int} {m a : Int} (h : a ∈ zs) (h0 : m ≤ a) : outR m zs = true := List.any_eq_true.2 ⟨a, h, by simp [h0]⟩
theorem outR_no {zs : List Int} {m a b : Int} (h : ∀ z ∈ zs, a ≤ z) (h0 : ¬ a < 0) (h' : ∀ z ∈ zs, z ≤ b) (h1 : ¬ m ≤ b) : outR m zs = false := by
  rw [Bool.eq_false_iff]; intro e
  obtain ⟨z, hz, e⟩ := List.any_eq_true.1 e
  have := h z hz; have := h' z hz
  simp at e; omega
theorem mem_take_succ {zs : List Int} {k : Nat} (h : k < zs.length) {z : Int} : z ∈ zs.take (k + 1) ↔ z ∈ zs.take k ∨ z = zs[k] := by
  rw [List.take_succ_eq_append_getElem h, List.mem_append, List.mem_singleton]
end Lw
set_option linter.unusedVariables false
set_option linter.unusedSimpArgs false
namespace Go.Proofs.Ytlgegdmnbhoepaa
open Go.RowKit
end Go.Proofs.Ytlgegdmnbhoepaa
