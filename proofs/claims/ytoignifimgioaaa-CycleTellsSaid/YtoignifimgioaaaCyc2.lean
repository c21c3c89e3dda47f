/- The numbers that x*x + c makes, by n: when they come round. -/
import Derived.Test.YtoignifimgioaaaCyc
namespace Lw
def nxI (c n x : Int) : Int := (x * x % n + c) % n
def itI (c n x : Int) : Nat → Int
  | 0 => x
  | k + 1 => nxI c n (itI c n x k)
theorem nxI_bd {n : Int} (hn : 0 < n) (c x : Int) : 0 ≤ nxI c n x ∧ nxI c n x < n := ⟨Int.emod_nonneg _ (by omega), Int.emod_lt_of_pos _ hn⟩
theorem itI_bd {c n x : Int} (hn : 0 < n) (x0 : 0 ≤ x) (x1 : x < n) : ∀ k, 0 ≤ itI c n x k ∧ itI c n x k < n
  | 0 => ⟨x0, x1⟩
  | k + 1 => nxI_bd hn _ _
theorem itI_add (c n x : Int) (a : Nat) : ∀ b, itI c n x (a + b) = itI c n (itI c n x a) b
  | 0 => rfl
  | b + 1 => by show nxI c n (itI c n x (a + b)) = _; rw [itI_add c n x a b]; rfl
/-- the same numbers, as naturals -/
def seqN (c n x : Int) (k : Nat) : Nat := (itI c n x k).toNat
theorem seqN_eq {c n x : Int} (hn : 0 < n) (x0 : 0 ≤ x) (x1 : x < n) {a b : Nat} : seqN c n x a = seqN c n x b ↔ itI c n x a = itI c n x b := by
  have h1 := itI_bd (c := c) hn x0 x1 a
  have h2 := itI_bd (c := c) hn x0 x1 b
  unfold seqN; omega
theorem seqN_det {c n x : Int} (hn : 0 < n) (x0 : 0 ≤ x) (x1 : x < n) : ∀ a b, seqN c n x a = seqN c n x b → seqN c n x (a + 1) = seqN c n x (b + 1) := by
  intro a b h
  rw [seqN_eq hn x0 x1] at h ⊢
  show nxI c n (itI c n x a) = nxI c n (itI c n x b)
  rw [h]
theorem seq_first {c n x : Int} (hn : 0 < n) (x0 : 0 ≤ x) (x1 : x < n) : ∃ i j : Nat, (j : Int) ≤ n ∧ FirstRep (seqN c n x) i j := by
  obtain ⟨i, j, h1, h2⟩ := ex_first (seqN c n x) n.toNat (fun k => by have := itI_bd (c := c) hn x0 x1 k; unfold seqN; omega)
  exact ⟨i, j, by omega, h2⟩
/-- Floyd: the two meet within n steps -/
theorem seq_meet {c n x : Int} (hn : 0 < n) (x0 : 0 ≤ x) (x1 : x < n) : ∃ t : Nat, 1 ≤ t ∧ (t : Int) ≤ n ∧ itI c n x t = itI c n x (2 * t) := by
  obtain ⟨i, j, h1, h2⟩ := seq_first (c := c) hn x0 x1
  obtain ⟨t, t1, t2, t3⟩ := floyd_meet (seqN_det (c := c) hn x0 x1) h2
  exact ⟨t, t1, by omega, (seqN_eq hn x0 x1).1 t3⟩
theorem itI_two (c n x : Int) (t : Nat) : itI c n x (2 * (t + 1)) = nxI c n (nxI c n (itI c n x (2 * t))) := rfl
end Lw
