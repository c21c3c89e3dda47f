/- Plain lemmas on the bits of natural numbers. No program is in sight. -/
import Derived.WalkKit
import Derived.Laws.BitsAllLaws
set_option linter.unusedVariables false
set_option linter.unusedSimpArgs false
namespace Lw

theorem add_eq_xor (a : Nat) : ∀ b : Nat, a + b = (a ^^^ b) + 2 * (a &&& b) := by
  induction a using Nat.strongRecOn with
  | ind a ih =>
    intro b
    by_cases h : a = 0
    · subst h; simp
    · have h1 := ih (a / 2) (by omega) (b / 2)
      have h2 : (a ^^^ b) / 2 = a / 2 ^^^ b / 2 := Nat.xor_div_two
      have h3 : (a &&& b) / 2 = a / 2 &&& b / 2 := Nat.and_div_two
      have h4 : (a ^^^ b) % 2 = (a + b) % 2 := by
        have : (a ^^^ b) % 2 = (a % 2 ^^^ b % 2) := by
          have := @Nat.xor_mod_two_pow a b 1
          simpa using this
        rw [this, Nat.add_mod]
        rcases Nat.mod_two_eq_zero_or_one a with e | e <;> rcases Nat.mod_two_eq_zero_or_one b with f | f <;> rw [e, f] <;> rfl
      have h5 : (a &&& b) % 2 = a % 2 * (b % 2) := by
        have : (a &&& b) % 2 = (a % 2 &&& b % 2) := by
          have := @Nat.and_mod_two_pow a b 1
          simpa using this
        rw [this]
        rcases Nat.mod_two_eq_zero_or_one a with e | e <;> rcases Nat.mod_two_eq_zero_or_one b with f | f <;> rw [e, f] <;> rfl
      rw [← h2, ← h3] at h1
      rcases Nat.mod_two_eq_zero_or_one a with e | e <;> rcases Nat.mod_two_eq_zero_or_one b with f | f <;> rw [e, f] at h5 <;> simp only [Nat.zero_mul, Nat.mul_zero, Nat.mul_one] at h5 <;> omega

theorem and_le_left' (a b : Nat) : (a &&& b) ≤ a := Nat.and_le_left

theorem xor_eq_sub (a b : Nat) : (a ^^^ b : Nat) = a + b - 2 * (a &&& b) := by
  have := add_eq_xor a b; omega

theorem xor_lt_of (a b n : Nat) (ha : a < 2 ^ n) (hb : b < 2 ^ n) : a ^^^ b < 2 ^ n := Nat.xor_lt_two_pow ha hb

theorem i64_and_nat (a b : Nat) (ha : a < 9223372036854775808) (hb : b < 9223372036854775808) : Go.bits .and .i64 (a : Int) (b : Int) = ((a &&& b : Nat) : Int) := by
  have e : a &&& b ≤ a := Nat.and_le_left
  show Go.IntKind.i64.wrap ((BitVec.ofInt 64 (a : Int) &&& BitVec.ofInt 64 (b : Int)).toNat : Int) = _
  rw [BitVec.toNat_and, Go.ofInt_u64 a (by omega), Go.ofInt_u64 b (by omega), Go.IntKind.wrap_i64]
  omega
theorem i64_or_nat (a b : Nat) (ha : a < 9223372036854775808) (hb : b < 9223372036854775808) : Go.bits .or .i64 (a : Int) (b : Int) = ((a ||| b : Nat) : Int) := by
  have e : a ||| b < 2 ^ 63 := Nat.or_lt_two_pow (by omega) (by omega)
  show Go.IntKind.i64.wrap ((BitVec.ofInt 64 (a : Int) ||| BitVec.ofInt 64 (b : Int)).toNat : Int) = _
  rw [BitVec.toNat_or, Go.ofInt_u64 a (by omega), Go.ofInt_u64 b (by omega), Go.IntKind.wrap_i64]
  omega
theorem i64_xor_nat (a b : Nat) (ha : a < 9223372036854775808) (hb : b < 9223372036854775808) : Go.bits .xor .i64 (a : Int) (b : Int) = ((a ^^^ b : Nat) : Int) := by
  have e : a ^^^ b < 2 ^ 63 := Nat.xor_lt_two_pow (by omega) (by omega)
  show Go.IntKind.i64.wrap ((BitVec.ofInt 64 (a : Int) ^^^ BitVec.ofInt 64 (b : Int)).toNat : Int) = _
  rw [BitVec.toNat_xor, Go.ofInt_u64 a (by omega), Go.ofInt_u64 b (by omega), Go.IntKind.wrap_i64]
  omega
theorem and_one (k : Int) (h : 0 ≤ k) (h2 : k < 9223372036854775808) : Go.bits .and .i64 k 1 = k % 2 := by
  obtain ⟨n, rfl⟩ := Int.eq_ofNat_of_zero_le h
  have := i64_and_nat n 1 (by omega) (by omega)
  rw [Go.nat_mask1] at this
  simpa using this
end Lw
