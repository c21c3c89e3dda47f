/- The steps of the hash function: what 'hash.Step' and the reference's 'Step' return. -/
import Derived.Test.YtlgegdmnbhoepaaWk
import Derived.Test.YtlgegdmnbhoepaaBit
namespace Lw
def hstepN (h b : Nat) : Nat := ((h ^^^ b) * 40503 % 65536) ^^^ ((h ^^^ b) * 40503 % 65536 / 128)
def hstep (h b : Int) : Int := (hstepN h.toNat b.toNat : Nat)

theorem hstepN_lt (h b : Nat) : hstepN h b < 65536 := by
  unfold hstepN
  exact Nat.xor_lt_two_pow (n := 16) (by omega) (by omega)
theorem hstep_bd (h b : Int) : 0 ≤ hstep h b ∧ hstep h b < 65536 := by
  unfold hstep; have := hstepN_lt h.toNat b.toNat; omega
def xorI (a b : Int) : Int := ((a.toNat ^^^ b.toNat : Nat) : Int)
theorem xorI_bd (a b : Int) (ha : a < 4294967296) (hb : b < 4294967296) : 0 ≤ xorI a b ∧ xorI a b < 4294967296 := by
  unfold xorI
  have : a.toNat ^^^ b.toNat < 2 ^ 32 := Nat.xor_lt_two_pow (by omega) (by omega)
  omega
theorem xorI_nat (a b : Nat) : xorI a b = ((a ^^^ b : Nat) : Int) := by unfold xorI; simp
theorem hstep_nat (a b : Nat) : hstep a b = ((hstepN a b : Nat) : Int) := by unfold hstep; simp

theorem step_eq (h b : Int) (h1 : 0 ≤ h) (h2 : h < 4294967296) (b1 : 0 ≤ b) (b2 : b < 256) :
    Go.bits .xor .u32 (Go.bits .and .u32 (Go.bits .xor .u32 h b * 40503 % 4294967296) 65535) (Go.bits .and .u32 (Go.bits .xor .u32 h b * 40503 % 4294967296) 65535 / 128) = hstep h b := by
  obtain ⟨n, rfl⟩ := Int.eq_ofNat_of_zero_le h1
  obtain ⟨m, rfl⟩ := Int.eq_ofNat_of_zero_le b1
  rw [Go.u32_xor_nat n m (by omega) (by omega)]
  have e1 : (((n ^^^ m : Nat) : Int) * 40503 % 4294967296) = (((n ^^^ m) * 40503 % 4294967296 : Nat) : Int) := by omega
  rw [e1, show (65535 : Int) = ((65535 : Nat) : Int) from rfl, Go.u32_and_nat _ 65535 (by omega) (by omega), Go.nat_mask16]
  have e2 : ((((n ^^^ m) * 40503 % 4294967296 % 65536 : Nat) : Int) / 128) = (((n ^^^ m) * 40503 % 4294967296 % 65536 / 128 : Nat) : Int) := by omega
  rw [e2, Go.u32_xor_nat _ _ (by omega) (by omega), hstep_nat]
  congr 1
  unfold hstepN
  have e3 : (n ^^^ m) * 40503 % 4294967296 % 65536 = (n ^^^ m) * 40503 % 65536 := by omega
  rw [e3]
theorem mixed_eq (a b : Int) (a1 : 0 ≤ a) (a2 : a < 4294967296) (b1 : 0 ≤ b) (b2 : b < 4294967296) :
    a + b - 2 * Go.bits .and .i64 a b = xorI a b := by
  obtain ⟨n, rfl⟩ := Int.eq_ofNat_of_zero_le a1
  obtain ⟨m, rfl⟩ := Int.eq_ofNat_of_zero_le b1
  rw [i64_and_nat n m (by omega) (by omega), xorI_nat]
  have := xor_eq_sub n m
  have := add_eq_xor n m
  omega
theorem andI_bd (a b : Int) (a1 : 0 ≤ a) (a2 : a < 4294967296) (b1 : 0 ≤ b) (b2 : b < 4294967296) :
    0 ≤ Go.bits .and .i64 a b ∧ Go.bits .and .i64 a b ≤ a := by
  obtain ⟨n, rfl⟩ := Int.eq_ofNat_of_zero_le a1
  obtain ⟨m, rfl⟩ := Int.eq_ofNat_of_zero_le b1
  rw [i64_and_nat n m (by omega) (by omega)]
  have : n &&& m ≤ n := Nat.and_le_left
  omega
theorem refstep_eq (h b : Int) (h1 : 0 ≤ h) (h2 : h < 4294967296) (b1 : 0 ≤ b) (b2 : b < 256) :
    xorI (xorI h b * 40503 % 65536) (xorI h b * 40503 % 65536 / 128) = hstep h b := by
  obtain ⟨n, rfl⟩ := Int.eq_ofNat_of_zero_le h1
  obtain ⟨m, rfl⟩ := Int.eq_ofNat_of_zero_le b1
  rw [hstep_nat, xorI_nat]
  have e1 : (((n ^^^ m : Nat) : Int) * 40503 % 65536) = (((n ^^^ m) * 40503 % 65536 : Nat) : Int) := by omega
  have e2 : (((n ^^^ m) * 40503 % 65536 : Nat) : Int) / 128 = (((n ^^^ m) * 40503 % 65536 / 128 : Nat) : Int) := by omega
  rw [e1, e2, xorI_nat]
  rfl
end Lw
namespace Go.Proofs.Ytlgegdmnbhoepaa
open Go.RowKit

theorem hash_step (h b : Int) (w : World) (h1 : 0 ≤ h) (h2 : h < 4294967296) (b1 : 0 ≤ b) (b2 : b < 256) :
    Calls Try.prog 201 #[.int .u32 h, .int .u8 b] w fun e w' => e = .returned (.int .u32 (Lw.hstep h b)) ∧ w = w' := by
  go_enter Try.func201, Try.ntmps201
  go_wp2
  go_ret
  rw [Lw.step_eq h b h1 h2 b1 b2]
  exact ⟨rfl, rfl⟩
theorem ref_mixed (a b : Int) (w : World) (a1 : 0 ≤ a) (a2 : a < 4294967296) (b1 : 0 ≤ b) (b2 : b < 4294967296) :
    Calls Try.prog 76 #[.int .i64 a, .int .i64 b] w fun e w' => e = .returned (.int .i64 (Lw.xorI a b)) ∧ w = w' := by
  have e := Lw.mixed_eq a b a1 a2 b1 b2
  obtain ⟨hn1, hn2⟩ := Lw.andI_bd a b a1 a2 b1 b2
  have E := Lib.hid e
  clear e
  go_enter Try.func76, Try.ntmps76
  go_wp2
  go_ret
  rw [E.out]
  exact ⟨rfl, rfl⟩
theorem ref_step (a b : Int) (w : World) (a1 : 0 ≤ a) (a2 : a < 4294967296) (b1 : 0 ≤ b) (b2 : b < 256) :
    Calls Try.prog 166 #[.int .i64 a, .int .i64 b] w fun e w' => e = .returned (.int .i64 (Lw.hstep a b)) ∧ w = w' := by
  have E := Lib.hid (Lw.refstep_eq a b a1 a2 b1 b2)
  obtain ⟨hx1, hx2⟩ := Lw.xorI_bd a b a2 (by omega)
  go_enter Try.func166, Try.ntmps166
  go_wp2_with fail
  refine (ref_mixed _ _ _ a1 a2 b1 (by omega)).mono ?_
  rintro e w' ⟨rfl, rfl⟩
  go_wp2_with fail
  refine (ref_mixed _ _ _ (by omega) (by omega) (by omega) (by omega)).mono ?_
  rintro e w' ⟨rfl, rfl⟩
  go_wp2_with fail
  go_ret
  rw [E.out]
  exact ⟨rfl, rfl⟩
end Go.Proofs.Ytlgegdmnbhoepaa
