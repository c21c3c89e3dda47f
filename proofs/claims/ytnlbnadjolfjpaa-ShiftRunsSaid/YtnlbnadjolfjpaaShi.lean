/- math/bits.OnesCount64 (its parity), shift.odd. -/
import Derived.Test.YtnlbnadjolfjpaaSwr
namespace Lw
open Go Go.RowKit
theorem wrap_u64 (n : Int) : IntKind.u64.wrap n = n % 18446744073709551616 := by simp [IntKind.wrap, IntKind.bits, IntKind.signed]
theorem swI1 (x : Nat) (hx : x < 18446744073709551616) : IntKind.u64.wrap (bits .and .u64 ((x : Int) / 2) 6148914691236517205 + bits .and .u64 (x : Int) 6148914691236517205) = (sw1 x : Nat) ∧ sw1 x < 18446744073709551616 := by
  have a : x / 2 &&& 6148914691236517205 ≤ 6148914691236517205 := Nat.and_le_right
  have b : x &&& 6148914691236517205 ≤ 6148914691236517205 := Nat.and_le_right
  have e1 := u64_and_nat (x / 2) 6148914691236517205 (by omega) (by omega)
  have e2 := u64_and_nat x 6148914691236517205 hx (by omega)
  rw [show ((x : Int) / 2) = ((x / 2 : Nat) : Int) from by omega]
  simp only [Int.cast_ofNat_Int] at e1 e2
  rw [e1, e2, wrap_u64]
  unfold sw1
  omega
theorem swI2 (x : Nat) (hx : x < 18446744073709551616) : IntKind.u64.wrap (bits .and .u64 ((x : Int) / 4) 3689348814741910323 + bits .and .u64 (x : Int) 3689348814741910323) = (sw2 x : Nat) ∧ sw2 x ≤ 7378697629483820646 := by
  have a : x / 4 &&& 3689348814741910323 ≤ 3689348814741910323 := Nat.and_le_right
  have b : x &&& 3689348814741910323 ≤ 3689348814741910323 := Nat.and_le_right
  have e1 := u64_and_nat (x / 4) 3689348814741910323 (by omega) (by omega)
  have e2 := u64_and_nat x 3689348814741910323 hx (by omega)
  rw [show ((x : Int) / 4) = ((x / 4 : Nat) : Int) from by omega]
  simp only [Int.cast_ofNat_Int] at e1 e2
  rw [e1, e2, wrap_u64]
  unfold sw2
  omega
theorem swI3 (x : Nat) (hx : x ≤ 7378697629483820646) : bits .and .u64 (IntKind.u64.wrap ((x : Int) / 16 + (x : Int))) 1085102592571150095 = (nib x : Nat) ∧ nib x < 18446744073709551616 := by
  have e1 := u64_and_nat (x / 16 + x) 1085102592571150095 (by omega) (by omega)
  have a : x / 16 + x &&& 1085102592571150095 ≤ 1085102592571150095 := Nat.and_le_right
  simp only [Int.cast_ofNat_Int] at e1
  rw [wrap_u64, show ((x : Int) / 16 + (x : Int)) % 18446744073709551616 = ((x / 16 + x : Nat) : Int) from by omega, e1]
  unfold nib
  exact ⟨rfl, by omega⟩
theorem swI4 (d x : Nat) : IntKind.u64.wrap ((x : Int) + (x : Int) / (d : Int)) = (((x + x / d) % 18446744073709551616 : Nat) : Int) := by
  rw [wrap_u64]; omega
theorem swI5 (v : Nat) (hv : v < 18446744073709551616) : bits .and .i64 (wrap64 (v : Int)) 127 = ((v % 128 : Nat) : Int) := by
  show IntKind.i64.wrap ((BitVec.ofInt 64 (wrap64 (v : Int)) &&& BitVec.ofInt 64 127).toNat : Int) = _
  have e : (BitVec.ofInt 64 (wrap64 (v : Int))).toNat = v := by
    rw [BitVec.toNat_ofInt]
    unfold wrap64
    omega
  rw [BitVec.toNat_and, e, show (BitVec.ofInt 64 127).toNat = 127 from rfl, show v &&& 127 = v % 128 from Nat.and_two_pow_sub_one_eq_mod v 7]
  have := Nat.mod_lt v (show 0 < 128 by omega)
  rw [IntWalk.i64_left]
  unfold wrap64
  omega
end Lw
set_option linter.unusedVariables false
set_option linter.unusedSimpArgs false
namespace Go.Proofs.Ytnlbnadjolfjpaa
open Go.RowKit
set_option maxRecDepth 100000 in
theorem bits_OnesCount64 (x : Nat) (hx : x < 18446744073709551616) (w : World) : Calls Try.prog 56 #[.int .u64 (x : Int)] w fun e w' => (∃ c : Int, e = .returned (.int .i64 c) ∧ 0 ≤ c ∧ c ≤ 64 ∧ decide (c % 2 = 1) = Lw.oddN x) ∧ w = w' := by
  go_enter Try.func56, Try.ntmps56
  go_wp2
  go_ret
  refine ⟨?_, rfl⟩
  obtain ⟨e1, b1⟩ := Lw.swI1 x hx
  rw [e1]
  obtain ⟨e2, b2⟩ := Lw.swI2 _ b1
  rw [e2]
  obtain ⟨e3, b3⟩ := Lw.swI3 _ b2
  rw [e3]
  generalize hy : Lw.nib (Lw.sw2 (Lw.sw1 x)) = y at *
  have e4 := Lw.swI4 256 y
  simp only [Int.cast_ofNat_Int] at e4
  rw [e4]
  generalize hz : (y + y / 256) % 18446744073709551616 = z at *
  have e5 := Lw.swI4 65536 z
  simp only [Int.cast_ofNat_Int] at e5
  rw [e5]
  generalize hu : (z + z / 65536) % 18446744073709551616 = u at *
  have e6 := Lw.swI4 4294967296 u
  simp only [Int.cast_ofNat_Int] at e6
  rw [e6]
  generalize hv : (u + u / 4294967296) % 18446744073709551616 = v at *
  obtain ⟨c1, c2⟩ := Lw.swar_odd x y z u v hx hy.symm hz.symm hu.symm hv.symm
  simp only [Array.getD, List.size_toArray, List.length_cons, List.length_nil]
  refine ⟨((v % 128 : Nat) : Int), ?_, by omega, by omega, ?_⟩
  · show Ending.returned (Value.int IntKind.i64 (bits BinOp.and IntKind.i64 (wrap64 (v : Int)) 127)) = _
    rw [Lw.swI5 v (by omega)]
  · rw [← c2]; congr 1; apply propext; omega
theorem shift_odd (x : Nat) (hx : x < 18446744073709551616) (w : World) : Calls Try.prog 33 #[.int .u64 (x : Int)] w fun e w' => e = .returned (.bool (Lw.oddN x)) ∧ w = w' := by
  have X := Lib.hid (fun W => bits_OnesCount64 x hx W)
  go_enter Try.func33, Try.ntmps33
  go_wp2_with (go_at_call 56; (with_reducible refine (X.out _).mono ?_); rintro e w' ⟨⟨c, rfl, c0, c1, c2⟩, rfl⟩)
  go_ret
  refine ⟨?_, rfl⟩
  show Ending.returned (Value.bool (c % 2 == 1)) = _
  rw [← c2]; rfl
end Go.Proofs.Ytnlbnadjolfjpaa
