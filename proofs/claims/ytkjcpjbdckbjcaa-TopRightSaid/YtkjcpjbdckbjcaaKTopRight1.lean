/-
  Plain lemmas on the bits of natural numbers. No program is in sight.
  Taking the operations of a region by hand, with a condition on the world.
  What the walks of this seat share: imports, and words on memory.
  The steps of the hash function: what 'hash.Step' and the reference's 'Step' return.
  Contracts of the small helpers of the statements: Far, both, modulus, first.
  Contracts: remainders and powers, of the program and of the reference.
  Contracts of package euclid: step, abs, far, Gcd, Inverse; and of the reference's Gcd.
  A range over a function whose iterator keeps its state in one block of cells of its own (a captured variable that it turns): the word of its contract, and the law for the loop.
  Slices: a slice that reads as a list of cells; a slice that a call has made; the appends.
  append onto a row of the call's own, the source any slice that reads as a list (nil let in): the operation and what it leaves.
  slices.Backward: the iterator over a slice from behind, for whatever loop body leaves the slice alone.
  Rows of bytes: numbers as bytes, texts put together, the sum of a text: the program's and the reference's.
  slices.Grow of nil and slices.Concat of two rows.
  Two texts in one; a text's sum: of the program and of the reference.
  Rows of bytes: are two the same; a copy of one.
  Regions that draw, walked by hand, with calls that make memory: the condition on the world is that all blocks of a world w0 stand.
  Package cell: names, sums, cells: what the program and the reference make.
  The reference's Cell.
-/
import Derived.WalkKit
import Derived.Laws.BitsAllLaws
import Derived.Deep.RegionHeld3
import Derived.Test.YtkjcpjbdckbjcaaChecked
import Derived.ProofKit
import Derived.OpenShut
import Derived.WalkSpells
import Derived.WalkLawsBesides
import Derived.Handy
import Derived.Below
import Derived.Lib.Hide
import Derived.Outline
import Derived.Deep.QuietTactic
import Derived.BigQuiet
import Derived.Test.YtkjcpjbdckbjcaaKTopRight0
import Derived.RangeFuncNested
import Derived.RangeFuncBound
import Derived.RangeFuncCalls
import Derived.RangeFuncLeaves
import Derived.Shelf.Abstract
import Derived.Shelf.RegionOpen
import Derived.OwnWalkIn
import Derived.TacticsInMore
import Derived.LoopNIn
import Derived.LoopIn
import Derived.OneCell
import Derived.Laws.OwnMore
import Derived.Maps.AppendAt
import Derived.Lib.AppendZeros
import Derived.BigFrame
import Derived.Laws.MakeOwn
import Derived.Lib.SliceRun
import Derived.Laws.CopyOwn
set_option linter.unusedVariables false
set_option linter.unusedSimpArgs false
namespace Lw

theorem add_eq_xor (a : Nat) : ∀ b : Nat, a + b = (a ^^^ b) + 2 * (a &&& b) := by
  induction a using Nat.strongRecOn with
  | ind a ih =>
    intro b
    by_cases h : a = 0
    · subst h; simp
    · have h1 := ih (a / 2) (by omega) (b / 2)
      have h2 : (a ^^^ b) / 2 = a / 2 ^^^ b / 2 := Nat.xor_div_two
      have h3 : (a &&& b) / 2 = a / 2 &&& b / 2 := Nat.and_div_two
      have h4 : (a ^^^ b) % 2 = (a + b) % 2 := by
        have : (a ^^^ b) % 2 = (a % 2 ^^^ b % 2) := by
          have := @Nat.xor_mod_two_pow a b 1
          simpa using this
        rw [this, Nat.add_mod]
        rcases Nat.mod_two_eq_zero_or_one a with e | e <;> rcases Nat.mod_two_eq_zero_or_one b with f | f <;> rw [e, f] <;> rfl
      have h5 : (a &&& b) % 2 = a % 2 * (b % 2) := by
        have : (a &&& b) % 2 = (a % 2 &&& b % 2) := by
          have := @Nat.and_mod_two_pow a b 1
          simpa using this
        rw [this]
        rcases Nat.mod_two_eq_zero_or_one a with e | e <;> rcases Nat.mod_two_eq_zero_or_one b with f | f <;> rw [e, f] <;> rfl
      rw [← h2, ← h3] at h1
      rcases Nat.mod_two_eq_zero_or_one a with e | e <;> rcases Nat.mod_two_eq_zero_or_one b with f | f <;> rw [e, f] at h5 <;> simp only [Nat.zero_mul, Nat.mul_zero, Nat.mul_one] at h5 <;> omega

theorem and_le_left' (a b : Nat) : (a &&& b) ≤ a := Nat.and_le_left

theorem xor_eq_sub (a b : Nat) : (a ^^^ b : Nat) = a + b - 2 * (a &&& b) := by
  have := add_eq_xor a b; omega

theorem xor_lt_of (a b n : Nat) (ha : a < 2 ^ n) (hb : b < 2 ^ n) : a ^^^ b < 2 ^ n := Nat.xor_lt_two_pow ha hb

theorem i64_and_nat (a b : Nat) (ha : a < 9223372036854775808) (hb : b < 9223372036854775808) : Go.bits .and .i64 (a : Int) (b : Int) = ((a &&& b : Nat) : Int) := by
  have e : a &&& b ≤ a := Nat.and_le_left
  show Go.IntKind.i64.wrap ((BitVec.ofInt 64 (a : Int) &&& BitVec.ofInt 64 (b : Int)).toNat : Int) = _
  rw [BitVec.toNat_and, Go.ofInt_u64 a (by omega), Go.ofInt_u64 b (by omega), Go.IntKind.wrap_i64]
  omega
theorem i64_or_nat (a b : Nat) (ha : a < 9223372036854775808) (hb : b < 9223372036854775808) : Go.bits .or .i64 (a : Int) (b : Int) = ((a ||| b : Nat) : Int) := by
  have e : a ||| b < 2 ^ 63 := Nat.or_lt_two_pow (by omega) (by omega)
  show Go.IntKind.i64.wrap ((BitVec.ofInt 64 (a : Int) ||| BitVec.ofInt 64 (b : Int)).toNat : Int) = _
  rw [BitVec.toNat_or, Go.ofInt_u64 a (by omega), Go.ofInt_u64 b (by omega), Go.IntKind.wrap_i64]
  omega
theorem i64_xor_nat (a b : Nat) (ha : a < 9223372036854775808) (hb : b < 9223372036854775808) : Go.bits .xor .i64 (a : Int) (b : Int) = ((a ^^^ b : Nat) : Int) := by
  have e : a ^^^ b < 2 ^ 63 := Nat.xor_lt_two_pow (by omega) (by omega)
  show Go.IntKind.i64.wrap ((BitVec.ofInt 64 (a : Int) ^^^ BitVec.ofInt 64 (b : Int)).toNat : Int) = _
  rw [BitVec.toNat_xor, Go.ofInt_u64 a (by omega), Go.ofInt_u64 b (by omega), Go.IntKind.wrap_i64]
  omega
theorem and_one (k : Int) (h : 0 ≤ k) (h2 : k < 9223372036854775808) : Go.bits .and .i64 k 1 = k % 2 := by
  obtain ⟨n, rfl⟩ := Int.eq_ofNat_of_zero_le h
  have := i64_and_nat n 1 (by omega) (by omega)
  rw [Go.nat_mask1] at this
  simpa using this
end Lw
namespace Lw
open Go
section
variable {P : Program} {ops : Array Oper} {Q : Exit → Act → World → Prop} {md : Region.Mode} {S : World → Prop}
theorem at_drop {i : Nat} {oi : Oper} {tl : List Oper} (hd : ops.toList.drop i = oi :: tl) : ops[i]? = some oi := by
  rw [← Array.getElem?_toList]
  have := List.getElem?_drop (xs := ops.toList) (i := i) (j := 0)
  rw [hd] at this
  simpa using this.symm
theorem take1 {i : Nat} {oi : Oper} {tl : List Oper} {v : Value} {fuel : Nat} {listed : Array Bool} {a : Act} {w : World} (hd : ops.toList.drop i = oi :: tl)
    (hs : Region.noSelect ops = true) (hf : Region.free md ops listed i = true) (hr : (Region.ready md ops listed).contains i = true)
    (hQ : ∀ c a w, Q (.panic c) (a.put oi.dst v) w → Q (.panic c) a w) (hy : YieldsIf P ops S oi v a) (hS : S w)
    (h : wpAnyH P md ops Q S fuel (listed.setIfInBounds i true) (a.put oi.dst v) w) : wpAnyH P md ops Q S (fuel + 1) listed a w :=
  wpAnyH_take (at_drop hd) hs hf hr hQ hy hS h
theorem cons1 {fuel : Nat} {listed : Array Bool} {a : Act} {w : World} {i : Nat} {o : Oper} {tl : List Oper} {rs : List Nat} (hd : ops.toList.drop i = o :: tl)
    (h : ∀ K' : Act → World → Prop, Shut (∀ a w, S w → (S w → wpAnyH P md ops Q S fuel (listed.setIfInBounds i true) a w) → K' a w) → if Region.wanted o (yielded ops a.tmps) = true then Oper.wp P o a w K' Q else K' (a.put o.dst undef) w)
    (hs : AllReadyH P md ops Q S fuel listed a w rs) : AllReadyH P md ops Q S fuel listed a w (i :: rs) := AllReadyH.cons (at_drop hd) h hs
end
end Lw
namespace Lw
open Go Go.RowKit

/-- A slice of integers that came in: nil, or a row of 'cap' cells, the numbers 'zs', of which the first 'len' are its elements. -/
def IsRow (k : IntKind) (w : World) (a : Option Addr) (len cap : Nat) (zs : List Int) : Prop :=
  (a = none ∧ len = 0 ∧ cap = 0 ∧ zs = []) ∨
  ∃ x, a = some x ∧ len ≤ cap ∧ cap ≤ maxLen ∧ zs.length = cap ∧ (∀ i, i < zs.length → w.cell? (x.add i) = some (.int k (zs.getD i 0))) ∧ ∀ n ∈ zs, (Lit.int k n).wf = true

/-- Behind a call that leaves the old blocks alone every old cell and every old mark reads as before. -/
theorem bcell {W w1 : World} (hb : Below W.heap.size W w1) : (∀ b o, b < W.heap.size → w1.cell? ⟨b, o, none⟩ = W.cell? ⟨b, o, none⟩) ∧ (∀ b o, b < W.heap.size → w1.frozen? ⟨b, o, none⟩ = W.frozen? ⟨b, o, none⟩) :=
  ⟨fun b o h => hb.cell (p := ⟨b, o, none⟩) h, fun b o h => hb.frozen (p := ⟨b, o, none⟩) h⟩
theorem bt {w W1 w1 : World} (h : Below w.heap.size w W1) (hb : Below W1.heap.size W1 w1) : Below w.heap.size w w1 := h.trans (hb.mono h.size)
theorem quiet {P : Program} {f : FuncId} {args : Array Value} {w : World} {n : Nat} {v : Value} (h : Calls P f args (w.drewN n) fun e w' => e = .returned v ∧ w.drewN n = w') : Calls P f args (w.drewN n) fun e w'' => e = .returned v ∧ ∃ m, w'' = w.drewN m :=
  h.mono fun _ _ ⟨he, hm⟩ => ⟨he, n, hm.symm⟩
theorem ret_int {k : IntKind} {a b : Int} (h : a = b) : Ending.returned (.int k a) = .returned (.int k b) := by rw [h]
theorem ret_bool {a b : Bool} (h : a = b) : Ending.returned (.bool a) = .returned (.bool b) := by rw [h]
theorem ret_ii {k l : IntKind} {a b c d : Int} (h : a = b) (g : c = d) : Ending.returned (.tuple #[.int k a, .int l c]) = .returned (.tuple #[.int k b, .int l d]) := by rw [h, g]
theorem ret_bi {l : IntKind} {a b : Bool} {c d : Int} (h : a = b) (g : c = d) : Ending.returned (.tuple #[.bool a, .int l c]) = .returned (.tuple #[.bool b, .int l d]) := by rw [h, g]
end Lw
namespace Lw
def hstepN (h b : Nat) : Nat := ((h ^^^ b) * 40503 % 65536) ^^^ ((h ^^^ b) * 40503 % 65536 / 128)
def hstep (h b : Int) : Int := (hstepN h.toNat b.toNat : Nat)

theorem hstepN_lt (h b : Nat) : hstepN h b < 65536 := by
  unfold hstepN
  exact Nat.xor_lt_two_pow (n := 16) (by omega) (by omega)
theorem hstep_bd (h b : Int) : 0 ≤ hstep h b ∧ hstep h b < 65536 := by
  unfold hstep; have := hstepN_lt h.toNat b.toNat; omega
def xorI (a b : Int) : Int := ((a.toNat ^^^ b.toNat : Nat) : Int)
theorem xorI_bd (a b : Int) (ha : a < 4294967296) (hb : b < 4294967296) : 0 ≤ xorI a b ∧ xorI a b < 4294967296 := by
  unfold xorI
  have : a.toNat ^^^ b.toNat < 2 ^ 32 := Nat.xor_lt_two_pow (by omega) (by omega)
  omega
theorem xorI_nat (a b : Nat) : xorI a b = ((a ^^^ b : Nat) : Int) := by unfold xorI; simp
theorem hstep_nat (a b : Nat) : hstep a b = ((hstepN a b : Nat) : Int) := by unfold hstep; simp

theorem step_eq (h b : Int) (h1 : 0 ≤ h) (h2 : h < 4294967296) (b1 : 0 ≤ b) (b2 : b < 256) :
    Go.bits .xor .u32 (Go.bits .and .u32 (Go.bits .xor .u32 h b * 40503 % 4294967296) 65535) (Go.bits .and .u32 (Go.bits .xor .u32 h b * 40503 % 4294967296) 65535 / 128) = hstep h b := by
  obtain ⟨n, rfl⟩ := Int.eq_ofNat_of_zero_le h1
  obtain ⟨m, rfl⟩ := Int.eq_ofNat_of_zero_le b1
  rw [Go.u32_xor_nat n m (by omega) (by omega)]
  have e1 : (((n ^^^ m : Nat) : Int) * 40503 % 4294967296) = (((n ^^^ m) * 40503 % 4294967296 : Nat) : Int) := by omega
  rw [e1, show (65535 : Int) = ((65535 : Nat) : Int) from rfl, Go.u32_and_nat _ 65535 (by omega) (by omega), Go.nat_mask16]
  have e2 : ((((n ^^^ m) * 40503 % 4294967296 % 65536 : Nat) : Int) / 128) = (((n ^^^ m) * 40503 % 4294967296 % 65536 / 128 : Nat) : Int) := by omega
  rw [e2, Go.u32_xor_nat _ _ (by omega) (by omega), hstep_nat]
  congr 1
  unfold hstepN
  have e3 : (n ^^^ m) * 40503 % 4294967296 % 65536 = (n ^^^ m) * 40503 % 65536 := by omega
  rw [e3]
theorem mixed_eq (a b : Int) (a1 : 0 ≤ a) (a2 : a < 4294967296) (b1 : 0 ≤ b) (b2 : b < 4294967296) :
    a + b - 2 * Go.bits .and .i64 a b = xorI a b := by
  obtain ⟨n, rfl⟩ := Int.eq_ofNat_of_zero_le a1
  obtain ⟨m, rfl⟩ := Int.eq_ofNat_of_zero_le b1
  rw [i64_and_nat n m (by omega) (by omega), xorI_nat]
  have := xor_eq_sub n m
  have := add_eq_xor n m
  omega
theorem andI_bd (a b : Int) (a1 : 0 ≤ a) (a2 : a < 4294967296) (b1 : 0 ≤ b) (b2 : b < 4294967296) :
    0 ≤ Go.bits .and .i64 a b ∧ Go.bits .and .i64 a b ≤ a := by
  obtain ⟨n, rfl⟩ := Int.eq_ofNat_of_zero_le a1
  obtain ⟨m, rfl⟩ := Int.eq_ofNat_of_zero_le b1
  rw [i64_and_nat n m (by omega) (by omega)]
  have : n &&& m ≤ n := Nat.and_le_left
  omega
theorem refstep_eq (h b : Int) (h1 : 0 ≤ h) (h2 : h < 4294967296) (b1 : 0 ≤ b) (b2 : b < 256) :
    xorI (xorI h b * 40503 % 65536) (xorI h b * 40503 % 65536 / 128) = hstep h b := by
  obtain ⟨n, rfl⟩ := Int.eq_ofNat_of_zero_le h1
  obtain ⟨m, rfl⟩ := Int.eq_ofNat_of_zero_le b1
  rw [hstep_nat, xorI_nat]
  have e1 : (((n ^^^ m : Nat) : Int) * 40503 % 65536) = (((n ^^^ m) * 40503 % 65536 : Nat) : Int) := by omega
  have e2 : (((n ^^^ m) * 40503 % 65536 : Nat) : Int) / 128 = (((n ^^^ m) * 40503 % 65536 / 128 : Nat) : Int) := by omega
  rw [e1, e2, xorI_nat]
  rfl
end Lw
namespace Go.Proofs.Ytkjcpjbdckbjcaa
open Go.RowKit

theorem hash_step (h b : Int) (w : World) (h1 : 0 ≤ h) (h2 : h < 4294967296) (b1 : 0 ≤ b) (b2 : b < 256) :
    Calls Try.prog 72 #[.int .u32 h, .int .u8 b] w fun e w' => e = .returned (.int .u32 (Lw.hstep h b)) ∧ w = w' := by
  go_enter Try.func72, Try.ntmps72
  go_wp2
  go_ret
  rw [Lw.step_eq h b h1 h2 b1 b2]
  exact ⟨rfl, rfl⟩
theorem ref_mixed (a b : Int) (w : World) (a1 : 0 ≤ a) (a2 : a < 4294967296) (b1 : 0 ≤ b) (b2 : b < 4294967296) :
    Calls Try.prog 24 #[.int .i64 a, .int .i64 b] w fun e w' => e = .returned (.int .i64 (Lw.xorI a b)) ∧ w = w' := by
  have e := Lw.mixed_eq a b a1 a2 b1 b2
  obtain ⟨hn1, hn2⟩ := Lw.andI_bd a b a1 a2 b1 b2
  have E := Lib.hid e
  clear e
  go_enter Try.func24, Try.ntmps24
  go_wp2
  go_ret
  rw [E.out]
  exact ⟨rfl, rfl⟩
theorem ref_step (a b : Int) (w : World) (a1 : 0 ≤ a) (a2 : a < 4294967296) (b1 : 0 ≤ b) (b2 : b < 256) :
    Calls Try.prog 61 #[.int .i64 a, .int .i64 b] w fun e w' => e = .returned (.int .i64 (Lw.hstep a b)) ∧ w = w' := by
  have E := Lib.hid (Lw.refstep_eq a b a1 a2 b1 b2)
  obtain ⟨hx1, hx2⟩ := Lw.xorI_bd a b a2 (by omega)
  go_enter Try.func61, Try.ntmps61
  go_wp2_with fail
  refine (ref_mixed _ _ _ a1 a2 b1 (by omega)).mono ?_
  rintro e w' ⟨rfl, rfl⟩
  go_wp2_with fail
  refine (ref_mixed _ _ _ (by omega) (by omega) (by omega) (by omega)).mono ?_
  rintro e w' ⟨rfl, rfl⟩
  go_wp2_with fail
  go_ret
  rw [E.out]
  exact ⟨rfl, rfl⟩
end Go.Proofs.Ytkjcpjbdckbjcaa
set_option linter.unusedVariables false
set_option linter.unusedSimpArgs false
namespace Lw
def farB (x : Int) : Bool := decide (x < -2147483648) || decide (2147483648 < x)
theorem farB_true {x : Int} (h : x < -2147483648 ∨ 2147483648 < x) : farB x = true := by unfold farB; simp; omega
theorem farB_false {x : Int} (h : ¬ (x < -2147483648 ∨ 2147483648 < x)) : farB x = false := by unfold farB; simp; omega
theorem of_farB_false {x : Int} (h : farB x = false) : -2147483648 ≤ x ∧ x ≤ 2147483648 := by unfold farB at h; simp at h; omega
def bothI (a b : Int) : Int := if farB a || farB b then 2 else 0
def firstI (a b : Int) : Int := if a = 0 then b else a
theorem firstI_zero (b : Int) : firstI 0 b = b := by simp [firstI]
theorem firstI_ne (a b : Int) (h : ¬ a = 0) : firstI a b = a := by simp [firstI, h]
def modI (m : Int) : Int := if m < 1 ∨ 1048576 < m then 2 else 0
end Lw
namespace Go.Proofs.Ytkjcpjbdckbjcaa
open Go.RowKit

end Go.Proofs.Ytkjcpjbdckbjcaa
set_option linter.unusedVariables false
set_option linter.unusedSimpArgs false
namespace Go.Proofs.Ytkjcpjbdckbjcaa
open Go.RowKit

theorem euclid_Mod (a m : Int) (w : World) (hm : 0 < m) (hm2 : m ≤ 4294967296) :
    Calls Try.prog 63 #[.int .i64 a, .int .i64 m] w fun e w' => e = .returned (.int .i64 (a % m)) ∧ w = w' := by
  obtain ⟨h1, h2⟩ := Lw.tmod_bd a m hm
  have h0 : ((m : Int) == 0) = false := by simp; omega
  have E := Lib.hid (Lw.mod_prog a m hm)
  go_enter Try.func63, Try.ntmps63
  go_wp2
  go_ret
  rw [E.out]
  exact ⟨rfl, rfl⟩
theorem ref_Mod (a m : Int) (w : World) (hm : 0 < m) (hm2 : m ≤ 4294967296) :
    Calls Try.prog 41 #[.int .i64 a, .int .i64 m] w fun e w' => e = .returned (.int .i64 (a % m)) ∧ w = w' := by
  obtain ⟨h1, h2⟩ := Lw.tmod_bd a m hm
  have h0 : ((m : Int) == 0) = false := by simp; omega
  by_cases h : a.tmod m < 0
  · have E := Lib.hid (Lw.mod_ref_neg a m hm h)
    go_enter Try.func41, Try.ntmps41
    go_wp2
    go_ret
    rw [E.out]
    exact ⟨rfl, rfl⟩
  · have E := Lib.hid (Lw.mod_ref_pos a m hm h)
    go_enter Try.func41, Try.ntmps41
    go_wp2
    go_ret
    rw [E.out]
    exact ⟨rfl, rfl⟩
theorem ref_Pow (n : Nat) : ∀ (a k m : Int) (w : World), k.toNat ≤ n → 0 ≤ k → k ≤ 4611686018427387904 → 0 < m → m ≤ 1048576 →
    Calls Try.prog 20 #[.int .i64 a, .int .i64 k, .int .i64 m] w fun e w' => e = .returned (.int .i64 (Lw.pw a k m)) ∧ w = w' := by
  induction n with
  | zero =>
    intro a k m w h1 h2 h2' h3 h4
    obtain rfl : k = 0 := by omega
    have E := Lib.hid (Lw.pw_zero a m)
    have h0 : ((m : Int) == 0) = false := by simp; omega
    clear h1 h2 h2'
    go_enter Try.func20, Try.ntmps20
    go_wp2_with fail
    go_ret
    rw [E.out]
    exact ⟨rfl, rfl⟩
  | succ n ih =>
    intro a k m w h1 h2 h2' h3 h4
    have h0 : ((m : Int) == 0) = false := by simp; omega
    by_cases hk : k = 0
    · subst hk
      have E := Lib.hid (Lw.pw_zero a m)
      clear h1 h2 h2'
      go_enter Try.func20, Try.ntmps20
      go_wp2_with fail
      go_ret
      rw [E.out]
      exact ⟨rfl, rfl⟩
    · have hk0 : ((k : Int) == 0) = false := by simpa using hk
      have IH := Lib.hid ih
      have hk1 : 1 ≤ k := by omega
      clear ih hk
      obtain ⟨p1, p2⟩ := Lw.pw_bd a (k / 2) m h3
      obtain ⟨q1, q2⟩ := Lw.mul_bd' (Lw.pw a (k / 2) m) (Lw.pw a (k / 2) m) 1048576 p1 (by omega) p1 (by omega)
      obtain ⟨r1, r2⟩ := Lw.emod_bd (Lw.pw a (k / 2) m * Lw.pw a (k / 2) m) m h3
      obtain ⟨s1, s2⟩ := Lw.emod_bd a m h3
      obtain ⟨t1, t2⟩ := Lw.mul_bd' (Lw.pw a (k / 2) m * Lw.pw a (k / 2) m % m) (a % m) 1048576 r1 (by omega) s1 (by omega)
      by_cases ho : k % 2 = 1
      · have E := Lib.hid (Lw.pw_odd a k m h2 ho)
        have hb : (k % 2 == 1) = true := by simpa using ho
        clear ho
        go_enter Try.func20, Try.ntmps20
        go_wp2_with fail
        refine (IH.out a (k / 2) m _ (by omega) (by omega) (by omega) (by omega) (by omega)).mono ?_
        rintro e w' ⟨rfl, rfl⟩
        go_wp2_with fail
        refine (ref_Mod _ _ _ h3 (by omega)).mono ?_
        rintro e w' ⟨rfl, rfl⟩
        go_wp2_with fail
        go_ret
        rw [E.out]
        exact ⟨rfl, rfl⟩
      · have E := Lib.hid (Lw.pw_even a k m h2 ho)
        have hb : (k % 2 == 1) = false := by simpa using ho
        clear ho
        go_enter Try.func20, Try.ntmps20
        go_wp2_with fail
        refine (IH.out a (k / 2) m _ (by omega) (by omega) (by omega) (by omega) (by omega)).mono ?_
        rintro e w' ⟨rfl, rfl⟩
        go_wp2_with fail
        go_ret
        rw [E.out]
        exact ⟨rfl, rfl⟩
theorem power_Of (a k m : Int) (w : World) (hk : 0 ≤ k) (hk2 : k ≤ 4611686018427387904) (hm : 0 < m) (hm2 : m ≤ 1048576) :
    Calls Try.prog 47 #[.int .i64 a, .int .i64 k, .int .i64 m] w fun e w' => e = .returned (.int .i64 (Lw.pw a k m)) ∧ w = w' := by
  have h0 : ((m : Int) == 0) = false := by simp; omega
  obtain ⟨s1, s2⟩ := Lw.emod_bd a m hm
  go_enter Try.func47, Try.ntmps47
  go_wp2_with (go_at_call 63; refine (euclid_Mod _ _ _ hm (by omega)).mono ?_; rintro e w' ⟨rfl, rfl⟩)
  go_loop [7, 0, 1] (fun x a' k' => ∃ x1 a1 k1 : Int, 0 ≤ x1 ∧ x1 < m ∧ 0 ≤ a1 ∧ a1 < m ∧ 0 ≤ k1 ∧ k1 ≤ 4611686018427387904 ∧ x = .int .i64 x1 ∧ a' = .int .i64 a1 ∧ k' = .int .i64 k1 ∧ Hid (x1 * a1 ^ k1.toNat % m = Lw.pw a k m)) (fun _ _ k' => (intOf k').toNat)
  case atStart =>
    obtain ⟨u1, u2⟩ := Lw.emod_bd 1 m hm
    refine ⟨_, _, _, u1, u2, s1, s2, hk, hk2, rfl, rfl, rfl, ?_⟩
    show 1 % m * (a % m) ^ k.toNat % m = Lw.pw a k m
    rw [Int.mul_emod, Int.emod_emod, ← Int.mul_emod, Int.one_mul]
    exact Lw.pw_emod a k m
  case round =>
    obtain ⟨x1, a1, k1, x2, x3, a2, a3, k2, k3, rfl, rfl, rfl, H⟩ := hrel
    obtain ⟨q1, q2⟩ := Lw.mul_bd' x1 a1 1048576 x2 (by omega) a2 (by omega)
    obtain ⟨r1, r2⟩ := Lw.mul_bd' a1 a1 1048576 a2 (by omega) a2 (by omega)
    by_cases hlt : 0 < k1
    · have hand : bits .and .i64 k1 1 = k1 % 2 := Lw.and_one k1 k2 (by omega)
      by_cases ho : k1 % 2 = 1
      · have hb : (bits .and .i64 k1 1 == 1) = true := by rw [hand]; simpa using ho
        have N := Lib.hid (Lw.pw_step_odd x1 a1 k1 m hlt ho)
        clear hand ho
        go_wp2
        go_round
        case rel => exact ⟨_, _, _, (Lw.emod_bd _ m hm).1, (Lw.emod_bd _ m hm).2, (Lw.emod_bd _ m hm).1, (Lw.emod_bd _ m hm).2, by omega, by omega, rfl, rfl, rfl, N.out.trans H.out⟩
        case measure => simp [intOf]; omega
      · have hb : (bits .and .i64 k1 1 == 1) = false := by rw [hand]; simpa using ho
        have N := Lib.hid (Lw.pw_step_even x1 a1 k1 m hlt ho)
        clear hand ho
        go_wp2
        go_round
        case rel => exact ⟨_, _, _, x2, x3, (Lw.emod_bd _ m hm).1, (Lw.emod_bd _ m hm).2, by omega, by omega, rfl, rfl, rfl, N.out.trans H.out⟩
        case measure => simp [intOf]; omega
    · obtain rfl : k1 = 0 := by omega
      have E : Hid (x1 = Lw.pw a k m) := by
        have h := H.out
        simp at h
        rw [Int.emod_eq_of_lt x2 x3] at h
        exact h
      clear H
      go_wp2
      go_ret
      rw [E.out]
      exact ⟨rfl, rfl⟩
end Go.Proofs.Ytkjcpjbdckbjcaa
set_option linter.unusedVariables false
set_option linter.unusedSimpArgs false
namespace Go.Proofs.Ytkjcpjbdckbjcaa
open Go.RowKit
def StepEnd (a b : Int) (w : World) (e : Ending) (w' : World) : Prop := ∃ g x, Lw.StepPost a b g x ∧ e = .returned (.tuple #[.int .i64 g, .int .i64 x]) ∧ w = w'

end Go.Proofs.Ytkjcpjbdckbjcaa
set_option linter.unusedVariables false
set_option linter.unusedSimpArgs false
namespace Lw
open Go Go.RowKit
/-- J abides new blocks, and whatever is written into block c. -/
def AbC {β : Type} (c : Nat) (J : β → World → Prop) : Prop :=
  ∀ s W W' row, J s W → W.grownBy W' row → (∀ r, row = some r → r = c) → J s W'

/-- An iterator over the list xs whose own state is block c: for every loop body that leaves block c alone. -/
def CellSeq {α : Type} (F : Fence) (n : Nat) (P : Program) (g : Nat) (lb : Array Value) (encs : α → Array Value) (c : Nat) (xs : List α) (w : World) : Prop :=
  ∀ (l : Nat) (J Jx : List α → World → Prop) (W : World), W.heap[c]? = w.heap[c]? → AbC c J → AbC c Jx →
    (∀ pre x W1, J pre W1 → pre ++ [x] <+: xs → YieldAt F (n - 1) P l (encs x) W1 fun e W' =>
      (e = .returned (.bool true) ∧ J (pre ++ [x]) W' ∧ W'.heap[c]? = W1.heap[c]?) ∨ (e = .returned (.bool false) ∧ Jx (pre ++ [x]) W')) →
    J [] W →
    CallsIn F n P g (#[.func (.yield l) #[] #[]] ++ lb) W fun e W' => (∃ v, e = .returned v) ∧ (J xs W' ∨ ∃ pre, pre <+: xs ∧ Jx pre W')

variable {F : Fence} {n : Nat} {P : Program}

theorem wpIn_rangeC {α : Type} {g : Operand} {ps : Array Tmp} {assign body : Code} {Q : Exit → Act → World → Prop} {a : Act} {w : World}
    (hro : F.round = none) (h1 : 1 ≤ n) {gf : Nat} {lb : Array Value} (hg : a.eval g = .func (.func gf) #[] lb) (hFg : F.fn gf) (eg : ∀ args w, (callFunc gf args).run P w = .ok (.enter gf args) w)
    {encs : α → Array Value} {c : Nat} {xs : List α} (hseq : CellSeq F (n - 1) P gf lb encs c xs w) (hc : c < w.heap.size) (hps : ∀ x, (encs x).size = ps.size)
    (I : List α → World → Prop) (Ix : Code → List α → World → Prop) (hI : OwnFrom w.heap.size I) (hIc : AbC c I) (hIx : ∀ k, OwnFrom w.heap.size (Ix k)) (hIxc : ∀ k, AbC c (Ix k)) (h0 : I [] w)
    (Ax : α → Act → World → Prop) (hAx : ∀ x a', OwnFrom w.heap.size (fun (_ : Unit) W => Ax x a' W))
    (hassign : ∀ (l : Nat) (pre : List α) (x : α) (W : World) (K : Act → World → Prop), I pre W → (∀ a' W', KeepsFrom w.heap.size W W' → W'.heap[c]? = W.heap[c]? → I pre W' → Ax x a' W' → K a' W') →
      assign.wpIn (F.inRound l) (n - 1 - 1) P (Exit.then K (fun _ _ _ => False)) { tmps := (ps.zip (encs x)).foldl (fun t (p, v) => t.setIfInBounds p v) a.tmps, defers := [] } W)
    (hbody : ∀ (l : Nat) (pre : List α) (x : α) (a' : Act) (W : World), w.heap.size ≤ l → (∃ r, W.heap[l]? = some (.loop r)) → I pre W → Ax x a' W → pre ++ [x] <+: xs → body.wpIn (F.inRound l) (n - 1 - 1) P (ownPostG w.heap.size (fun A B => B.heap[c]? = A.heap[c]?) I Ix (pre ++ [x]) W) a' W)
    (hdone : ∀ (D : Nat) (W : World), w.heap.size ≤ D → I xs W → W.heap[D]? = some (.deferred (some [])) → Q .normal { a with defers := { target := .collected D, args := #[] } :: a.defers } W)
    (hstop : ∀ (D : Nat) (k : Code) (pre : List α) (W : World), w.heap.size ≤ D → pre <+: xs → Ix k pre W → W.heap[D]? = some (.deferred (some [])) → k.wpIn F n P Q { a with defers := { target := .collected D, args := #[] } :: a.defers } W) :
    (Code.rangeFunc g ps assign body).wpIn F n P Q a w := by
  refine wpIn_rangeFunc fun fn hfn => ?_
  rw [hro]
  obtain ⟨rec, hrec⟩ : ∃ rec : LoopState → Option Code → Loop, rec = fun st pe => { state := st, pending := pe, fn, tmps := a.tmps, params := ps, assign, body, defers := w.heap.size } := ⟨_, rfl⟩
  obtain ⟨W1, hW1⟩ : ∃ W1, (w.alloc (.deferred (some []))).alloc (.loop (rec .ready none)) = W1 := ⟨_, rfl⟩
  have hL1 : W1.heap[w.heap.size + 1]? = some (.loop (rec .ready none)) := by
    rw [← hW1]; have := World.alloc_heap_new (w.alloc (.deferred (some []))) (.loop (rec .ready none)); rwa [World.size_alloc] at this
  have hK1 : W1.heap[w.heap.size]? = some (.deferred (some [])) := by
    rw [← hW1]; exact (Below.heap_alloc _ _ _ (by simp)).trans (World.alloc_heap_new w _)
  have hc1 : W1.heap[c]? = w.heap[c]? := by
    rw [← hW1]; exact (Below.heap_alloc _ _ _ (by simp; omega)).trans (Below.heap_alloc _ _ _ hc)
  have hI1 : I [] W1 := by rw [← hW1]; exact hI.alloc _ (hI.alloc _ h0)
  refine ⟨w.heap.size + 1, [{ target := .collected w.heap.size, args := #[] }], W1, { target := .fn (.func gf) lb, args := #[.func (.yield (w.heap.size + 1)) #[] #[]] }, W1, gf,
    #[.func (.yield (w.heap.size + 1)) #[] #[]] ++ lb, W1, ?_, ?_, ?_, ?_, fun _ => h1, ?_⟩
  · rw [← hW1, hrec]; exact run_enterLoop_outer _ _ _ _ _
  · simp only [resolve, hg]
    simp [go_sem]
  · intro f' hf'; simp [Target.leads] at hf'; subst hf'; exact hFg
  · simp [invoke, go_sem, eg]
  · have keep : ∀ {A B : World} {row : Option Nat} {k : Nat}, A.grownBy B row → (∀ r, row = some r → r = c) → w.heap.size ≤ k → ∀ {o : Obj}, A.heap[k]? = some o → B.heap[k]? = some o := by
      intro A B row k hg' hr hk o ho
      have hk2 : k < A.heap.size := (Array.getElem?_eq_some_iff.1 ho).1
      rw [hg'.block k hk2 (fun e => by have := hr k e.symm; omega)]; exact ho
    refine (hseq (w.heap.size + 1)
      (fun pre W => I pre W ∧ W.heap[w.heap.size + 1]? = some (.loop (rec .ready none)) ∧ W.heap[w.heap.size]? = some (.deferred (some [])))
      (fun pre W => ∃ k, Ix k pre W ∧ W.heap[w.heap.size + 1]? = some (.loop (rec .done (some k))) ∧ W.heap[w.heap.size]? = some (.deferred (some [])))
      W1 hc1
      (fun s A B row hs hg' hr => ⟨hIc s A B row hs.1 hg' hr, keep hg' hr (by omega) hs.2.1, keep hg' hr (Nat.le_refl _) hs.2.2⟩)
      (fun s A B row hs hg' hr => by
        obtain ⟨k, hk, hl, hd⟩ := hs
        exact ⟨k, hIxc k s A B row hk hg' hr, keep hg' hr (by omega) hl, keep hg' hr (Nat.le_refl _) hd⟩)
      ?_ ⟨hI1, hL1, hK1⟩).mono ?_
    · rintro pre x W ⟨hi, hl, hk⟩ hx
      have hy := run_yield (P := P) (args := encs x) hl (by rw [hrec]; exact hps x)
      rw [hrec] at hy
      refine ⟨fn, _, assign, body, hy, roundIn_of_wpIn hfn (hassign _ pre x W _ hi ?_)⟩
      clear hy
      intro a' Wa hkfa hca hia hax
      have hla := hkfa.same _ _ (by omega) hl rfl
      have hka := hkfa.same _ _ (Nat.le_refl _) hk rfl
      have hlt : w.heap.size + 1 < Wa.heap.size := (Array.getElem?_eq_some_iff.1 hla).1
      refine ⟨_, run_beginRound hla (by rw [hrec]), ?_⟩
      obtain ⟨Wb, hWb⟩ : ∃ Wb, Wa.putObj (w.heap.size + 1) (.loop { rec .ready none with state := .busy }) = Wb := ⟨_, rfl⟩
      have hl2 : Wb.heap[w.heap.size + 1]? = some (.loop { rec .ready none with state := .busy }) := by rw [← hWb]; exact World.putObj_heap_same hlt
      have hk2 : Wb.heap[w.heap.size]? = some (.deferred (some [])) := by rw [← hWb]; exact (World.putObj_heap_other (by omega)).trans hka
      have hc2 : Wb.heap[c]? = Wa.heap[c]? := by rw [← hWb]; exact World.putObj_heap_other (by omega)
      have hi2 : I pre Wb := by rw [← hWb]; exact hI.putObj _ hia (by omega) hla rfl
      have hx2 : Ax x a' Wb := by rw [← hWb]; exact (hAx x a').putObj (s := ()) _ hax (by omega) hla rfl
      rw [hWb]
      refine wpIn_mono (hbody _ pre x a' _ (by omega) ⟨_, hl2⟩ hi2 hx2 hx) ?_
      have fin : ∀ (jump : Option Code) (W3 : World), KeepsFrom w.heap.size Wb W3 →
          (Instr.endRound (w.heap.size + 1) jump).run P W3 = .ok (.bool jump.isNone) (W3.putObj (w.heap.size + 1) (.loop (rec (if jump.isNone then .ready else .done) jump))) ∧
          W3.heap[w.heap.size + 1]? = some (.loop { rec .ready none with state := .busy }) ∧
          (W3.putObj (w.heap.size + 1) (.loop (rec (if jump.isNone then .ready else .done) jump))).heap[w.heap.size + 1]? = some (.loop (rec (if jump.isNone then .ready else .done) jump)) ∧
          (W3.putObj (w.heap.size + 1) (.loop (rec (if jump.isNone then .ready else .done) jump))).heap[w.heap.size]? = some (.deferred (some [])) := fun jump W3 hk3 => by
        have hl3 := hk3.same _ _ (by omega) hl2 rfl
        have := run_endRound (P := P) jump hl3
        rw [hrec] at this ⊢
        exact ⟨this, by rw [hrec] at hl3; exact hl3, World.putObj_heap_same (Array.getElem?_eq_some_iff.1 hl3).1, (World.putObj_heap_other (by omega)).trans (hk3.same _ _ (Nat.le_refl _) hk2 rfl)⟩
      have jumps : ∀ (k : Code) (W3 : World), KeepsFrom w.heap.size Wb W3 → Ix k (pre ++ [x]) W3 → _ := fun k W3 hk3 hi3 => (⟨fin (some k) W3 hk3, (hIx k).putObj (.loop (rec .done (some k))) hi3 (by omega) (fin (some k) W3 hk3).2.1 rfl⟩ : _ ∧ _)
      rintro e a3 W3 hp
      cases e with
      | normal =>
        obtain ⟨hk3, hkp3, hi3⟩ := hp
        obtain ⟨hr, hl3, hl4, hk4⟩ := fin none W3 hk3
        exact ⟨_, _, hr, .inl ⟨rfl, ⟨hI.putObj _ hi3 (by omega) hl3 rfl, hl4, hk4⟩, (World.putObj_heap_other (by omega)).trans (hkp3.trans (hc2.trans hca))⟩⟩
      | ret => obtain ⟨⟨hr, _, hl4, hk4⟩, hj⟩ := jumps .ret W3 hp.1 hp.2; exact ⟨_, _, hr, .inr ⟨rfl, .ret, hj, hl4, hk4⟩⟩
      | exit id => obtain ⟨⟨hr, _, hl4, hk4⟩, hj⟩ := jumps (.exit id) W3 hp.1 hp.2; exact ⟨_, _, hr, .inr ⟨rfl, .exit id, hj, hl4, hk4⟩⟩
      | goto t => obtain ⟨⟨hr, _, hl4, hk4⟩, hj⟩ := jumps (.goto t) W3 hp.1 hp.2; exact ⟨_, _, hr, .inr ⟨rfl, .goto t, hj, hl4, hk4⟩⟩
      | panic ch => exact hp.elim
      | outgrown => exact hp.elim
    · rintro e W2 ⟨⟨v, rfl⟩, (⟨hi, hl, hk⟩ | ⟨pre, hSp, k, hi, hl, hk⟩)⟩
      · exact ⟨none, _, by have := run_endLoop (P := P) hl (by rw [hrec]; simp); rw [hrec] at this; exact this, hdone _ _ (Nat.le_refl _) (hI.putObj _ hi (by omega) hl rfl) ((World.putObj_heap_other (by omega)).trans hk)⟩
      · exact ⟨some k, _, by have := run_endLoop (P := P) hl (by rw [hrec]; simp); rw [hrec] at this; exact this, hstop _ k pre _ (Nat.le_refl _) hSp ((hIx k).putObj _ hi (by omega) hl rfl) ((World.putObj_heap_other (by omega)).trans hk)⟩

/-! ### small words for the invariants -/
theorem blk_kept {W W' : World} {row : Option Nat} {b : Nat} {o : Obj} (h : W.heap[b]? = some o) (hg : W.grownBy W' row) (hr : row ≠ some b) : W'.heap[b]? = some o := by
  rw [hg.block b (Array.getElem?_eq_some_iff.1 h).1 (fun e => hr e.symm)]; exact h
theorem blk_own {β : Type} (B b : Nat) (o : β → Obj) (ho : ∀ s, (o s).isCells = true) : OwnFrom B (fun (s : β) W => W.heap[b]? = some (o s)) :=
  fun s W W' row h hg hr => blk_kept h hg (fun e => by obtain ⟨_, o', h', hn⟩ := hr b e; rw [h] at h'; cases h'; rw [ho] at hn; cases hn)
theorem blk_abc {β : Type} {c b : Nat} (h : b ≠ c) (o : β → Obj) : AbC c (fun (s : β) W => W.heap[b]? = some (o s)) :=
  fun s W W' row hs hg hr => blk_kept hs hg (fun e => h (hr b e))
theorem below_abc {β : Type} {c B : Nat} {w : World} (h : B ≤ c) (hB : B ≤ w.heap.size) : AbC c (fun (_ : β) W => Below B w W) :=
  fun s W W' row hs hg hr => hs.grown hg (by have := hs.size; omega) (fun k e => by rw [hr k e]; exact h)
theorem AbC.and {β : Type} {c : Nat} {I J : β → World → Prop} (h : AbC c I) (k : AbC c J) : AbC c (fun s W => I s W ∧ J s W) :=
  fun s W W' row hs hg hr => ⟨h s W W' row hs.1 hg hr, k s W W' row hs.2 hg hr⟩
theorem AbC.ex {β γ : Type} {c : Nat} {I : γ → β → World → Prop} (h : ∀ x, AbC c (I x)) : AbC c (fun s W => ∃ x, I x s W) :=
  fun s W W' row ⟨x, hs⟩ hg hr => ⟨x, h x s W W' row hs hg hr⟩
theorem abc_pure {β : Type} {c : Nat} (p : β → Prop) : AbC c (fun s (_ : World) => p s) := fun s W W' row hs hg hr => hs
theorem own_ex {β γ : Type} {B : Nat} {I : γ → β → World → Prop} (h : ∀ x, OwnFrom B (I x)) : OwnFrom B (fun s W => ∃ x, I x s W) :=
  fun s W W' row ⟨x, hs⟩ hg hr => ⟨x, h x s W W' row hs hg hr⟩
theorem own_pure {β : Type} {B : Nat} (p : β → Prop) : OwnFrom B (fun s (_ : World) => p s) := fun s W W' row hs hg hr => hs
theorem own_and {β : Type} {B : Nat} {I J : β → World → Prop} (h : OwnFrom B I) (k : OwnFrom B J) : OwnFrom B (fun s W => I s W ∧ J s W) :=
  fun s W W' row hs hg hr => ⟨h s W W' row hs.1 hg hr, k s W W' row hs.2 hg hr⟩
theorem own_below {β : Type} {B B' : Nat} {w : World} (h : B' ≤ B) (hB : B' ≤ w.heap.size) : OwnFrom B (fun (_ : β) W => Below B' w W) :=
  fun s W W' row hs hg hr => hs.grown hg (by have := hs.size; omega) (fun k e => by have := (hr k e).1; omega)
theorem own_size {β : Type} {B : Nat} (k : Nat) : OwnFrom B (fun (_ : β) W => k < W.heap.size) := fun s W W' row hs hg hr => Nat.lt_of_lt_of_le hs hg.size
theorem abc_size {β : Type} {c : Nat} (k : Nat) : AbC c (fun (_ : β) W => k < W.heap.size) := fun s W W' row hs hg hr => Nat.lt_of_lt_of_le hs hg.size
theorem blk_new (W : World) (cs : Array Value) (t : TypeId) : (W.alloc (.cells cs t)).heap[W.heap.size]? = some (.cells cs t) := World.alloc_heap_new W _
theorem blk_new' {W : World} {b : Nat} (hb : W.heap.size = b) (cs : Array Value) (t : TypeId) : (W.alloc (.cells cs t)).heap[b]? = some (.cells cs t) := by rw [← hb]; exact blk_new W cs t
theorem blk_alloc {W : World} {b : Nat} {o : Obj} (h : W.heap[b]? = some o) (o' : Obj) : (W.alloc o').heap[b]? = some o :=
  (Below.heap_alloc W o' b (Array.getElem?_eq_some_iff.1 h).1).trans h
theorem blk_lt {W : World} {b : Nat} {o : Obj} (h : W.heap[b]? = some o) : b < W.heap.size := (Array.getElem?_eq_some_iff.1 h).1
theorem blk_cell {W : World} {b : Nat} {cs : Array Value} {t : TypeId} (h : W.heap[b]? = some (.cells cs t (0, 0))) (i : Nat) : W.cell? ⟨b, i, none⟩ = cs[i]? := by simp [World.cell?, h]
theorem blk_free {W : World} {b : Nat} {cs : Array Value} {t : TypeId} (h : W.heap[b]? = some (.cells cs t (0, 0))) (i : Nat) : W.frozen? ⟨b, i, none⟩ = false := by simp [World.frozen?, h]
theorem blk_set_other {W : World} {b b' : Nat} {o : Obj} (h : W.heap[b]? = some o) (hne : b ≠ b') (i : Nat) (v : Value) : (W.setCell ⟨b', i, none⟩ v).heap[b]? = some o :=
  (Below.heap_setCell W ⟨b', i, none⟩ v b hne).trans h
theorem blk_set_same {W : World} {b : Nat} {cs : Array Value} {t : TypeId} (h : W.heap[b]? = some (.cells cs t (0, 0))) (i : Nat) (v : Value) : (W.setCell ⟨b, i, none⟩ v).heap[b]? = some (.cells (cs.setIfInBounds i v) t (0, 0)) := by
  simp [World.setCell, Array.getElem?_modify, h]
end Lw
set_option linter.unusedVariables false
set_option linter.unusedSimpArgs false
namespace Lw
open Go Go.RowKit
/-- the n elements of a slice, of sz cells each, are the cells xs -/
def Rd (w : World) (sz : Nat) (A : Option Addr) (n : Nat) (xs : List Value) : Prop :=
  xs.length = n * sz ∧ (0 < n → ∃ ad, A = some ad ∧ ad.block < w.heap.size ∧ ∀ j u, xs[j]? = some u → w.cell? (ad.add j) = some u)
theorem belowDrewN {B : Nat} {a w : World} (h : Below B a w) (n : Nat) : Below B a (w.drewN n) := ⟨h.os, h.tape, h.output, h.size, h.block⟩
theorem balloc {w W : World} (h : Below w.heap.size w W) (o : Obj) : Below w.heap.size w (W.alloc o) := h.alloc h.size o
theorem bset {w W : World} {p : Addr} (h : Below w.heap.size w W) (hp : w.heap.size ≤ p.block) (v : Value) : Below w.heap.size w (W.setCell p v) := h.setCell hp v
theorem bdrewN {w W : World} (h : Below w.heap.size w W) (n : Nat) : Below w.heap.size w (W.drewN n) := belowDrewN h n
theorem add_block (a : Addr) (n : Nat) : (a.add n).block = a.block := by unfold Addr.add; split <;> rfl
theorem add_add (a : Addr) (i j : Nat) : (a.add i).add j = a.add (i + j) := by
  unfold Addr.add
  by_cases hi : i = 0 <;> by_cases hj : j = 0 <;> simp [hi, hj, Nat.add_assoc]
theorem Rd.nil (w : World) (sz : Nat) (A : Option Addr) : Rd w sz A 0 [] := ⟨by simp, fun h => absurd h (by omega)⟩
theorem Rd.below {w w' : World} {sz n : Nat} {A : Option Addr} {xs : List Value} (h : Rd w sz A n xs) {B : Nat} (hB : w.heap.size ≤ B) (hb : Below B w w') : Rd w' sz A n xs :=
  ⟨h.1, fun hn => by
    obtain ⟨ad, e, hlt, hc⟩ := h.2 hn
    exact ⟨ad, e, by have := hb.size; omega, fun j u hu => (hb.cell (p := ad.add j) (by rw [add_block]; omega)).trans (hc j u hu)⟩⟩
theorem Rd.alloc {w : World} {sz n : Nat} {A : Option Addr} {xs : List Value} (h : Rd w sz A n xs) (o : Obj) : Rd (w.alloc o) sz A n xs :=
  h.below (Nat.le_refl _) ((Below.refl _ _).alloc (Nat.le_refl _) o)
theorem Rd.drewN {w : World} {sz n : Nat} {A : Option Addr} {xs : List Value} (h : Rd w sz A n xs) (k : Nat) : Rd (w.drewN k) sz A n xs := h
/-- the slice value, its cells, in the walk's words -/
theorem Rd.at_ {w : World} {sz n k : Nat} {A : Option Addr} {xs : List Value} (h : Rd w sz A n xs) (hk : k < n) :
    ∃ ad, A = some ad ∧ ad.block < w.heap.size ∧ ∀ j u, xs[k * sz + j]? = some u → w.cell? ((ad.add (k * sz)).add j) = some u := by
  obtain ⟨ad, e, hlt, hc⟩ := h.2 (by omega)
  exact ⟨ad, e, hlt, fun j u hu => by rw [add_add]; exact hc _ _ hu⟩
theorem add_zero' (a : Addr) : a.add 0 = a := rfl
theorem add_succ' (a : Addr) (j : Nat) : a.add (j + 1) = ⟨a.block, a.off + (j + 1), none⟩ := by unfold Addr.add; simp
/-- elements of one cell -/
theorem Rd.at1 {w : World} {n k : Nat} {A : Option Addr} {xs : List Value} {x : Value} (h : Rd w 1 A n xs) (hk : k < n) (h0 : xs[k]? = some x) :
    ∃ ad, A = some ad ∧ ad.block < w.heap.size ∧ w.cell? (ad.add k) = some x := by
  obtain ⟨ad, e, hb, hc⟩ := h.2 (by omega)
  exact ⟨ad, e, hb, hc _ _ h0⟩
/-- elements of two cells, as the walk spells their addresses -/
theorem Rd.at2 {w : World} {n k : Nat} {A : Option Addr} {xs : List Value} {x y : Value} (h : Rd w 2 A n xs) (hk : k < n) (h0 : xs[k * 2 + 0]? = some x) (h1 : xs[k * 2 + 1]? = some y) :
    ∃ ad, A = some ad ∧ ad.block < w.heap.size ∧ w.cell? (ad.add (k * 2)) = some x ∧ w.cell? ⟨(ad.add (k * 2)).block, (ad.add (k * 2)).off + 1, none⟩ = some y := by
  obtain ⟨ad, e, hb, hc⟩ := h.at_ hk
  refine ⟨ad, e, hb, ?_, ?_⟩
  · have := hc 0 _ h0; rwa [add_zero'] at this
  · have := hc 1 _ h1; rwa [add_succ'] at this
theorem Rd.of_own {w : World} {base sz n c : Nat} {A : Option Addr} {e : TypeId} {xs : List Value} (h : w.ownsRow base e sz (.slice A n c) n xs) : Rd w sz A n xs := by
  refine ⟨h.1, fun hn => ?_⟩
  rcases h.2 with ⟨_, h0⟩ | ⟨g, cap, cur, hv, hb, hh, _⟩
  · omega
  · have hA : A = some ⟨g, 0, none⟩ := by injection hv
    subst hA
    exact ⟨_, rfl, (Array.getElem?_eq_some_iff.1 hh).1, h.cells (g := g) rfl⟩
/-- four cells of a block of the call's own are kept over a call that makes memory -/
theorem gs_keep {w w1 w2 : World} {b : Nat} {x0 x1 x2 x3 : Value} (h0 : w1.cell? ⟨b, 0, none⟩ = some x0) (h1 : w1.cell? ⟨b, 1, none⟩ = some x1) (h2 : w1.cell? ⟨b, 2, none⟩ = some x2) (h3 : w1.cell? ⟨b, 3, none⟩ = some x3) (hl : b < w1.heap.size) (hB : Below w.heap.size w w1) (hb : Below w1.heap.size w1 w2) :
    w2.cell? ⟨b, 0, none⟩ = some x0 ∧ w2.cell? ⟨b, 1, none⟩ = some x1 ∧ w2.cell? ⟨b, 2, none⟩ = some x2 ∧ w2.cell? ⟨b, 3, none⟩ = some x3 ∧ b < w2.heap.size ∧ Below w.heap.size w w2 :=
  ⟨(hb.cell (p := ⟨b, 0, none⟩) hl).trans h0, (hb.cell (p := ⟨b, 1, none⟩) hl).trans h1, (hb.cell (p := ⟨b, 2, none⟩) hl).trans h2, (hb.cell (p := ⟨b, 3, none⟩) hl).trans h3, by have := hb.size; omega, bt hB hb⟩
/-- a slice of a block that is known whole -/
theorem Rd.lit {w : World} {b n sz : Nat} {cs : Array Value} {t : TypeId} {xs : List Value} (h : w.heap[b]? = some (.cells cs t (0, 0))) (hx : cs.toList = xs) (hl : xs.length = n * sz) : Rd w sz (some ⟨b, 0, none⟩) n xs :=
  ⟨hl, fun _ => ⟨_, rfl, (Array.getElem?_eq_some_iff.1 h).1, fun j u hu => by
    have e : (⟨b, 0, none⟩ : Addr).add j = ⟨b, j, none⟩ := by unfold Addr.add; split <;> simp_all
    rw [e, cell_of_row _ _ _ cs t (0, 0) h, ← Array.getElem?_toList, hx]; exact hu⟩⟩
theorem ownsForm {w : World} {base sz n : Nat} {v : Value} {e : TypeId} {xs : List Value} (h : w.ownsRow base e sz v n xs) : ∃ A c, v = .slice A n c ∧ n ≤ c ∧ c ≤ maxLen ∧ (A = none ∨ ∃ g, A = some ⟨g, 0, none⟩ ∧ base ≤ g ∧ g < w.heap.size) := by
  rcases h.2 with ⟨rfl, rfl⟩ | ⟨g, cap, cur, rfl, hb, hh, hc, hm, _⟩
  · exact ⟨none, 0, rfl, Nat.le_refl _, by unfold maxLen; omega, .inl rfl⟩
  · exact ⟨_, cap, rfl, hc, hm, .inr ⟨g, rfl, hb, (Array.getElem?_eq_some_iff.1 hh).1⟩⟩
theorem ownsBelow {w w' : World} {base B sz n : Nat} {v : Value} {e : TypeId} {xs : List Value} (h : w.ownsRow base e sz v n xs) (hB : w.heap.size ≤ B) (hb : Below B w w') : w'.ownsRow base e sz v n xs := by
  refine ⟨h.1, ?_⟩
  rcases h.2 with hn | ⟨g, cap, cur, rfl, hg, hh, rest⟩
  · exact .inl hn
  · have hlt := (Array.getElem?_eq_some_iff.1 hh).1
    exact .inr ⟨g, cap, cur, rfl, hg, (hb.block g (by omega)).trans hh, rest⟩
theorem ownsBase {w : World} {base base' sz n : Nat} {v : Value} {e : TypeId} {xs : List Value} (h : w.ownsRow base e sz v n xs) (hb : base' ≤ base) : w.ownsRow base' e sz v n xs := by
  refine ⟨h.1, ?_⟩
  rcases h.2 with hn | ⟨g, cap, cur, rfl, hg, rest⟩
  · exact .inl hn
  · exact .inr ⟨g, cap, cur, rfl, by omega, rest⟩
/-- what a call hands back that has made a slice -/
def OwnRes (T sz : Nat) (xs : List Value) (n : Nat) (w : World) (e : Ending) (w' : World) : Prop :=
  ∃ A c, e = .returned (.slice A n c) ∧ w'.ownsRow w.heap.size T sz (.slice A n c) n xs ∧ Below w.heap.size w w'
/-- behind an append onto a row of the call's own -/
theorem grown_own {w0 w w' : World} {base sz n : Nat} {v : Value} {e : TypeId} {xs : List Value} (hB : Below w0.heap.size w0 w) (h : w.ownsRow base e sz v n xs) (hb : w0.heap.size ≤ base) (hg : w.grownBy w' v.ownBlock) : Below w0.heap.size w0 w' :=
  hB.grown hg hB.size (fun k hk => by have := (h.lt k hk).1; omega)
theorem cells_new (w : World) (cs : Array Value) (t : TypeId) : ∀ j u, cs.toList[j]? = some u → (w.alloc (.cells cs t)).cell? ((⟨w.heap.size, 0, none⟩ : Addr).add j) = some u := by
  intro j u hu
  have e : (⟨w.heap.size, 0, none⟩ : Addr).add j = ⟨w.heap.size, j, none⟩ := by unfold Addr.add; split <;> simp_all
  rw [e, cell_of_row _ _ _ cs t (0, 0) (heap_alloc_new w _)]
  simpa using hu
/-- integers as cells -/
def intsV (k : IntKind) (zs : List Int) : List Value := zs.map (.int k)
theorem intsV_length (k : IntKind) (zs : List Int) : (intsV k zs).length = zs.length := by simp [intsV]
theorem intsV_get {k : IntKind} {zs : List Int} {i : Nat} (h : i < zs.length) : (intsV k zs)[i]? = some (.int k zs[i]) := by simp [intsV, h]
theorem intsV_one (k : IntKind) (zs : List Int) : ∀ u ∈ intsV k zs, u.oneCell' = true := by
  intro u hu; obtain ⟨x, _, rfl⟩ := List.mem_map.1 hu; rfl
theorem one1 (k : IntKind) (a : Int) : ∀ u ∈ [Value.int k a], u.oneCell' = true := by intro u hu; simp at hu; subst hu; rfl
theorem one2 (k l : IntKind) (a b : Int) : ∀ u ∈ [Value.int k a, Value.int l b], u.oneCell' = true := by intro u hu; simp at hu; rcases hu with rfl | rfl <;> rfl
theorem max_of {n : Nat} (h : n ≤ 140737488355328) : n ≤ maxLen := by unfold maxLen; omega
theorem grow_ok {w0 w : World} (hB : Below w0.heap.size w0 w) (o : Obj) : w0.heap.size ≤ (w.alloc o).heap.size := by have := hB.size; simp; omega
/-- pairs of integers as cells: structs of two integer fields -/
def pairsV (k l : IntKind) (zs : List (Int × Int)) : List Value := zs.flatMap fun x => [.int k x.1, .int l x.2]
theorem pairsV_length (k l : IntKind) (zs : List (Int × Int)) : (pairsV k l zs).length = zs.length * 2 := by
  induction zs with
  | nil => rfl
  | cons x zs ih => simp only [pairsV, List.flatMap_cons, List.length_append, List.length_cons, List.length_nil] at *; omega
theorem pairsV_append (k l : IntKind) (a b : List (Int × Int)) : pairsV k l (a ++ b) = pairsV k l a ++ pairsV k l b := by simp [pairsV]
theorem pairsV_get {k l : IntKind} : ∀ {zs : List (Int × Int)} {i : Nat} (h : i < zs.length), (pairsV k l zs)[i * 2 + 0]? = some (.int k zs[i].1) ∧ (pairsV k l zs)[i * 2 + 1]? = some (.int l zs[i].2)
  | x :: zs, 0, _ => by simp [pairsV]
  | x :: zs, i + 1, h => by
    have ih := pairsV_get (k := k) (l := l) (zs := zs) (i := i) (by simpa using h)
    have e : pairsV k l (x :: zs) = [.int k x.1, .int l x.2] ++ pairsV k l zs := by simp [pairsV]
    rw [e, List.getElem?_append_right (by simp; omega), List.getElem?_append_right (by simp; omega)]
    simp only [List.length_cons, List.length_nil, List.getElem_cons_succ]
    rw [show (i + 1) * 2 + 0 - (0 + 1 + 1) = i * 2 + 0 from by omega, show (i + 1) * 2 + 1 - (0 + 1 + 1) = i * 2 + 1 from by omega]
    exact ih
/-- elements of three cells -/
theorem Rd.at3 {w : World} {n k : Nat} {A : Option Addr} {xs : List Value} {x y z : Value} (h : Rd w 3 A n xs) (hk : k < n) (h0 : xs[k * 3 + 0]? = some x) (h1 : xs[k * 3 + 1]? = some y) (h2 : xs[k * 3 + 2]? = some z) :
    ∃ ad, A = some ad ∧ ad.block < w.heap.size ∧ w.cell? (ad.add (k * 3)) = some x ∧ w.cell? ⟨(ad.add (k * 3)).block, (ad.add (k * 3)).off + 1, none⟩ = some y ∧ w.cell? ⟨(ad.add (k * 3)).block, (ad.add (k * 3)).off + 2, none⟩ = some z := by
  obtain ⟨ad, e, hb, hc⟩ := h.at_ hk
  refine ⟨ad, e, hb, ?_, ?_, ?_⟩
  · have := hc 0 _ h0; rwa [add_zero'] at this
  · have := hc 1 _ h1; rwa [add_succ'] at this
  · have := hc 2 _ h2; rwa [add_succ'] at this
/-- structs of three integer fields -/
def tripsV (zs : List (Int × Int × Int)) : List Value := zs.flatMap fun x => [.int .i64 x.1, .int .i64 x.2.1, .int .i64 x.2.2]
theorem tripsV_length (zs : List (Int × Int × Int)) : (tripsV zs).length = zs.length * 3 := by
  induction zs with
  | nil => rfl
  | cons x zs ih => simp only [tripsV, List.flatMap_cons, List.length_append, List.length_cons, List.length_nil] at *; omega
theorem tripsV_get : ∀ {zs : List (Int × Int × Int)} {i : Nat} (h : i < zs.length), (tripsV zs)[i * 3 + 0]? = some (.int .i64 zs[i].1) ∧ (tripsV zs)[i * 3 + 1]? = some (.int .i64 zs[i].2.1) ∧ (tripsV zs)[i * 3 + 2]? = some (.int .i64 zs[i].2.2)
  | x :: zs, 0, _ => by simp [tripsV]
  | x :: zs, i + 1, h => by
    have ih := tripsV_get (zs := zs) (i := i) (by simpa using h)
    have e : tripsV (x :: zs) = [.int .i64 x.1, .int .i64 x.2.1, .int .i64 x.2.2] ++ tripsV zs := by simp [tripsV]
    rw [e, List.getElem?_append_right (by simp; omega), List.getElem?_append_right (by simp; omega), List.getElem?_append_right (by simp; omega)]
    simp only [List.length_cons, List.length_nil, List.getElem_cons_succ]
    rw [show (i + 1) * 3 + 0 - (0 + 1 + 1 + 1) = i * 3 + 0 from by omega, show (i + 1) * 3 + 1 - (0 + 1 + 1 + 1) = i * 3 + 1 from by omega, show (i + 1) * 3 + 2 - (0 + 1 + 1 + 1) = i * 3 + 2 from by omega]
    exact ih
/-- only block b, and what is new, has turned -/
theorem grown_set {a w : World} {b : Nat} {i : Nat} (h : Below a.heap.size a w) (v : Value) : a.grownBy (w.setCell ⟨b, i, none⟩ v) (some b) :=
  ⟨h.os, h.tape, h.output, by simpa [World.setCell] using h.size, fun j hj hne => (Below.heap_setCell w ⟨b, i, none⟩ v j (by rintro rfl; exact hne rfl)).trans (h.block j hj)⟩
theorem grown_below {a w : World} {b B : Nat} (h : a.grownBy w (some b)) (hB : B ≤ b) (hs : B ≤ a.heap.size) : Below B a w :=
  ⟨h.os, h.tape, h.output, h.size, fun j hj => h.block j (by omega) (by intro e; injection e; omega)⟩
end Lw
set_option linter.unusedVariables false
set_option linter.unusedSimpArgs false
namespace Lw
open Go Go.RowKit
/-- what the program says of a slice type t, its elements' type e: the element's zero value, its cells, its bytes -/
def El (P : Program) (t e : TypeId) (z : Value) (size bytes : Nat) : Prop :=
  P.underlying t = some (.slice e) ∧ z.cells.size = size ∧ 0 < size ∧ bytes ≤ 4096 ∧ ∃ i, P.info? e = some i ∧ i.zero = some z ∧ i.size = size ∧ i.bytes = bytes
theorem El.mk' {P : Program} {t e : TypeId} {z : Value} {size bytes : Nat} (h : P.underlying t = some (.slice e)) (hi : (P.info? e).map (fun i => (i.zero, i.size, i.bytes)) = some (some z, size, bytes)) (hz : z.cells.size = size) (h0 : 0 < size) (hb : bytes ≤ 4096) : El P t e z size bytes :=
  ⟨h, hz, h0, hb, info_parts hi⟩
section
variable {P : Program} {w : World}
theorem run_app {t ty e : TypeId} {z : Value} {size bytes base : Nat} (hel : El P t e z size bytes) {v : Value} {n : Nat} {xs : List Value} (hown : w.ownsRow base e size v n xs) {A : Option Addr} {m c : Nat} {news : List Value} (R : Rd w size A m news) (h1 : ∀ u ∈ news, u.oneCell' = true) (hm : n + m ≤ 16777216) (hbase : base ≤ w.heap.size) :
    ∃ v' w', (Builtin.append_ #[t, t] ty #[v, .slice A m c]).run P w = .ok v' w' ∧ w'.ownsRow base e size v' (n + m) (xs ++ news) ∧ w.grownBy w' v.ownBlock ∧ (v'.ownBlock = v.ownBlock ∨ v'.ownBlock = some w.heap.size) := by
  obtain ⟨ht, hz, h0, hb, i, hi, hiz, hsz, hby⟩ := hel
  have hbound : (n + m) * bytes ≤ 140737488355328 := by
    have := Nat.mul_le_mul hm hb; omega
  rcases A with _ | ad
  · have hm0 : m = 0 := by
      rcases Nat.eq_zero_or_pos m with h | h
      · exact h
      · obtain ⟨_, h2, _⟩ := R.2 h; cases h2
    subst hm0
    have hn : news = [] := List.eq_nil_of_length_eq_zero (by simpa using R.1)
    subst hn
    refine ⟨v, w, ?_, by simpa using hown, World.grownBy.refl w _, .inl rfl⟩
    rcases hown.2 with ⟨rfl, rfl⟩ | ⟨g, cap, cur, rfl, _, _, hnc, _⟩
    · simp [Builtin.append_, run_underlying ht, Go.sizeOf, typeInfo, hi, Builtin.lenOf, Builtin.firstCells]
    · simp [Builtin.append_, run_underlying ht, Go.sizeOf, typeInfo, hi, Builtin.lenOf, Builtin.firstCells, hnc, storeCells]
  · have hc : ∀ j u, news[j]? = some u → w.cell? (ad.add j) = some u := by
      intro j u hu
      rcases Nat.eq_zero_or_pos m with h | h
      · subst h
        have hn : news = [] := List.eq_nil_of_length_eq_zero (by simpa using R.1)
        subst hn; simp at hu
      · obtain ⟨ad', h2, _, h3⟩ := R.2 h
        injection h2 with h2; subst h2; exact h3 j u hu
    obtain ⟨v', w', a, b, c', _, d⟩ := run_append_own_at (P := P) w base t ty e i z size bytes ht hi hiz hsz hby hz h0 v n xs hown ad m c news R.1 hc h1 (max_of (by omega)) hbound hbase
    exact ⟨v', w', a, b, c', d⟩
theorem wp_app {o : Oper} {a : Act} {K : Act → World → Prop} {Q : Exit → Act → World → Prop} {t e : TypeId} {z : Value} {size bytes base : Nat} (hel : El P t e z size bytes) (s x : Operand)
    (ho : o.op = .call { callee := .builtin .append, args := #[s, x], argTypes := #[t, t] }) {v : Value} {n : Nat} {xs : List Value} (hs : a.eval s = v) (hown : w.ownsRow base e size v n xs) {A : Option Addr} {m c : Nat} {news : List Value} (hx : a.eval x = .slice A m c) (R : Rd w size A m news) (h1 : ∀ u ∈ news, u.oneCell' = true) (hm : n + m ≤ 16777216)
    {w0 : World} (hB : Below w0.heap.size w0 w) (hb0 : w0.heap.size ≤ base) (hbase : base ≤ w.heap.size)
    (h : ∀ v' w', w'.ownsRow base e size v' (n + m) (xs ++ news) → Below w0.heap.size w0 w' → w.grownBy w' v.ownBlock → (v'.ownBlock = v.ownBlock ∨ v'.ownBlock = some w.heap.size) → K (a.put o.dst v') w') : o.wp P a w K Q := by
  obtain ⟨v', w', hr, h2, h3, h4⟩ := run_app (ty := o.type) (c := c) hel hown R h1 hm hbase
  unfold Oper.wp execOp
  simp only [ho, resolve, invoke, builtin, Sem.run_bind, Sem.run_pure, Result.andThen_ok, List.map_toArray, List.map_cons, List.map_nil, hs, hx, hr]
  exact h v' w' h2 (grown_own hB hown hb0 h3) h3 h4
theorem wpList_app {ops : Array Oper} {rest : List Oper} {o : Oper} {a : Act} {Q : Exit → Act → World → Prop} {t e : TypeId} {z : Value} {size bytes base : Nat} (hel : El P t e z size bytes) (hgd : o.guard = none) (s x : Operand)
    (ho : o.op = .call { callee := .builtin .append, args := #[s, x], argTypes := #[t, t] }) {v : Value} {n : Nat} {xs : List Value} (hs : a.eval s = v) (hown : w.ownsRow base e size v n xs) {A : Option Addr} {m c : Nat} {news : List Value} (hx : a.eval x = .slice A m c) (R : Rd w size A m news) (h1 : ∀ u ∈ news, u.oneCell' = true) (hm : n + m ≤ 16777216)
    {w0 : World} (hB : Below w0.heap.size w0 w) (hb0 : w0.heap.size ≤ base) (hbase : base ≤ w.heap.size)
    (h : ∀ v' w', w'.ownsRow base e size v' (n + m) (xs ++ news) → Below w0.heap.size w0 w' → w.grownBy w' v.ownBlock → (v'.ownBlock = v.ownBlock ∨ v'.ownBlock = some w.heap.size) → wpList P ops Q rest (a.put o.dst v') w') : wpList P ops Q (o :: rest) a w :=
  wpList_plain hgd fun _ hK => wp_app hel s x ho hs hown hx R h1 hm hB hb0 hbase fun v' w' h2 h3 h4 h5 => hK _ _ (h v' w' h2 h3 h4 h5)
theorem wpList_app_g {ops : Array Oper} {rest : List Oper} {o : Oper} {a : Act} {Q : Exit → Act → World → Prop} {t e : TypeId} {z : Value} {size bytes base : Nat} (hel : El P t e z size bytes) (hw : Region.wanted o (yielded ops a.tmps) = true) (s x : Operand)
    (ho : o.op = .call { callee := .builtin .append, args := #[s, x], argTypes := #[t, t] }) {v : Value} {n : Nat} {xs : List Value} (hs : a.eval s = v) (hown : w.ownsRow base e size v n xs) {A : Option Addr} {m c : Nat} {news : List Value} (hx : a.eval x = .slice A m c) (R : Rd w size A m news) (h1 : ∀ u ∈ news, u.oneCell' = true) (hm : n + m ≤ 16777216)
    {w0 : World} (hB : Below w0.heap.size w0 w) (hb0 : w0.heap.size ≤ base) (hbase : base ≤ w.heap.size)
    (h : ∀ v' w', w'.ownsRow base e size v' (n + m) (xs ++ news) → Below w0.heap.size w0 w' → w.grownBy w' v.ownBlock → (v'.ownBlock = v.ownBlock ∨ v'.ownBlock = some w.heap.size) → wpList P ops Q rest (a.put o.dst v') w') : wpList P ops Q (o :: rest) a w :=
  BigFrame.wpList_want hw fun _ hK => wp_app hel s x ho hs hown hx R h1 hm hB hb0 hbase fun v' w' h2 h3 h4 h5 => hK _ _ (h v' w' h2 h3 h4 h5)
theorem step_app {ops : Array Oper} {o : Oper} {a : Act} {K : Act → World → Prop} {Q : Exit → Act → World → Prop} {E : Prop} {t e : TypeId} {z : Value} {size bytes base : Nat} (hel : El P t e z size bytes) (hgd : o.guard = none) (s x : Operand)
    (ho : o.op = .call { callee := .builtin .append, args := #[s, x], argTypes := #[t, t] }) {v : Value} {n : Nat} {xs : List Value} (hs : a.eval s = v) (hown : w.ownsRow base e size v n xs) {A : Option Addr} {m c : Nat} {news : List Value} (hx : a.eval x = .slice A m c) (R : Rd w size A m news) (h1 : ∀ u ∈ news, u.oneCell' = true) (hm : n + m ≤ 16777216)
    {w0 : World} (hB : Below w0.heap.size w0 w) (hb0 : w0.heap.size ≤ base) (hbase : base ≤ w.heap.size)
    (h : ∀ v' w', w'.ownsRow base e size v' (n + m) (xs ++ news) → Below w0.heap.size w0 w' → w.grownBy w' v.ownBlock → (v'.ownBlock = v.ownBlock ∨ v'.ownBlock = some w.heap.size) → K (a.put o.dst v') w') : if Region.wanted o (yielded ops a.tmps) = true then Oper.wp P o a w K Q else E := by
  have hw : Region.wanted o (yielded ops a.tmps) = true := by simp [Region.wanted, hgd]
  rw [if_pos hw]
  exact wp_app hel s x ho hs hown hx R h1 hm hB hb0 hbase h
/-- a new row of zeros: 'append(nil, make([]T, n)...)' -/
theorem made_own {t tn ty e : TypeId} {z : Value} {bytes : Nat} (hel : El P t e z 1 bytes) {kn k : IntKind} (htn : P.underlying tn = some (.int kn)) (n : Nat) (h0 : 0 < n) (hn : n ≤ 16777216) :
    ∃ c cs, (Builtin.append_ #[t, tn] ty #[.slice none 0 0, .int k n]).run P w = .ok (.slice (some ⟨w.heap.size, 0, none⟩) n c) (w.drew.alloc (.cells cs e)) ∧ n ≤ c ∧ c ≤ maxLen ∧ cs.size = c := by
  obtain ⟨ht, hz, h0', hb, i, hi, hiz, hsz, hby⟩ := hel
  have hbound : n * i.bytes ≤ 281474976710656 := by
    rw [hby]; have := Nat.mul_le_mul hn hb; omega
  refine ⟨_, _, Lib.run_append_nil_zeros w t tn ty e i z k kn ht htn hi hiz n h0 (by omega) (by omega) hbound, grownCap_ge .., grownCap_le_maxLen _ _ _ _ (max_of (by omega)), ?_⟩
  have := grownCap_ge w n 0 e
  simp only [Array.size_append, size_zeroCells, hz]
  omega
end
/-- an element of a row of the call's own is set -/
theorem own_set {w : World} {base e n c g i : Nat} {v : Value} {xs : List Value} (h : w.ownsRow base e 1 (.slice (some ⟨g, 0, none⟩) n c) n xs) (hi : i < n) : (w.setCell ⟨g, i, none⟩ v).ownsRow base e 1 (.slice (some ⟨g, 0, none⟩) n c) n (xs.set i v) := by
  obtain ⟨hl, h2⟩ := h
  refine ⟨by simpa using hl, ?_⟩
  rcases h2 with ⟨h0, _⟩ | ⟨g', cap, cur, hv, hbg, hh, hnc, hcm, hcs, htake⟩
  · cases h0
  · injection hv with e1 e2 e3
    injection e1 with e1
    injection e1 with e1
    subst e1 e3
    refine .inr ⟨g, c, cur.setIfInBounds i v, rfl, hbg, ?_, hnc, hcm, by simpa using hcs, ?_⟩
    · simp [World.setCell, Array.getElem?_modify, hh]
    · rw [← htake, Array.toList_setIfInBounds, List.take_set]
/-- its cell, and that it may be written -/
theorem own_cell {w : World} {base e n c g i : Nat} {v : Value} {xs : List Value} (h : w.ownsRow base e 1 (.slice (some ⟨g, 0, none⟩) n c) n xs) (hv : xs[i]? = some v) : w.cell? ⟨g, i, none⟩ = some v ∧ w.frozen? ⟨g, i, none⟩ = false ∧ base ≤ g ∧ g < w.heap.size := by
  have h1 := h.cells (g := g) rfl i v hv
  have e : (⟨g, 0, none⟩ : Addr).add i = ⟨g, i, none⟩ := by unfold Addr.add; split <;> simp_all
  rw [e] at h1
  refine ⟨h1, ?_⟩
  rcases h.2 with ⟨h0, _⟩ | ⟨g', cap, cur, hv, hbg, hh, _⟩
  · cases h0
  · injection hv with e1 e2 e3
    injection e1 with e1
    injection e1 with e1
    subst e1
    exact ⟨by simp [World.frozen?, hh], hbg, blk_lt hh⟩
/-- a block that is known whole is the call's own -/
theorem own_blk {w : World} {base g e size n : Nat} {cs : List Value} (h : w.heap[g]? = some (.cells cs.toArray e (0, 0))) (hn : cs.length = n * size) (hm : n ≤ 16777216) (hb : base ≤ g) : w.ownsRow base e size (.slice (some ⟨g, 0, none⟩) n n) n cs :=
  ⟨hn, .inr ⟨g, n, cs.toArray, rfl, hb, h, Nat.le_refl _, max_of (by omega), by simpa using hn, by rw [← hn]; exact List.take_length⟩⟩
/-- 'make([]T, n)' -/
theorem run_mk {P : Program} {t e : TypeId} {z : Value} {bytes : Nat} (hel : El P t e z 1 bytes) (hz : z.cells = #[z]) (kl kc : IntKind) (n : Nat) (hn : n ≤ 16777216) (w : World) :
    (Instr.makeSlice t (.int kl (n : Int)) (.int kc (n : Int))).run P w = .ok (.slice (some ⟨w.heap.size, 0, none⟩) n n) (w.alloc (.cells (List.replicate n z).toArray e)) := by
  obtain ⟨ht, _, h0, hb, i, hi, hiz, hsz, hby⟩ := hel
  have hbound : (i.bytes : Int) * (n : Int) ≤ 281474976710656 := by
    rw [hby, Int.mul_comm]
    have := Nat.mul_le_mul hn hb
    have h2 : ((n * bytes : Nat) : Int) ≤ 281474976710656 := by omega
    rwa [Int.natCast_mul] at h2
  have hr := run_make w t e i z ht hi hiz kl kc n n (by omega) (by omega) hbound (by omega)
  rw [hr]
  simp only [Int.toNat_natCast, hsz, Nat.mul_one]
  have : madeCells z.cells n = (List.replicate n z).toArray := by
    rw [hz]
    apply Array.ext
    · simp [madeCells]
    · intro j h1 h2
      simp [madeCells, Nat.mod_one]
  rw [this]
/-- an element of an array of integers -/
theorem run_index_arr {P : Program} {t e : TypeId} {n : Nat} {k kk : IntKind} {cs : Array Value} (ht : P.underlying t = some (.array n e)) (he : P.underlying e = some (.int kk)) (hs : (P.info? e).map (·.size) = some 1) (i : Nat) (hi : i < n) {v : Value} (hv : cs[i]? = some v) (w : World) :
    (Instr.index t (.agg cs) (.int k (i : Int))).run P w = .ok v w := by
  have h1 : (0 : Int) ≤ (i : Int) := by omega
  obtain ⟨j, hj, hj1⟩ : ∃ j, P.info? e = some j ∧ j.size = 1 := by
    rcases h : P.info? e with _ | j
    · rw [h] at hs; simp at hs
    · rw [h] at hs; exact ⟨j, rfl, by simpa using hs⟩
  simp [Instr.index, asIntOf, run_underlying ht, run_underlying he, Go.sizeOf, typeInfo, hj, hj1, part, isAgg, hi, hv]
/-- a literal slice is the call's own -/
theorem own_lit (w : World) {base e size n : Nat} {cs : Array Value} {xs : List Value} (hx : cs.toList = xs) (hn : xs.length = n * size) (hm : n ≤ 16777216) (hb : base ≤ w.heap.size) : (w.alloc (.cells cs e)).ownsRow base e size (.slice (some ⟨w.heap.size, 0, none⟩) n n) n xs := by
  subst hx
  refine ⟨hn, .inr ⟨w.heap.size, n, cs, rfl, hb, heap_alloc_new _ _, Nat.le_refl _, max_of (by omega), by simpa using hn, ?_⟩⟩
  rw [← hn]; exact List.take_length
end Lw
set_option linter.unusedVariables false
namespace Lw
open Go Go.RowKit
/-- the two blocks that the iterator reads lie as they lay -/
def KB (Bs Ba : Nat) (W W' : World) : Prop := W'.heap[Bs]? = W.heap[Bs]? ∧ W'.heap[Ba]? = W.heap[Ba]?
theorem KB.refl (Bs Ba : Nat) (W : World) : KB Bs Ba W W := ⟨rfl, rfl⟩
theorem KB.trans {Bs Ba : Nat} {A B C : World} (h : KB Bs Ba A B) (k : KB Bs Ba B C) : KB Bs Ba A C := ⟨k.1.trans h.1, k.2.trans h.2⟩
theorem cell_of_blk {W W' : World} (p : Addr) (h : W'.heap[p.block]? = W.heap[p.block]?) : W'.cell? p = W.cell? p := by unfold World.cell?; rw [h]
theorem KB.cells {Bs Ba : Nat} {W W' : World} (h : KB Bs Ba W W') (p : Addr) (hp : p.block = Bs ∨ p.block = Ba) : W'.cell? p = W.cell? p := by
  refine cell_of_blk p ?_
  rcases hp with e | e <;> rw [e]
  · exact h.1
  · exact h.2
theorem KB.put {Bs Ba : Nat} {w : World} (h1 : Bs < w.heap.size) (h2 : Ba < w.heap.size) (W : World) (l : Nat) (o o' : Obj) (hl : w.heap.size ≤ l) (h : W.heap[l]? = some o) (_ : o.isCells = false) (_ : o.isWalk = false) : KB Bs Ba W (W.putObj l o') := by
  have hlt := (Array.getElem?_eq_some_iff.1 h).1
  have g := grownBy_putObj' W l o'
  exact ⟨g.block Bs (by omega) (fun e => by cases e; omega), g.block Ba (by omega) (fun e => by cases e; omega)⟩
theorem KB.below {Bs Ba B : Nat} {W W' : World} (h : Below B W W') (h1 : Bs < B) (h2 : Ba < B) : KB Bs Ba W W' := ⟨h.block Bs h1, h.block Ba h2⟩
/-- what has come when m are left -/
def bks {α : Type} (xs : List α) (m : Nat) : List (Nat × α) := ((xs.zipIdx.drop m).reverse).map fun x => (x.2, x.1)
theorem bks_top {α : Type} (xs : List α) : bks xs xs.length = [] := by simp [bks]
theorem bks_length {α : Type} (xs : List α) (m : Nat) : (bks xs m).length = xs.length - m := by simp [bks]
theorem bks_succ {α : Type} {xs : List α} {m : Nat} (h : m < xs.length) : bks xs m = bks xs (m + 1) ++ [(m, xs[m])] := by
  unfold bks
  rw [List.drop_eq_getElem_cons (by simpa using h), List.reverse_cons, List.map_append]
  simp
theorem bks_snd {α : Type} : ∀ (xs : List α), (bks xs 0).map (·.2) = xs.reverse := by
  intro xs
  unfold bks
  rw [List.drop_zero, List.map_map, List.map_reverse]
  congr 1
  exact List.zipIdx_map_fst 0 xs
end Lw
namespace Go.Proofs.Ytkjcpjbdckbjcaa
open Go.RowKit Go.Shelf
attribute [local go_sem] Oper.semAt_some
set_option maxRecDepth 100000 in
set_option maxHeartbeats 2000000 in
theorem bkw_ints_run {α : Type} (enc : α → Value) (xs : List α) (Bs Ba len cap : Nat) (ad : Addr) (hl : xs.length = len) (hlen : len ≤ 1048576) (hBa : ad.block = Ba) (n l : Nat) (hn : 1 ≤ n) (J Jx : List (Nat × α) → World → Prop)
    (hY : ∀ pre x W, J pre W → pre.length < len → YieldAt Fence.wide (n - 1) Try.prog l #[.int .i64 (x.1 : Int), enc x.2] W fun e W' =>
      (e = .returned (.bool true) ∧ J (pre ++ [x]) W' ∧ Lw.KB Bs Ba W W') ∨ (e = .returned (.bool false) ∧ Jx (pre ++ [x]) W'))
    (W : World) (hBs : W.cell? ⟨Bs, 0, none⟩ = some (.slice (some ad) len cap)) (hc : ∀ j (h : j < xs.length), W.cell? (ad.add j) = some (enc xs[j])) (h0 : J [] W) :
    CallsIn Fence.wide n Try.prog 54 #[.func (.yield l) #[] #[], .pointer (some ⟨Bs, 0, none⟩)] W fun e W' => (∃ v, e = .returned v) ∧
      ((∃ ys, ys = Lw.bks xs 0 ∧ J ys W') ∨ (∃ pre, (∃ m, m ≤ len ∧ pre = Lw.bks xs m) ∧ Jx pre W')) := by
  refine callsIn_of_wp Try.func54 rfl trivial ?_ rfl
  simp only [Try.ntmps54, List.size_toArray, List.length_cons, List.length_nil, Nat.reduceAdd, Nat.reduceSub, Array.replicate_succ, Array.replicate_zero, List.push_toArray, List.append_toArray, List.nil_append, List.cons_append]
  gi_wp2
  gi_loopw [3] (fun i wr => ∃ m : Nat, m ≤ len ∧ i = .int .i64 ((m : Int) - 1) ∧ J (Lw.bks xs m) wr ∧ Lw.KB Bs Ba W wr) (fun i _ => (intOf i + 1).toNat)
  case atStart => exact ⟨len, Nat.le_refl _, by go_num, by rw [← hl, Lw.bks_top]; exact h0, Lw.KB.refl _ _ _⟩
  case round =>
    obtain ⟨m, hm, rfl, hJs, hk⟩ := hrel
    have hBs2 := (hk.cells ⟨Bs, 0, none⟩ (.inl rfl)).trans hBs
    cases m with
    | zero =>
      gi_wp2
      go_end0
      exact ⟨⟨_, rfl⟩, .inl ⟨_, rfl, hJs⟩⟩
    | succ m =>
      have hmx : m < xs.length := by omega
      have hcx := (hk.cells (ad.add m) (.inr (by rw [Lw.add_block]; exact hBa))).trans (hc m hmx)
      have hi : ((m + 1 : Nat) : Int) - 1 = (m : Int) := by omega
      rw [hi]
      obtain ⟨fn, tmps, assign, body, hy, hR⟩ := hY _ (m, xs[m]) wr hJs (by rw [Lw.bks_length]; omega)
      dsimp only at hy
      obtain ⟨v, hv⟩ : ∃ v, enc xs[m] = v := ⟨_, rfl⟩
      rw [hv] at hcx hy
      have hml : (m : Int) < (len : Int) := by omega
      clear hv hc
      gi_wp2
      refine hR.mono ?_
      rintro e W3 (⟨rfl, hJ3, hk3⟩ | ⟨rfl, hJx3⟩)
      · gi_wp2
        go_roundw
        case rel => exact ⟨m, by omega, by go_num, by rw [Lw.bks_succ hmx]; exact hJ3, hk.trans hk3⟩
        case measure => simp [intOf] <;> omega
      · gi_wp2
        refine bodyPost_ret (results_none rfl _ _ _) rfl ?_
        exact ⟨⟨_, rfl⟩, .inr ⟨_, ⟨m, by omega, (Lw.bks_succ hmx).symm⟩, hJx3⟩⟩
set_option maxRecDepth 100000 in
theorem bkw_ints_nil {α : Type} (Bs : Nat) (n l : Nat) (J : List (Nat × α) → World → Prop) (W : World) (A : Option Addr) (cap : Nat) (hBs : W.cell? ⟨Bs, 0, none⟩ = some (.slice A 0 cap)) (h0 : J [] W) :
    CallsIn Fence.wide n Try.prog 54 #[.func (.yield l) #[] #[], .pointer (some ⟨Bs, 0, none⟩)] W fun e W' => (∃ v, e = .returned v) ∧ J [] W' := by
  refine callsIn_of_wp Try.func54 rfl trivial ?_ rfl
  simp only [Try.ntmps54, List.size_toArray, List.length_cons, List.length_nil, Nat.reduceAdd, Nat.reduceSub, Array.replicate_succ, Array.replicate_zero, List.push_toArray, List.append_toArray, List.nil_append, List.cons_append]
  gi_wp2
  gi_loopw [3] (fun i wr => i = .int .i64 (-1) ∧ J [] wr) (fun _ _ => 0)
  case atStart => exact ⟨by first | rfl | go_num, h0⟩
  case round =>
    obtain ⟨rfl, hJs⟩ := hrel
    gi_wp2
    go_end0
    exact ⟨⟨_, rfl⟩, hJs⟩
theorem bkw_ints_stops {α : Type} (enc : α → Value) (xs : List α) (Bs Ba len cap : Nat) (A : Option Addr) (hlen : len ≤ 1048576) (n : Nat) (hn : 1 ≤ n) (w : World) (hBs : Bs < w.heap.size) (hBa : Ba < w.heap.size)
    (hs : w.cell? ⟨Bs, 0, none⟩ = some (.slice A len cap)) (R : Lw.Rd w 1 A len (xs.map enc)) (hA : 0 < len → ∀ ad, A = some ad → ad.block = Ba) :
    SeqStopsK Fence.wide n Try.prog 54 #[.pointer (some ⟨Bs, 0, none⟩)] (fun x : Nat × α => #[Value.int .i64 (x.1 : Int), enc x.2]) (Lw.KB Bs Ba) (fun ys => ys = Lw.bks xs 0)
      (fun pre => ∃ m, m ≤ len ∧ pre = Lw.bks xs m) len w := fun l J Jx W hW _ _ hY h0 => by
  have hs' := (hW.cell (p := ⟨Bs, 0, none⟩) hBs).trans hs
  have hl : xs.length = len := by have := R.1; simpa using this
  rcases Nat.eq_zero_or_pos len with rfl | hp
  · have hx : xs = [] := List.eq_nil_of_length_eq_zero hl
    subst hx
    exact (bkw_ints_nil Bs n l J W A cap hs' h0).mono fun e W' ⟨he, hj⟩ => ⟨he, .inl ⟨_, rfl, hj⟩⟩
  · obtain ⟨ad, rfl, _, hc⟩ := R.2 hp
    exact bkw_ints_run enc xs Bs Ba len cap ad hl hlen (hA hp ad rfl) n l hn J Jx hY W hs' (fun j hj => (hW.cell (p := ad.add j) (by rw [Lw.add_block, hA hp ad rfl]; exact hBa)).trans (hc j _ (by simp [hj]))) h0
theorem bkw_ints (A : Option Addr) (len cap : Nat) (w : World) :
    Calls Try.prog 36 #[.slice A len cap] w fun e w' => e = .returned (.func (.func 54) #[] #[.pointer (some ⟨w.heap.size, 0, none⟩)]) ∧ w.alloc (.cells #[.slice A len cap] 43) = w' := by
  go_enter Try.func36, Try.ntmps36
  go_wp2
  go_ret
  exact ⟨rfl, rfl⟩

end Go.Proofs.Ytkjcpjbdckbjcaa
namespace Lw
open Go
/-- a number as so many bytes, the lowest first -/
def littleL : Int → Nat → List Int
  | _, 0 => []
  | n, k + 1 => n % 256 :: littleL (n / 256) k
theorem littleL_length : ∀ (k : Nat) (n : Int), (littleL n k).length = k
  | 0, _ => rfl
  | k + 1, n => by simp [littleL, littleL_length k]
/-- numbers that are bytes -/
def Byt (bs : List Int) : Prop := ∀ b ∈ bs, 0 ≤ b ∧ b < 256
theorem Byt.app {a b : List Int} (h : Byt a) (g : Byt b) : Byt (a ++ b) := by
  intro x hx; rcases List.mem_append.1 hx with hx | hx
  · exact h x hx
  · exact g x hx
theorem littleL_byt : ∀ (k : Nat) (n : Int), Byt (littleL n k)
  | 0, _ => by intro x hx; simp [littleL] at hx
  | k + 1, n => by
    intro x hx
    simp only [littleL, List.mem_cons] at hx
    rcases hx with rfl | hx
    · omega
    · exact littleL_byt k _ x hx
/-- the sum of a row of bytes; of a text with its length -/
def hsumL (bs : List Int) : Int := bs.foldl hstep 0
def padL (bs : List Int) : List Int := bs ++ littleL bs.length 4
def hsum (bs : List Int) : Int := hsumL (padL bs)
theorem hsumL_snoc (bs : List Int) (b : Int) : hsumL (bs ++ [b]) = hstep (hsumL bs) b := by simp [hsumL]
theorem hsumL_bd (bs : List Int) : 0 ≤ hsumL bs ∧ hsumL bs < 65536 := by
  rcases List.eq_nil_or_concat bs with rfl | ⟨l, b, rfl⟩
  · simp [hsumL]
  · rw [List.concat_eq_append, hsumL_snoc]; exact hstep_bd _ _
theorem hsum_bd (bs : List Int) : 0 ≤ hsum bs ∧ hsum bs < 65536 := hsumL_bd _
theorem padL_length (bs : List Int) : (padL bs).length = bs.length + 4 := by simp [padL, littleL_length]
theorem padL_byt {bs : List Int} (h : Byt bs) : Byt (padL bs) := h.app (littleL_byt _ _)
theorem intsV_app (k : IntKind) (a b : List Int) : intsV k (a ++ b) = intsV k a ++ intsV k b := by simp [intsV]
theorem littleL_next {n : Int} {k i : Nat} {pre d : List Int} (h : pre ++ littleL n (k - i) = d) (hi : i < k) : (pre ++ [n % 256]) ++ littleL (n / 256) (k - (i + 1)) = d := by
  rw [← h, show k - i = (k - (i + 1)) + 1 by omega]; simp [littleL]
theorem hs_take {bs : List Int} {k : Nat} (hk : k < bs.length) : hsumL (bs.take (k + 1)) = hstep (hsumL (bs.take k)) bs[k] := by
  rw [List.take_succ_eq_append_getElem hk, hsumL_snoc]
end Lw
set_option linter.unusedVariables false
set_option linter.unusedSimpArgs false
namespace Go.Proofs.Ytkjcpjbdckbjcaa
open Go.RowKit
theorem elByte : Lw.El Try.prog 31 5 (.int .u8 0) 1 1 := Lw.El.mk' Try.underlying31 (by kernel_rfl) rfl (by decide) (by decide)
set_option maxHeartbeats 1000000 in
theorem hash_Little (n : Int) (k : Nat) (w : World) (h1 : 0 ≤ n) (h2 : n ≤ 4611686018427387904) (hk : k ≤ 16) :
    Calls Try.prog 65 #[.int .i64 n, .int .i64 (k : Int)] w (Lw.OwnRes 5 1 (Lw.intsV .u8 (Lw.littleL n k)) k w) := by
  obtain ⟨d, hd⟩ : ∃ d, Lw.littleL n k = d := ⟨_, rfl⟩
  have D := Lib.hid hd
  rw [hd]
  clear hd
  go_enter Try.func65, Try.ntmps65
  go_wp2
  go_loopw [0, 5, 7] (fun x l j wr => ∃ (m : Int) (i : Nat) (pre : List Int), x = .int .i64 m ∧ j = .int .i64 (i : Int) ∧ 0 ≤ m ∧ m ≤ 4611686018427387904 ∧ i ≤ k ∧ Hid (pre ++ Lw.littleL m (k - i) = d) ∧ pre.length = i ∧ wr.ownsRow w.heap.size 5 1 l i (Lw.intsV .u8 pre) ∧ Below w.heap.size w wr)
    (fun _ _ j _ => k - (intOf j).toNat)
  case atStart => exact ⟨n, 0, [], rfl, rfl, h1, h2, Nat.zero_le _, by simpa using D, rfl, World.ownsRow_nil _ _ _ _, Below.refl _ _⟩
  case round =>
    obtain ⟨m, i, pre, rfl, rfl, m1, m2, i1, H, hl, own, hB⟩ := hrel
    have OWN := Lib.hid own
    have HL := Lib.hid hl
    clear own hl
    have hsz := hB.size
    by_cases hlt : i < k
    · have N := Lib.hid (Lw.littleL_next H.out hlt)
      go_wp2_with (at_builtin; refine Lw.wpList_app elByte rfl _ _ rfl rfl (OWN.out.alloc _) rfl (by first | exact Lw.Rd.nil _ _ _ | exact Lw.Rd.lit (Lw.blk_new' (by simp) _ _) rfl rfl | exact Lw.Rd.lit (Lw.blk_alloc (Lw.blk_new' (by simp) _ _) _) rfl rfl) (Lw.one1 _ _) (by omega) (Lw.balloc hB _) (Nat.le_refl _) (by simp; omega) ?_; intro v1 w1 own1 hb1 _ _)
      have O1 := Lib.hid own1
      clear own1
      go_wp2
      go_roundw
      case rel => exact ⟨m / 256, i + 1, pre ++ [m % 256], rfl, by go_num, by omega, by omega, by omega, N, by rw [List.length_append, HL.out]; rfl, by rw [Lw.intsV_app]; exact O1.out, hb1⟩
      case measure => simp [intOf]; omega
    · go_wp2
      go_ret
      have e : pre = d := by rw [← H.out, show k - i = 0 by omega]; simp [Lw.littleL]
      have hi : i = k := by omega
      subst e hi
      obtain ⟨A, c, rfl, _⟩ := Lw.ownsForm OWN.out
      exact ⟨A, c, rfl, OWN.out, hB⟩
end Go.Proofs.Ytkjcpjbdckbjcaa
namespace Lw
open Go Go.RowKit
/-- 'append(nil, make([]T, n)...)' at the operation, for a walk that says what became of the world -/
theorem wpList_made {P : Program} {w : World} {ops : Array Oper} {rest : List Oper} {o : Oper} {a : Act} {Q : Exit → Act → World → Prop} {t tn e : TypeId} {z : Value} {bytes : Nat} (hel : El P t e z 1 bytes) {kn k : IntKind} (htn : P.underlying tn = some (.int kn)) (hgd : o.guard = none) (s x : Operand)
    (ho : o.op = .call { callee := .builtin .append, args := #[s, x], argTypes := #[t, tn] }) (hs : a.eval s = .slice none 0 0) {n : Nat} (hx : a.eval x = .int k (n : Int)) (h0 : 0 < n) (hn : n ≤ 16777216)
    (h : ∀ c cs, n ≤ c → c ≤ maxLen → cs.size = c → wpList P ops Q rest (a.put o.dst (.slice (some ⟨w.heap.size, 0, none⟩) n c)) (w.drew.alloc (.cells cs e))) : wpList P ops Q (o :: rest) a w := by
  obtain ⟨c, cs, hr, h1, h2, h3⟩ := made_own (w := w) (ty := o.type) hel htn (k := k) n h0 hn
  exact Lib.wpList_append_run w hgd s x t tn ho _ _ hs hx _ _ hr (h c cs h1 h2 h3)
end Lw
set_option linter.unusedVariables false
set_option linter.unusedSimpArgs false
namespace Go.Proofs.Ytkjcpjbdckbjcaa
open Go.RowKit
set_option maxHeartbeats 1000000 in
theorem bytes_grow (n : Nat) (w : World) (hn : n ≤ 16777216) :
    Calls Try.prog 73 #[.slice none 0 0, .int .i64 (n : Int)] w fun e w' => ∃ v, e = .returned v ∧ w'.ownsRow w.heap.size 5 1 v 0 [] ∧ Below w.heap.size w w' := by
  by_cases h0 : 0 < n
  · go_enter Try.func73, Try.ntmps73
    go_wp2_with (at_builtin; refine Lw.wpList_made elByte Try.underlying3 rfl _ _ rfl rfl rfl h0 hn ?_; intro c cs hc1 hc2 hc3)
    go_ret
    refine ⟨_, rfl, ⟨by simp, .inr ⟨w.heap.size, c, cs, rfl, Nat.le_refl _, heap_alloc_new _ _, Nat.zero_le _, hc2, by omega, by simp⟩⟩, Lw.balloc (Below.drew (Below.refl _ _)) _⟩
  · have hn0 : n = 0 := by omega
    subst hn0
    go_enter Try.func73, Try.ntmps73
    go_wp2
    go_ret
    exact ⟨_, rfl, World.ownsRow_nil _ _ _ _, Below.refl _ _⟩
set_option maxHeartbeats 2000000 in
theorem bytes_cat (A A1 A2 : Option Addr) (c c1 c2 n1 n2 : Nat) (xs ys : List Value) (w : World) (R : Lw.Rd w 1 A 2 [.slice A1 n1 c1, .slice A2 n2 c2]) (R1 : Lw.Rd w 1 A1 n1 xs) (R2 : Lw.Rd w 1 A2 n2 ys) (o1 : ∀ u ∈ xs, u.oneCell' = true) (o2 : ∀ u ∈ ys, u.oneCell' = true) (hn : n1 + n2 ≤ 16777216) :
    Calls Try.prog 67 #[.slice A 2 c] w (Lw.OwnRes 5 1 (xs ++ ys) (n1 + n2) w) := by
  obtain ⟨ad, rfl, had, q0⟩ := R.at1 (k := 0) (by decide) rfl
  obtain ⟨ad', e', _, q1⟩ := R.at1 (k := 1) (by decide) rfl
  obtain rfl : ad = ad' := by injection e'
  rw [Lw.add_zero'] at q0
  rw [show ad.add 1 = ⟨ad.block, ad.off + 1, none⟩ from Lw.add_succ' ad 0] at q1
  clear R e'
  go_enter Try.func67, Try.ntmps67
  go_wp2
  go_loop [3, 5, 11] (fun s l i => ∃ k : Nat, i = .int .i64 (k : Int) ∧ k ≤ 2 ∧ ∃ m : Nat, s = .int .i64 (m : Int) ∧ ((k = 0 ∧ m = 0) ∨ (k = 1 ∧ n1 = m) ∨ (k = 2 ∧ n1 + n2 = m))) (fun _ _ i => 2 - (intOf i).toNat)
  case atStart => exact ⟨0, rfl, by omega, 0, rfl, .inl ⟨rfl, rfl⟩⟩
  case round =>
    obtain ⟨k, rfl, k1, m, rfl, h⟩ := hrel
    rcases h with ⟨rfl, rfl⟩ | ⟨rfl, rfl⟩ | ⟨rfl, rfl⟩
    · go_wp2
      go_round
      case rel => exact ⟨1, rfl, by omega, n1, by simp, .inr (.inl ⟨rfl, rfl⟩)⟩
      case measure => simp [intOf]
    · go_wp2
      go_round
      case rel => exact ⟨2, rfl, by omega, n1 + n2, by go_num, .inr (.inr ⟨rfl, rfl⟩)⟩
      case measure => simp [intOf]
    · go_wp2_with (go_at_call 73; refine (bytes_grow (n1 + n2) _ hn).mono ?_; rintro e w1 ⟨v, rfl, own1, hb⟩)
      go_loopw [6, 8, 27] (fun l x i wr => ∃ k : Nat, i = .int .i64 (k : Int) ∧ k ≤ 2 ∧ ∃ m zs, ((k = 0 ∧ m = 0 ∧ zs = []) ∨ (k = 1 ∧ n1 = m ∧ xs = zs) ∨ (k = 2 ∧ n1 + n2 = m ∧ xs ++ ys = zs)) ∧ wr.ownsRow w.heap.size 5 1 l m zs ∧ Below w.heap.size w wr) (fun _ _ i _ => 2 - (intOf i).toNat)
      case atStart => exact ⟨0, rfl, by omega, 0, [], .inl ⟨rfl, rfl, rfl⟩, own1, hb⟩
      case round =>
        clear own1 hb
        obtain ⟨k, rfl, k1, m, zs, h, own, hB⟩ := hrel
        have hsz := hB.size
        have p0 := (hB.cell (p := ad) had).trans q0
        have p1 := (hB.cell (p := ⟨ad.block, ad.off + 1, none⟩) had).trans q1
        rcases h with ⟨rfl, rfl, rfl⟩ | ⟨rfl, rfl, rfl⟩ | ⟨rfl, rfl, rfl⟩
        · have OWN := Lib.hid own
          clear own
          go_wp2_with (at_builtin; refine Lw.wpList_app elByte rfl _ _ rfl rfl OWN.out rfl (R1.below (Nat.le_refl _) hB) o1 (by omega) hB (Nat.le_refl _) hsz ?_; intro v1 w2 own1 hb1 _ _)
          have O1 := Lib.hid own1
          clear own1
          go_wp2
          go_roundw
          case rel => exact ⟨1, rfl, by omega, n1, xs, .inr (.inl ⟨rfl, rfl, rfl⟩), by simpa using O1.out, hb1⟩
          case measure => simp [intOf]
        · have OWN := Lib.hid own
          clear own
          go_wp2_with (at_builtin; refine Lw.wpList_app elByte rfl _ _ rfl rfl OWN.out rfl (R2.below (Nat.le_refl _) hB) o2 (by omega) hB (Nat.le_refl _) hsz ?_; intro v1 w2 own1 hb1 _ _)
          have O1 := Lib.hid own1
          clear own1
          go_wp2
          go_roundw
          case rel => exact ⟨2, rfl, by omega, n1 + n2, xs ++ ys, .inr (.inr ⟨rfl, rfl, rfl⟩), O1.out, hb1⟩
          case measure => simp [intOf]
        · have OWN := Lib.hid own
          clear own
          go_wp2
          go_ret
          obtain ⟨B, c', rfl, _⟩ := Lw.ownsForm OWN.out
          exact ⟨B, c', rfl, OWN.out, hB⟩

set_option maxHeartbeats 1000000 in
theorem hash_padded (A : Option Addr) (n c : Nat) (bs : List Int) (w : World) (R : Lw.Rd w 1 A n (Lw.intsV .u8 bs)) (hm : n ≤ 1048576) :
    Calls Try.prog 71 #[.slice A n c] w (Lw.OwnRes 5 1 (Lw.intsV .u8 (Lw.padL bs)) (n + 4) w) := by
  have R := Lib.hid R
  have l1 : bs.length = n := by have := R.out.1; simpa [Lw.intsV] using this
  have E : Hid (Lw.intsV .u8 (Lw.padL bs) = Lw.intsV .u8 bs ++ Lw.intsV .u8 (Lw.littleL (n : Int) 4)) := by rw [← l1]; exact Lw.intsV_app _ _ _
  clear l1
  go_enter Try.func71, Try.ntmps71
  go_wp2_with (first | (go_at_call 65; refine (hash_Little n 4 _ (by omega) (by omega) (by omega)).mono ?_; rintro e w1 ⟨A1, c1, rfl, own1, hb1⟩) | (go_at_call 67; refine (bytes_cat _ A A1 _ c c1 n 4 _ _ _ (by first | exact Lw.Rd.nil _ _ _ | exact Lw.Rd.lit (Lw.blk_new' (by simp) _ _) rfl rfl | exact Lw.Rd.lit (Lw.blk_alloc (Lw.blk_new' (by simp) _ _) _) rfl rfl) ((R.out.below (Nat.le_refl _) hb1).alloc _) ((Lw.Rd.of_own own1).alloc _) (Lw.intsV_one _ _) (Lw.intsV_one _ _) (by omega)).mono ?_; rintro e w2 ⟨A2, c2, rfl, own2, hb2⟩))
  go_ret
  rw [E.out]
  exact ⟨A2, c2, rfl, Lw.ownsBase own2 (by have := hb1.size; simp; omega), by (repeat (first | exact Below.refl _ _ | refine Lw.bt ?_ (by assumption) | refine Lw.balloc ?_ _ | refine Lw.bdrewN ?_ _ | refine Below.drew ?_ | refine Lw.bset ?_ (by first | (simp; done) | (simp; omega) | omega) _))⟩
set_option maxHeartbeats 1000000 in
theorem hash_Of (A : Option Addr) (n c : Nat) (bs : List Int) (w : World) (R : Lw.Rd w 1 A n (Lw.intsV .u8 bs)) (hy : Lw.Byt bs) (hm : n ≤ 1048576) :
    Calls Try.prog 64 #[.slice A n c] w fun e w' => e = .returned (.int .u32 (Lw.hsum bs)) ∧ Below w.heap.size w w' := by
  have l1 : bs.length = n := by have := R.1; simpa [Lw.intsV] using this
  have L : Hid ((Lw.padL bs).length = n + 4) := by rw [← l1]; exact Lw.padL_length bs
  have Y := Lw.padL_byt hy
  have E : Hid (Lw.hsum bs = Lw.hsumL (Lw.padL bs)) := rfl
  have R := Lib.hid R
  clear l1 hy
  go_enter Try.func64, Try.ntmps64
  go_wp2_with (go_at_call 71; refine (hash_padded A n c bs _ R.out hm).mono ?_; rintro e w1 ⟨A1, c1, rfl, own1, hb1⟩)
  have R1 := Lib.hid (Lw.Rd.of_own own1)
  clear own1 R
  generalize Lw.padL bs = ps at *
  go_loop [3, 5, 9] (fun h b i => ∃ k : Nat, i = .int .i64 (k : Int) ∧ k ≤ n + 4 ∧ h = .int .u32 (Lw.hsumL (ps.take k))) (fun _ _ i => n + 4 - (intOf i).toNat)
  case atStart => exact ⟨0, rfl, by omega, rfl⟩
  case round =>
    obtain ⟨k, rfl, k1, rfl⟩ := hrel
    obtain ⟨s1, s2⟩ := Lw.hsumL_bd (ps.take k)
    by_cases hlt : k < n + 4
    · have hl : k < ps.length := by rw [L.out]; exact hlt
      obtain ⟨ad, rfl, had, hcell⟩ := R1.out.at1 hlt (Lw.intsV_get hl)
      have T := Lib.hid (Lw.hs_take hl)
      obtain ⟨x, hx⟩ : ∃ x, ps[k] = x := ⟨_, rfl⟩
      obtain ⟨x1, x2⟩ := Y x (hx ▸ List.getElem_mem hl)
      rw [hx] at hcell T
      clear hx
      go_wp2_with (go_at_call 72; refine (hash_step _ x _ s1 (by omega) x1 x2).mono ?_; rintro e w' ⟨rfl, rfl⟩)
      go_round
      case rel => exact ⟨k + 1, by go_num, by omega, by rw [T.out]⟩
      case measure => simp [intOf]; omega
    · have hk : ps.take k = ps := List.take_of_length_le (by rw [L.out]; omega)
      have K := Lib.hid hk
      clear hk
      go_wp2
      go_ret
      rw [E.out, K.out]
      exact ⟨rfl, hb1⟩
set_option maxHeartbeats 1000000 in
theorem ref_little (n : Int) (k : Nat) (w : World) (h1 : 0 ≤ n) (h2 : n ≤ 4611686018427387904) (hk : k ≤ 16) :
    Calls Try.prog 22 #[.int .i64 n, .int .i64 (k : Int)] w (Lw.OwnRes 5 1 (Lw.intsV .u8 (Lw.littleL n k)) k w) := by
  obtain ⟨d, hd⟩ : ∃ d, Lw.littleL n k = d := ⟨_, rfl⟩
  have D := Lib.hid hd
  rw [hd]
  clear hd
  go_enter Try.func22, Try.ntmps22
  go_wp2
  go_loopw [0, 5, 6] (fun x l j wr => ∃ (m : Int) (i : Nat) (pre : List Int), x = .int .i64 m ∧ j = .int .i64 (i : Int) ∧ 0 ≤ m ∧ m ≤ 4611686018427387904 ∧ i ≤ k ∧ Hid (pre ++ Lw.littleL m (k - i) = d) ∧ pre.length = i ∧ wr.ownsRow w.heap.size 5 1 l i (Lw.intsV .u8 pre) ∧ Below w.heap.size w wr)
    (fun _ _ j _ => k - (intOf j).toNat)
  case atStart => exact ⟨n, 0, [], rfl, rfl, h1, h2, Nat.zero_le _, by simpa using D, rfl, World.ownsRow_nil _ _ _ _, Below.refl _ _⟩
  case round =>
    obtain ⟨m, i, pre, rfl, rfl, m1, m2, i1, H, hl, own, hB⟩ := hrel
    have OWN := Lib.hid own
    have HL := Lib.hid hl
    clear own hl
    have hsz := hB.size
    by_cases hlt : i < k
    · have N := Lib.hid (Lw.littleL_next H.out hlt)
      go_wp2_with (at_builtin; refine Lw.wpList_app elByte rfl _ _ rfl rfl (OWN.out.alloc _) rfl (by first | exact Lw.Rd.nil _ _ _ | exact Lw.Rd.lit (Lw.blk_new' (by simp) _ _) rfl rfl | exact Lw.Rd.lit (Lw.blk_alloc (Lw.blk_new' (by simp) _ _) _) rfl rfl) (Lw.one1 _ _) (by omega) (Lw.balloc hB _) (Nat.le_refl _) (by simp; omega) ?_; intro v1 w1 own1 hb1 _ _)
      have O1 := Lib.hid own1
      clear own1
      go_wp2
      go_roundw
      case rel => exact ⟨m / 256, i + 1, pre ++ [m % 256], rfl, by go_num, by omega, by omega, by omega, N, by rw [List.length_append, HL.out]; rfl, by rw [Lw.intsV_app]; exact O1.out, hb1⟩
      case measure => simp [intOf]; omega
    · go_wp2
      go_ret
      have e : pre = d := by rw [← H.out, show k - i = 0 by omega]; simp [Lw.littleL]
      have hi : i = k := by omega
      subst e hi
      obtain ⟨A, c, rfl, _⟩ := Lw.ownsForm OWN.out
      exact ⟨A, c, rfl, OWN.out, hB⟩
set_option maxHeartbeats 1000000 in
theorem ref_Padded (A : Option Addr) (n c : Nat) (bs : List Int) (w : World) (R : Lw.Rd w 1 A n (Lw.intsV .u8 bs)) (hm : n ≤ 1048576) :
    Calls Try.prog 60 #[.slice A n c] w (Lw.OwnRes 5 1 (Lw.intsV .u8 (Lw.padL bs)) (n + 4) w) := by
  have R := Lib.hid R
  have l1 : bs.length = n := by have := R.out.1; simpa [Lw.intsV] using this
  have E : Hid (Lw.intsV .u8 (Lw.padL bs) = Lw.intsV .u8 bs ++ Lw.intsV .u8 (Lw.littleL (n : Int) 4)) := by rw [← l1]; exact Lw.intsV_app _ _ _
  clear l1
  go_enter Try.func60, Try.ntmps60
  go_wp2_with (first
    | (at_builtin; refine Lw.wpList_app elByte rfl (.tmp 3) (.tmp 4) rfl rfl (Lw.own_lit w (xs := []) rfl rfl (by decide) (Nat.le_refl _)) rfl (R.out.alloc _) (Lw.intsV_one _ _) (by omega) (Lw.balloc (Below.refl _ _) _) (Nat.le_refl _) (by simp) ?_; intro v1 w1 own1 hb1 _ _)
    | (at_builtin; refine Lw.wpList_app elByte rfl (.tmp 5) (.tmp 8) rfl rfl (Lw.ownsBelow own1 (Nat.le_refl _) hb2) rfl (Lw.Rd.of_own own2) (Lw.intsV_one _ _) (by omega) (Lw.bt hb1 hb2) (Nat.le_refl _) (by have := hb1.size; have := hb2.size; omega) ?_; intro v3 w3 own3 hb3 _ _)
    | (go_at_call 22; refine (ref_little n 4 _ (by omega) (by omega) (by omega)).mono ?_; rintro e w2 ⟨A2, c2, rfl, own2, hb2⟩))
  go_ret
  rw [E.out]
  obtain ⟨B, c', rfl, _⟩ := Lw.ownsForm own3
  exact ⟨B, c', by simp, by simpa using own3, hb3⟩
set_option maxHeartbeats 1000000 in
theorem ref_Sum (A : Option Addr) (n c : Nat) (bs : List Int) (w : World) (R : Lw.Rd w 1 A n (Lw.intsV .u8 bs)) (hy : Lw.Byt bs) (hm : n ≤ 1048576) :
    Calls Try.prog 43 #[.slice A n c] w fun e w' => e = .returned (.int .i64 (Lw.hsum bs)) ∧ Below w.heap.size w w' := by
  have l1 : bs.length = n := by have := R.1; simpa [Lw.intsV] using this
  have L : Hid ((Lw.padL bs).length = n + 4) := by rw [← l1]; exact Lw.padL_length bs
  have Y := Lw.padL_byt hy
  have E : Hid (Lw.hsum bs = Lw.hsumL (Lw.padL bs)) := rfl
  have R := Lib.hid R
  clear l1 hy
  go_enter Try.func43, Try.ntmps43
  go_wp2_with (go_at_call 60; refine (ref_Padded A n c bs _ R.out hm).mono ?_; rintro e w1 ⟨A1, c1, rfl, own1, hb1⟩)
  have R1 := Lib.hid (Lw.Rd.of_own own1)
  clear own1 R
  generalize Lw.padL bs = ps at *
  go_loop [3, 5, 9] (fun h b i => ∃ k : Nat, i = .int .i64 (k : Int) ∧ k ≤ n + 4 ∧ h = .int .i64 (Lw.hsumL (ps.take k))) (fun _ _ i => n + 4 - (intOf i).toNat)
  case atStart => exact ⟨0, rfl, by omega, rfl⟩
  case round =>
    obtain ⟨k, rfl, k1, rfl⟩ := hrel
    obtain ⟨s1, s2⟩ := Lw.hsumL_bd (ps.take k)
    by_cases hlt : k < n + 4
    · have hl : k < ps.length := by rw [L.out]; exact hlt
      obtain ⟨ad, rfl, had, hcell⟩ := R1.out.at1 hlt (Lw.intsV_get hl)
      have T := Lib.hid (Lw.hs_take hl)
      obtain ⟨x, hx⟩ : ∃ x, ps[k] = x := ⟨_, rfl⟩
      obtain ⟨x1, x2⟩ := Y x (hx ▸ List.getElem_mem hl)
      rw [hx] at hcell T
      clear hx
      go_wp2_with (go_at_call 61; refine (ref_step _ x _ s1 (by omega) x1 x2).mono ?_; rintro e w' ⟨rfl, rfl⟩)
      go_round
      case rel => exact ⟨k + 1, by go_num, by omega, by rw [T.out]⟩
      case measure => simp [intOf]; omega
    · have hk : ps.take k = ps := List.take_of_length_le (by rw [L.out]; omega)
      have K := Lib.hid hk
      clear hk
      go_wp2
      go_ret
      rw [E.out, K.out]
      exact ⟨rfl, hb1⟩
end Go.Proofs.Ytkjcpjbdckbjcaa
set_option linter.unusedVariables false
set_option linter.unusedSimpArgs false
namespace Go.Proofs.Ytkjcpjbdckbjcaa
open Go.RowKit
set_option maxHeartbeats 1000000 in
theorem ref_Bytes (A B : Option Addr) (n m c d : Nat) (xs ys : List Int) (w : World) (R1 : Lw.Rd w 1 A n (Lw.intsV .u8 xs)) (R2 : Lw.Rd w 1 B m (Lw.intsV .u8 ys)) (hn : n ≤ 1073741824) (hm : m ≤ 1073741824) :
    Calls Try.prog 8 #[.slice A n c, .slice B m d] w fun e w' => e = .returned (.bool (decide (xs = ys))) ∧ Below w.heap.size w w' := by
  have l1 : xs.length = n := by have := R1.1; simpa [Lw.intsV] using this
  have l2 : ys.length = m := by have := R2.1; simpa [Lw.intsV] using this
  by_cases hnm : n = m
  · subst hnm
    have L1 := Lib.hid l1
    have L2 := Lib.hid l2
    have R1 := Lib.hid R1
    have R2 := Lib.hid R2
    clear l1 l2
    go_enter Try.func8, Try.ntmps8
    go_wp2
    go_loopw [5] (fun i wr => ∃ k : Nat, i = .int .i64 (k : Int) ∧ k ≤ n ∧ Hid (xs.take k = ys.take k) ∧ Below w.heap.size w wr) (fun i _ => n - (intOf i).toNat)
    case atStart => exact ⟨0, rfl, by omega, rfl, Below.refl _ _⟩
    case round =>
      obtain ⟨k, rfl, k1, T, hB⟩ := hrel
      by_cases hlt : k < n
      · have h1 : k < xs.length := by have := L1.out; omega
        have h2 : k < ys.length := by have := L2.out; omega
        obtain ⟨a1, rfl, ha1, c1⟩ := (R1.out.below (Nat.le_refl _) hB).at1 hlt (Lw.intsV_get h1)
        obtain ⟨a2, rfl, ha2, c2⟩ := (R2.out.below (Nat.le_refl _) hB).at1 hlt (Lw.intsV_get h2)
        have N : Hid (xs[k] = ys[k] → xs.take (k + 1) = ys.take (k + 1)) := by
          intro e; rw [List.take_succ_eq_append_getElem h1, List.take_succ_eq_append_getElem h2, T.out, e]
        have D : Hid (xs[k] ≠ ys[k] → decide (xs = ys) = false) := by
          intro e; apply decide_eq_false; intro e2; subst e2; exact e rfl
        obtain ⟨x, hx⟩ : ∃ x, xs[k] = x := ⟨_, rfl⟩
        obtain ⟨y, hy⟩ : ∃ y, ys[k] = y := ⟨_, rfl⟩
        rw [hx] at c1 N D
        rw [hy] at c2 N D
        clear hx hy
        have i0 : (0 : Int) ≤ (k : Int) := by omega
        have i1 : (k : Int) < (n : Int) := by omega
        by_cases hxy : x = y
        · have N2 := Lib.hid (N.out hxy)
          clear N D
          subst hxy
          go_wp2
          refine wp_region_held_drew (S := fun w' => w'.cell? (a1.add k) = some (.int .u8 x) ∧ w'.cell? (a2.add k) = some (.int .u8 x)) (by kernel_rfl) (by exact ⟨c1, c2⟩) (fun hHeld => ?_)
          (refine Lw.take1 (i := 0) (v := ?_) rfl (by kernel_rfl) (by kernel_rfl) (by kernel_rfl) (fun _ _ _ h => h) (Or.inl ⟨by rfl, ?_⟩) (by assumption) ?_; rotate_left 1; (focus (intro wS hSw; (try dsimp only at hSw); go_simp <;> with_reducible rfl)); (try simp only [Act.put, List.setIfInBounds_toArray, List.set_cons_zero, List.set_cons_succ]))
          (refine Lw.take1 (i := 1) (v := ?_) rfl (by kernel_rfl) (by kernel_rfl) (by kernel_rfl) (fun _ _ _ h => h) (Or.inl ⟨by rfl, ?_⟩) (by assumption) ?_; rotate_left 1; (focus (intro wS hSw; (try dsimp only at hSw); go_simp <;> with_reducible rfl)); (try simp only [Act.put, List.setIfInBounds_toArray, List.set_cons_zero, List.set_cons_succ]))
          (refine Lw.take1 (i := 2) (v := ?_) rfl (by kernel_rfl) (by kernel_rfl) (by kernel_rfl) (fun _ _ _ h => h) (Or.inl ⟨by rfl, ?_⟩) (by assumption) ?_; rotate_left 1; (focus (intro wS hSw; (try dsimp only at hSw); go_simp <;> with_reducible rfl)); (try simp only [Act.put, List.setIfInBounds_toArray, List.set_cons_zero, List.set_cons_succ]))
          (refine Lw.take1 (i := 3) (v := ?_) rfl (by kernel_rfl) (by kernel_rfl) (by kernel_rfl) (fun _ _ _ h => h) (Or.inl ⟨by rfl, ?_⟩) (by assumption) ?_; rotate_left 1; (focus (intro wS hSw; (try dsimp only at hSw); go_simp <;> with_reducible rfl)); (try simp only [Act.put, List.setIfInBounds_toArray, List.set_cons_zero, List.set_cons_succ]))
          (refine Lw.take1 (i := 4) (v := ?_) rfl (by kernel_rfl) (by kernel_rfl) (by kernel_rfl) (fun _ _ _ h => h) (Or.inl ⟨by rfl, ?_⟩) (by assumption) ?_; rotate_left 1; (focus (intro wS hSw; (try dsimp only at hSw); go_simp <;> with_reducible rfl)); (try simp only [Act.put, List.setIfInBounds_toArray, List.set_cons_zero, List.set_cons_succ]))
          (refine Lw.take1 (i := 5) (v := ?_) rfl (by kernel_rfl) (by kernel_rfl) (by kernel_rfl) (fun _ _ _ h => h) (Or.inl ⟨by rfl, ?_⟩) (by assumption) ?_; rotate_left 1; (focus (intro wS hSw; (try dsimp only at hSw); go_simp <;> with_reducible rfl)); (try simp only [Act.put, List.setIfInBounds_toArray, List.set_cons_zero, List.set_cons_succ]))
          (refine Lw.take1 (i := 6) (v := ?_) rfl (by kernel_rfl) (by kernel_rfl) (by kernel_rfl) (fun _ _ _ h => h) (Or.inl ⟨by rfl, ?_⟩) (by assumption) ?_; rotate_left 1; (focus (intro wS hSw; (try dsimp only at hSw); go_simp <;> with_reducible rfl)); (try simp only [Act.put, List.setIfInBounds_toArray, List.set_cons_zero, List.set_cons_succ]))
          (refine Lw.take1 (i := 7) (v := ?_) rfl (by kernel_rfl) (by kernel_rfl) (by kernel_rfl) (fun _ _ _ h => h) (Or.inl ⟨by rfl, ?_⟩) (by assumption) ?_; rotate_left 1; (focus (intro wS hSw; (try dsimp only at hSw); go_simp <;> with_reducible rfl)); (try simp only [Act.put, List.setIfInBounds_toArray, List.set_cons_zero, List.set_cons_succ]))
          (refine Lw.take1 (i := 8) (v := ?_) rfl (by kernel_rfl) (by kernel_rfl) (by kernel_rfl) (fun _ _ _ h => h) (Or.inl ⟨by rfl, ?_⟩) (by assumption) ?_; rotate_left 1; (focus (intro wS hSw; (try dsimp only at hSw); go_simp <;> with_reducible rfl)); (try simp only [Act.put, List.setIfInBounds_toArray, List.set_cons_zero, List.set_cons_succ]))
          refine wpAnyH_done (by kernel_rfl) ?_ _
          go_wp2
          go_roundw
          case rel => exact ⟨k + 1, by go_num, by omega, N2, Below.drew hB⟩
          case measure => simp [intOf]; omega
        · have D := Lib.hid (D.out hxy)
          have x1 : (x != y) = true := by simpa using hxy
          clear hxy N
          go_wp2
          refine wp_region_held_drew (S := fun w' => w'.cell? (a1.add k) = some (.int .u8 x) ∧ w'.cell? (a2.add k) = some (.int .u8 y)) (by kernel_rfl) (by exact ⟨c1, c2⟩) (fun hHeld => ?_)
          (refine Lw.take1 (i := 0) (v := ?_) rfl (by kernel_rfl) (by kernel_rfl) (by kernel_rfl) (fun _ _ _ h => h) (Or.inl ⟨by rfl, ?_⟩) (by assumption) ?_; rotate_left 1; (focus (intro wS hSw; (try dsimp only at hSw); go_simp <;> with_reducible rfl)); (try simp only [Act.put, List.setIfInBounds_toArray, List.set_cons_zero, List.set_cons_succ]))
          (refine Lw.take1 (i := 1) (v := ?_) rfl (by kernel_rfl) (by kernel_rfl) (by kernel_rfl) (fun _ _ _ h => h) (Or.inl ⟨by rfl, ?_⟩) (by assumption) ?_; rotate_left 1; (focus (intro wS hSw; (try dsimp only at hSw); go_simp <;> with_reducible rfl)); (try simp only [Act.put, List.setIfInBounds_toArray, List.set_cons_zero, List.set_cons_succ]))
          (refine Lw.take1 (i := 2) (v := ?_) rfl (by kernel_rfl) (by kernel_rfl) (by kernel_rfl) (fun _ _ _ h => h) (Or.inl ⟨by rfl, ?_⟩) (by assumption) ?_; rotate_left 1; (focus (intro wS hSw; (try dsimp only at hSw); go_simp <;> with_reducible rfl)); (try simp only [Act.put, List.setIfInBounds_toArray, List.set_cons_zero, List.set_cons_succ]))
          (refine Lw.take1 (i := 3) (v := ?_) rfl (by kernel_rfl) (by kernel_rfl) (by kernel_rfl) (fun _ _ _ h => h) (Or.inl ⟨by rfl, ?_⟩) (by assumption) ?_; rotate_left 1; (focus (intro wS hSw; (try dsimp only at hSw); go_simp <;> with_reducible rfl)); (try simp only [Act.put, List.setIfInBounds_toArray, List.set_cons_zero, List.set_cons_succ]))
          (refine Lw.take1 (i := 4) (v := ?_) rfl (by kernel_rfl) (by kernel_rfl) (by kernel_rfl) (fun _ _ _ h => h) (Or.inl ⟨by rfl, ?_⟩) (by assumption) ?_; rotate_left 1; (focus (intro wS hSw; (try dsimp only at hSw); go_simp <;> with_reducible rfl)); (try simp only [Act.put, List.setIfInBounds_toArray, List.set_cons_zero, List.set_cons_succ]))
          (refine Lw.take1 (i := 5) (v := ?_) rfl (by kernel_rfl) (by kernel_rfl) (by kernel_rfl) (fun _ _ _ h => h) (Or.inl ⟨by rfl, ?_⟩) (by assumption) ?_; rotate_left 1; (focus (intro wS hSw; (try dsimp only at hSw); go_simp <;> with_reducible rfl)); (try simp only [Act.put, List.setIfInBounds_toArray, List.set_cons_zero, List.set_cons_succ]))
          (refine Lw.take1 (i := 6) (v := ?_) rfl (by kernel_rfl) (by kernel_rfl) (by kernel_rfl) (fun _ _ _ h => h) (Or.inl ⟨by rfl, ?_⟩) (by assumption) ?_; rotate_left 1; (focus (intro wS hSw; (try dsimp only at hSw); go_simp <;> with_reducible rfl)); (try simp only [Act.put, List.setIfInBounds_toArray, List.set_cons_zero, List.set_cons_succ]))
          (refine Lw.take1 (i := 7) (v := ?_) rfl (by kernel_rfl) (by kernel_rfl) (by kernel_rfl) (fun _ _ _ h => h) (Or.inl ⟨by rfl, ?_⟩) (by assumption) ?_; rotate_left 1; (focus (intro wS hSw; (try dsimp only at hSw); go_simp <;> with_reducible rfl)); (try simp only [Act.put, List.setIfInBounds_toArray, List.set_cons_zero, List.set_cons_succ]))
          (refine Lw.take1 (i := 8) (v := ?_) rfl (by kernel_rfl) (by kernel_rfl) (by kernel_rfl) (fun _ _ _ h => h) (Or.inl ⟨by rfl, ?_⟩) (by assumption) ?_; rotate_left 1; (focus (intro wS hSw; (try dsimp only at hSw); go_simp <;> with_reducible rfl)); (try simp only [Act.put, List.setIfInBounds_toArray, List.set_cons_zero, List.set_cons_succ]))
          refine wpAnyH_done (by kernel_rfl) ?_ _
          go_wp2
          go_ret
          rw [D.out]
          exact ⟨rfl, Below.drew hB⟩
      · have hk : k = n := by omega
        subst hk
        have E : Hid (decide (xs = ys) = true) := by
          apply decide_eq_true
          have := T.out
          rwa [List.take_of_length_le (by have := L1.out; omega), List.take_of_length_le (by have := L2.out; omega)] at this
        go_wp2
        go_ret
        rw [E.out]
        exact ⟨rfl, hB⟩
  · have D : Hid (decide (xs = ys) = false) := by
      apply decide_eq_false; intro e; subst e; exact hnm (l1.symm.trans l2)
    have h1 : ((n : Int) != (m : Int)) = true := by simp; omega
    clear l1 l2 R1 R2
    go_enter Try.func8, Try.ntmps8
    go_wp2
    go_ret
    rw [D.out]
    exact ⟨rfl, Below.refl _ _⟩

set_option maxHeartbeats 1000000 in
theorem bytes_equal (A B : Option Addr) (n m c d : Nat) (xs ys : List Int) (w : World) (R1 : Lw.Rd w 1 A n (Lw.intsV .u8 xs)) (R2 : Lw.Rd w 1 B m (Lw.intsV .u8 ys)) (hn : n ≤ 1073741824) (hm : m ≤ 1073741824) :
    Calls Try.prog 56 #[.slice A n c, .slice B m d] w fun e w' => e = .returned (.bool (decide (xs = ys))) ∧ Below w.heap.size w w' := by
  have l1 : xs.length = n := by have := R1.1; simpa [Lw.intsV] using this
  have l2 : ys.length = m := by have := R2.1; simpa [Lw.intsV] using this
  by_cases hnm : n = m
  · subst hnm
    have L1 := Lib.hid l1
    have L2 := Lib.hid l2
    have R1 := Lib.hid R1
    have R2 := Lib.hid R2
    clear l1 l2
    go_enter Try.func56, Try.ntmps56
    go_wp2
    go_loopw [5, 13] (fun x i wr => ∃ k : Nat, i = .int .i64 (k : Int) ∧ k ≤ n ∧ Hid (xs.take k = ys.take k) ∧ Below w.heap.size w wr) (fun _ i _ => n - (intOf i).toNat)
    case atStart => exact ⟨0, rfl, by omega, rfl, Below.refl _ _⟩
    case round =>
      obtain ⟨k, rfl, k1, T, hB⟩ := hrel
      by_cases hlt : k < n
      · have h1 : k < xs.length := by have := L1.out; omega
        have h2 : k < ys.length := by have := L2.out; omega
        obtain ⟨a1, rfl, ha1, c1⟩ := (R1.out.below (Nat.le_refl _) hB).at1 hlt (Lw.intsV_get h1)
        obtain ⟨a2, rfl, ha2, c2⟩ := (R2.out.below (Nat.le_refl _) hB).at1 hlt (Lw.intsV_get h2)
        have N : Hid (xs[k] = ys[k] → xs.take (k + 1) = ys.take (k + 1)) := by
          intro e; rw [List.take_succ_eq_append_getElem h1, List.take_succ_eq_append_getElem h2, T.out, e]
        have D : Hid (xs[k] ≠ ys[k] → decide (xs = ys) = false) := by
          intro e; apply decide_eq_false; intro e2; subst e2; exact e rfl
        obtain ⟨x, hx⟩ : ∃ x, xs[k] = x := ⟨_, rfl⟩
        obtain ⟨y, hy⟩ : ∃ y, ys[k] = y := ⟨_, rfl⟩
        rw [hx] at c1 N D
        rw [hy] at c2 N D
        clear hx hy
        have i0 : (0 : Int) ≤ (k : Int) := by omega
        have i1 : (k : Int) < (n : Int) := by omega
        by_cases hxy : x = y
        · have N2 := Lib.hid (N.out hxy)
          clear N D
          subst hxy
          go_wp2
          refine wp_region_held_drew (S := fun w' => w'.cell? (a1.add k) = some (.int .u8 x) ∧ w'.cell? (a2.add k) = some (.int .u8 x)) (by kernel_rfl) (by exact ⟨c1, c2⟩) (fun hHeld => ?_)
          (refine Lw.take1 (i := 0) (v := ?_) rfl (by kernel_rfl) (by kernel_rfl) (by kernel_rfl) (fun _ _ _ h => h) (Or.inl ⟨by rfl, ?_⟩) (by assumption) ?_; rotate_left 1; (focus (intro wS hSw; (try dsimp only at hSw); go_simp <;> with_reducible rfl)); (try simp only [Act.put, List.setIfInBounds_toArray, List.set_cons_zero, List.set_cons_succ]))
          (refine Lw.take1 (i := 1) (v := ?_) rfl (by kernel_rfl) (by kernel_rfl) (by kernel_rfl) (fun _ _ _ h => h) (Or.inl ⟨by rfl, ?_⟩) (by assumption) ?_; rotate_left 1; (focus (intro wS hSw; (try dsimp only at hSw); go_simp <;> with_reducible rfl)); (try simp only [Act.put, List.setIfInBounds_toArray, List.set_cons_zero, List.set_cons_succ]))
          (refine Lw.take1 (i := 2) (v := ?_) rfl (by kernel_rfl) (by kernel_rfl) (by kernel_rfl) (fun _ _ _ h => h) (Or.inl ⟨by rfl, ?_⟩) (by assumption) ?_; rotate_left 1; (focus (intro wS hSw; (try dsimp only at hSw); go_simp <;> with_reducible rfl)); (try simp only [Act.put, List.setIfInBounds_toArray, List.set_cons_zero, List.set_cons_succ]))
          (refine Lw.take1 (i := 3) (v := ?_) rfl (by kernel_rfl) (by kernel_rfl) (by kernel_rfl) (fun _ _ _ h => h) (Or.inl ⟨by rfl, ?_⟩) (by assumption) ?_; rotate_left 1; (focus (intro wS hSw; (try dsimp only at hSw); go_simp <;> with_reducible rfl)); (try simp only [Act.put, List.setIfInBounds_toArray, List.set_cons_zero, List.set_cons_succ]))
          (refine Lw.take1 (i := 4) (v := ?_) rfl (by kernel_rfl) (by kernel_rfl) (by kernel_rfl) (fun _ _ _ h => h) (Or.inl ⟨by rfl, ?_⟩) (by assumption) ?_; rotate_left 1; (focus (intro wS hSw; (try dsimp only at hSw); go_simp <;> with_reducible rfl)); (try simp only [Act.put, List.setIfInBounds_toArray, List.set_cons_zero, List.set_cons_succ]))
          (refine Lw.take1 (i := 5) (v := ?_) rfl (by kernel_rfl) (by kernel_rfl) (by kernel_rfl) (fun _ _ _ h => h) (Or.inl ⟨by rfl, ?_⟩) (by assumption) ?_; rotate_left 1; (focus (intro wS hSw; (try dsimp only at hSw); go_simp <;> with_reducible rfl)); (try simp only [Act.put, List.setIfInBounds_toArray, List.set_cons_zero, List.set_cons_succ]))
          (refine Lw.take1 (i := 6) (v := ?_) rfl (by kernel_rfl) (by kernel_rfl) (by kernel_rfl) (fun _ _ _ h => h) (Or.inl ⟨by rfl, ?_⟩) (by assumption) ?_; rotate_left 1; (focus (intro wS hSw; (try dsimp only at hSw); go_simp <;> with_reducible rfl)); (try simp only [Act.put, List.setIfInBounds_toArray, List.set_cons_zero, List.set_cons_succ]))
          (refine Lw.take1 (i := 7) (v := ?_) rfl (by kernel_rfl) (by kernel_rfl) (by kernel_rfl) (fun _ _ _ h => h) (Or.inl ⟨by rfl, ?_⟩) (by assumption) ?_; rotate_left 1; (focus (intro wS hSw; (try dsimp only at hSw); go_simp <;> with_reducible rfl)); (try simp only [Act.put, List.setIfInBounds_toArray, List.set_cons_zero, List.set_cons_succ]))
          (refine Lw.take1 (i := 8) (v := ?_) rfl (by kernel_rfl) (by kernel_rfl) (by kernel_rfl) (fun _ _ _ h => h) (Or.inl ⟨by rfl, ?_⟩) (by assumption) ?_; rotate_left 1; (focus (intro wS hSw; (try dsimp only at hSw); go_simp <;> with_reducible rfl)); (try simp only [Act.put, List.setIfInBounds_toArray, List.set_cons_zero, List.set_cons_succ]))
          refine wpAnyH_done (by kernel_rfl) ?_ _
          go_wp2
          go_roundw
          case rel => exact ⟨k + 1, by go_num, by omega, N2, Below.drew hB⟩
          case measure => simp [intOf]; omega
        · have D := Lib.hid (D.out hxy)
          have x1 : (x != y) = true := by simpa using hxy
          clear hxy N
          go_wp2
          refine wp_region_held_drew (S := fun w' => w'.cell? (a1.add k) = some (.int .u8 x) ∧ w'.cell? (a2.add k) = some (.int .u8 y)) (by kernel_rfl) (by exact ⟨c1, c2⟩) (fun hHeld => ?_)
          (refine Lw.take1 (i := 0) (v := ?_) rfl (by kernel_rfl) (by kernel_rfl) (by kernel_rfl) (fun _ _ _ h => h) (Or.inl ⟨by rfl, ?_⟩) (by assumption) ?_; rotate_left 1; (focus (intro wS hSw; (try dsimp only at hSw); go_simp <;> with_reducible rfl)); (try simp only [Act.put, List.setIfInBounds_toArray, List.set_cons_zero, List.set_cons_succ]))
          (refine Lw.take1 (i := 1) (v := ?_) rfl (by kernel_rfl) (by kernel_rfl) (by kernel_rfl) (fun _ _ _ h => h) (Or.inl ⟨by rfl, ?_⟩) (by assumption) ?_; rotate_left 1; (focus (intro wS hSw; (try dsimp only at hSw); go_simp <;> with_reducible rfl)); (try simp only [Act.put, List.setIfInBounds_toArray, List.set_cons_zero, List.set_cons_succ]))
          (refine Lw.take1 (i := 2) (v := ?_) rfl (by kernel_rfl) (by kernel_rfl) (by kernel_rfl) (fun _ _ _ h => h) (Or.inl ⟨by rfl, ?_⟩) (by assumption) ?_; rotate_left 1; (focus (intro wS hSw; (try dsimp only at hSw); go_simp <;> with_reducible rfl)); (try simp only [Act.put, List.setIfInBounds_toArray, List.set_cons_zero, List.set_cons_succ]))
          (refine Lw.take1 (i := 3) (v := ?_) rfl (by kernel_rfl) (by kernel_rfl) (by kernel_rfl) (fun _ _ _ h => h) (Or.inl ⟨by rfl, ?_⟩) (by assumption) ?_; rotate_left 1; (focus (intro wS hSw; (try dsimp only at hSw); go_simp <;> with_reducible rfl)); (try simp only [Act.put, List.setIfInBounds_toArray, List.set_cons_zero, List.set_cons_succ]))
          (refine Lw.take1 (i := 4) (v := ?_) rfl (by kernel_rfl) (by kernel_rfl) (by kernel_rfl) (fun _ _ _ h => h) (Or.inl ⟨by rfl, ?_⟩) (by assumption) ?_; rotate_left 1; (focus (intro wS hSw; (try dsimp only at hSw); go_simp <;> with_reducible rfl)); (try simp only [Act.put, List.setIfInBounds_toArray, List.set_cons_zero, List.set_cons_succ]))
          (refine Lw.take1 (i := 5) (v := ?_) rfl (by kernel_rfl) (by kernel_rfl) (by kernel_rfl) (fun _ _ _ h => h) (Or.inl ⟨by rfl, ?_⟩) (by assumption) ?_; rotate_left 1; (focus (intro wS hSw; (try dsimp only at hSw); go_simp <;> with_reducible rfl)); (try simp only [Act.put, List.setIfInBounds_toArray, List.set_cons_zero, List.set_cons_succ]))
          (refine Lw.take1 (i := 6) (v := ?_) rfl (by kernel_rfl) (by kernel_rfl) (by kernel_rfl) (fun _ _ _ h => h) (Or.inl ⟨by rfl, ?_⟩) (by assumption) ?_; rotate_left 1; (focus (intro wS hSw; (try dsimp only at hSw); go_simp <;> with_reducible rfl)); (try simp only [Act.put, List.setIfInBounds_toArray, List.set_cons_zero, List.set_cons_succ]))
          (refine Lw.take1 (i := 7) (v := ?_) rfl (by kernel_rfl) (by kernel_rfl) (by kernel_rfl) (fun _ _ _ h => h) (Or.inl ⟨by rfl, ?_⟩) (by assumption) ?_; rotate_left 1; (focus (intro wS hSw; (try dsimp only at hSw); go_simp <;> with_reducible rfl)); (try simp only [Act.put, List.setIfInBounds_toArray, List.set_cons_zero, List.set_cons_succ]))
          (refine Lw.take1 (i := 8) (v := ?_) rfl (by kernel_rfl) (by kernel_rfl) (by kernel_rfl) (fun _ _ _ h => h) (Or.inl ⟨by rfl, ?_⟩) (by assumption) ?_; rotate_left 1; (focus (intro wS hSw; (try dsimp only at hSw); go_simp <;> with_reducible rfl)); (try simp only [Act.put, List.setIfInBounds_toArray, List.set_cons_zero, List.set_cons_succ]))
          refine wpAnyH_done (by kernel_rfl) ?_ _
          go_wp2
          go_ret
          rw [D.out]
          exact ⟨rfl, Below.drew hB⟩
      · have hk : k = n := by omega
        subst hk
        have E : Hid (decide (xs = ys) = true) := by
          apply decide_eq_true
          have := T.out
          rwa [List.take_of_length_le (by have := L1.out; omega), List.take_of_length_le (by have := L2.out; omega)] at this
        go_wp2
        go_ret
        rw [E.out]
        exact ⟨rfl, hB⟩
  · have D : Hid (decide (xs = ys) = false) := by
      apply decide_eq_false; intro e; subst e; exact hnm (l1.symm.trans l2)
    have h1 : ((n : Int) != (m : Int)) = true := by simp; omega
    clear l1 l2 R1 R2
    go_enter Try.func56, Try.ntmps56
    go_wp2
    go_ret
    rw [D.out]
    exact ⟨rfl, Below.refl _ _⟩

set_option maxRecDepth 100000 in
set_option maxHeartbeats 1000000 in
theorem bytes_clone (A : Option Addr) (n c : Nat) (xs : List Value) (w : World) (R : Lw.Rd w 1 A n xs) (o1 : ∀ u ∈ xs, u.oneCell' = true) (hn : n ≤ 16777216) :
    Calls Try.prog 59 #[.slice A n c] w (Lw.OwnRes 5 1 xs n w) := by
  have q := fun (w : World) (a : Option Addr) (n c n' c' : Nat) => Lib.run_eql_slice_nil (P := Try.prog) w 31 5 a n c n' c' Try.underlying31
  rcases A with _ | ad
  · have hn0 : n = 0 := by
      rcases Nat.eq_zero_or_pos n with h | h
      · exact h
      · obtain ⟨_, h2, _⟩ := R.2 h; cases h2
    subst hn0
    have hx : xs = [] := List.eq_nil_of_length_eq_zero (by simpa using R.1)
    subst hx
    clear R o1
    go_enter Try.func59, Try.ntmps59
    go_wp2
    go_ret
    exact ⟨_, _, rfl, World.ownsRow_nil _ _ _ _, Below.refl _ _⟩
  · have R := Lib.hid R
    go_enter Try.func59, Try.ntmps59
    go_wp2_with (at_builtin; refine Lw.wpList_app elByte rfl _ _ rfl rfl (Lw.own_lit w (xs := []) rfl rfl (by decide) (Nat.le_refl _)) rfl (R.out.alloc _) o1 (by omega) (Lw.balloc (Below.refl _ _) _) (Nat.le_refl _) (by simp) ?_; intro v1 w1 own1 hb1 _ _)
    go_ret
    obtain ⟨B, c', rfl, _⟩ := Lw.ownsForm own1
    exact ⟨B, c', by simp, by simpa using own1, hb1⟩

end Go.Proofs.Ytkjcpjbdckbjcaa
namespace Lw
open Go Go.RowKit
/-- what stood in w0 stands in w -/
def Sm (w0 w : World) : Prop := (∀ p : Addr, p.block < w0.heap.size → w.cell? p = w0.cell? p) ∧ (∀ p : Addr, p.block < w0.heap.size → w.frozen? p = w0.frozen? p) ∧ w0.heap.size ≤ w.heap.size ∧ Below w0.heap.size w0 w
theorem sm_of {w0 w : World} (h : Below w0.heap.size w0 w) : Sm w0 w := ⟨fun _ hp => h.cell hp, fun _ hp => h.frozen hp, h.size, h⟩
theorem sm_bel {w0 w : World} (h : Sm w0 w) : Below w0.heap.size w0 w := h.2.2.2
theorem sm_drew (w0 : World) : Sm w0 w0.drew := sm_of (Below.drew (Below.refl _ _))
theorem sm_drew' {w0 w : World} (h : Sm w0 w) : Sm w0 w.drew := sm_of (Below.drew h.2.2.2)
theorem own_drew {w : World} {base e size n : Nat} {v : Value} {xs : List Value} (h : w.ownsRow base e size v n xs) : w.drew.ownsRow base e size v n xs := h
theorem Rd.drew {w : World} {sz n : Nat} {A : Option Addr} {xs : List Value} (h : Rd w sz A n xs) : Rd w.drew sz A n xs := h
theorem blk_drew {W : World} {b : Nat} {o : Option Obj} (h : W.heap[b]? = o) : W.drew.heap[b]? = o := h
theorem sm_keep {w0 w w' : World} (h : Sm w0 w) (hb : Below w.heap.size w w') : Sm w0 w' := sm_of (bt h.2.2.2 hb)
end Lw
namespace Lw
open Go Go.RowKit
def namedL (key count : Int) : List Int := littleL key 2 ++ littleL count 4
theorem namedL_byt (key count : Int) : Byt (namedL key count) := (littleL_byt _ _).app (littleL_byt _ _)
/-- the sum of what stands ahead of it, as two bytes -/
def sumL (key count : Int) (b : List Int) : List Int := littleL (hsum (namedL key count ++ b)) 2
theorem sumL_byt (key count : Int) (b : List Int) : Byt (sumL key count b) := littleL_byt _ _
def cellH (body : List Int) : List Int := (body.length : Int) :: (body ++ List.replicate (14 - body.length) 0)
theorem cellH_length {body : List Int} (h : body.length ≤ 14) : (cellH body).length = 15 := by simp [cellH]; omega
theorem cellH_byt {body : List Int} (h : body.length ≤ 14) (hb : Byt body) : Byt (cellH body) := by
  intro x hx
  simp only [cellH, List.mem_cons, List.mem_append, List.mem_replicate] at hx
  rcases hx with rfl | hx | ⟨_, rfl⟩
  · omega
  · exact hb x hx
  · omega
def cellL (key count : Int) (body : List Int) : List Int := cellH body ++ sumL key count (cellH body)
theorem splice_cell {bs : List Int} {n : Nat} (hl : bs.length = n) (hn : n ≤ 14) : splice (.int .u8 (n : Int) :: List.replicate 14 (Value.int .u8 0)) 1 (intsV .u8 bs) = intsV .u8 (cellH bs) := by
  subst hl
  unfold splice cellH
  simp only [List.take_succ_cons, List.take_zero, intsV_length, intsV, List.map_cons, List.map_append, List.map_replicate]
  rw [List.length_map, show 1 + bs.length = bs.length + 1 by omega, List.drop_succ_cons, List.drop_replicate]
  rfl
end Lw
set_option linter.unusedVariables false
set_option linter.unusedSimpArgs false
namespace Go.Proofs.Ytkjcpjbdckbjcaa
open Go.RowKit
set_option maxHeartbeats 1000000 in
theorem cell_named (key count : Int) (w : World) (k1 : 0 ≤ key) (k2 : key ≤ 65536) (c1 : 0 ≤ count) (c2 : count ≤ 4294967296) :
    Calls Try.prog 68 #[.int .i64 key, .int .i64 count] w (Lw.OwnRes 5 1 (Lw.intsV .u8 (Lw.namedL key count)) 6 w) := by
  have E : Hid (Lw.intsV .u8 (Lw.namedL key count) = Lw.intsV .u8 (Lw.littleL key 2) ++ Lw.intsV .u8 (Lw.littleL count 4)) := Lw.intsV_app _ _ _
  go_enter Try.func68, Try.ntmps68
  go_wp2_with fail
  refine (hash_Little key 2 _ k1 (by omega) (by omega)).mono ?_
  rintro e w1 ⟨A1, d1, rfl, own1, hb1⟩
  go_wp2_with fail
  refine (hash_Little count 4 _ c1 (by omega) (by omega)).mono ?_
  rintro e w2 ⟨A2, d2, rfl, own2, hb2⟩
  go_wp2_with fail
  refine (bytes_cat _ A1 A2 _ d1 d2 2 4 _ _ _ (by first | exact Lw.Rd.nil _ _ _ | exact Lw.Rd.lit (Lw.blk_new' (by simp) _ _) rfl rfl | exact Lw.Rd.lit (Lw.blk_alloc (Lw.blk_new' (by simp) _ _) _) rfl rfl) ((Lw.Rd.of_own (Lw.ownsBelow own1 (Nat.le_refl _) hb2)).alloc _) ((Lw.Rd.of_own own2).alloc _) (Lw.intsV_one _ _) (Lw.intsV_one _ _) (by omega)).mono ?_
  rintro e w3 ⟨A3, d3, rfl, own3, hb3⟩
  go_wp2_with fail
  go_ret
  rw [E.out]
  exact ⟨A3, d3, rfl, Lw.ownsBase own3 (by have := hb1.size; have := hb2.size; simp; omega), by (repeat (first | exact Below.refl _ _ | refine Lw.bt ?_ (by assumption) | refine Lw.balloc ?_ _ | refine Lw.bdrewN ?_ _ | refine Below.drew ?_ | refine Lw.bset ?_ (by first | (simp; done) | (simp; omega) | omega) _))⟩
set_option maxHeartbeats 1000000 in
theorem ref_named (key count : Int) (w : World) (k1 : 0 ≤ key) (k2 : key ≤ 65536) (c1 : 0 ≤ count) (c2 : count ≤ 4294967296) :
    Calls Try.prog 44 #[.int .i64 key, .int .i64 count] w (Lw.OwnRes 5 1 (Lw.intsV .u8 (Lw.namedL key count)) 6 w) := by
  have E : Hid (Lw.intsV .u8 (Lw.namedL key count) = Lw.intsV .u8 (Lw.littleL key 2) ++ Lw.intsV .u8 (Lw.littleL count 4)) := Lw.intsV_app _ _ _
  go_enter Try.func44, Try.ntmps44
  go_wp2_with fail
  refine (ref_little key 2 _ k1 (by omega) (by omega)).mono ?_
  rintro e w1 ⟨A1, d1, rfl, own1, hb1⟩
  go_wp2_with fail
  refine (ref_little count 4 _ c1 (by omega) (by omega)).mono ?_
  rintro e w2 ⟨A2, d2, rfl, own2, hb2⟩
  go_wp2_with (at_builtin; refine Lw.wpList_app elByte rfl _ _ rfl rfl (Lw.ownsBelow own1 (Nat.le_refl _) hb2) rfl (Lw.Rd.of_own own2) (Lw.intsV_one _ _) (by omega) (Lw.bt hb1 hb2) (Nat.le_refl _) (by have := hb1.size; have := hb2.size; omega) ?_; intro v3 w3 own3 hb3 _ _)
  go_ret
  obtain ⟨A3, d3, rfl, _⟩ := Lw.ownsForm own3
  rw [E.out]
  exact ⟨A3, d3, by simp, by simpa using own3, hb3⟩
set_option maxHeartbeats 1000000 in
theorem cell_sum (key count : Int) (A : Option Addr) (n c : Nat) (bs : List Int) (w : World) (R : Lw.Rd w 1 A n (Lw.intsV .u8 bs)) (hy : Lw.Byt bs) (hn : n ≤ 4096) (k1 : 0 ≤ key) (k2 : key ≤ 65536) (c1 : 0 ≤ count) (c2 : count ≤ 4294967296) :
    Calls Try.prog 53 #[.int .i64 key, .int .i64 count, .slice A n c] w (Lw.OwnRes 5 1 (Lw.intsV .u8 (Lw.sumL key count bs)) 2 w) := by
  have C := fun (A : Option Addr) (c : Nat) (w : World) R => hash_Of A (6 + n) c (Lw.namedL key count ++ bs) w R ((Lw.namedL_byt _ _).app hy) (by omega)
  rw [Lw.intsV_app] at C
  obtain ⟨s1, s2⟩ := Lw.hsum_bd (Lw.namedL key count ++ bs)
  have E : Hid (Lw.sumL key count bs = Lw.littleL (Lw.hsum (Lw.namedL key count ++ bs)) 2) := rfl
  have C := Lib.hid C
  have R := Lib.hid R
  generalize Lw.hsum (Lw.namedL key count ++ bs) = s at *
  go_enter Try.func53, Try.ntmps53
  go_wp2_with fail
  refine (cell_named key count _ k1 k2 c1 c2).mono ?_
  rintro e w1 ⟨A1, d1, rfl, own1, hb1⟩
  go_wp2_with fail
  refine (bytes_cat _ A1 A _ d1 c 6 n _ _ _ (by first | exact Lw.Rd.nil _ _ _ | exact Lw.Rd.lit (Lw.blk_new' (by simp) _ _) rfl rfl | exact Lw.Rd.lit (Lw.blk_alloc (Lw.blk_new' (by simp) _ _) _) rfl rfl) ((Lw.Rd.of_own own1).alloc _) ((R.out.below (Nat.le_refl _) hb1).alloc _) (Lw.intsV_one _ _) (Lw.intsV_one _ _) (by omega)).mono ?_
  rintro e w3 ⟨A3, d3, rfl, own3, hb3⟩
  go_wp2_with fail
  refine (C.out _ _ _ (Lw.Rd.of_own own3)).mono ?_
  rintro e w4 ⟨rfl, hb4⟩
  go_wp2_with fail
  refine (hash_Little s 2 _ s1 (by omega) (by omega)).mono ?_
  rintro e w5 ⟨A5, d5, rfl, own5, hb5⟩
  go_wp2_with fail
  go_ret
  rw [E.out]
  exact ⟨A5, d5, rfl, Lw.ownsBase own5 (by have := hb1.size; have := hb3.size; have := hb4.size; simp at *; omega), by (repeat (first | exact Below.refl _ _ | refine Lw.bt ?_ (by assumption) | refine Lw.balloc ?_ _ | refine Lw.bdrewN ?_ _ | refine Below.drew ?_ | refine Lw.bset ?_ (by first | (simp; done) | (simp; omega) | omega) _))⟩
set_option maxRecDepth 20000 in
set_option maxHeartbeats 2000000 in
theorem cell_Make_ok (key count : Int) (A : Option Addr) (n c : Nat) (bs : List Int) (w : World) (R : Lw.Rd w 1 A n (Lw.intsV .u8 bs)) (hy : Lw.Byt bs) (hn : n ≤ 14) (k1 : 0 ≤ key) (k2 : key < 65536) (c1 : 0 ≤ count) (c2 : count ≤ 2147483648) :
    Calls Try.prog 35 #[.int .i64 key, .int .i64 count, .slice A n c] w fun e w' => ∃ A' c', e = .returned (.tuple #[.slice A' 17 c', .int .i64 0]) ∧ w'.ownsRow w.heap.size 5 1 (.slice A' 17 c') 17 (Lw.intsV .u8 (Lw.cellL key count bs)) ∧ Below w.heap.size w w' := by
  have k3 : ¬ key < 0 := by omega
  have k4 : ¬ 65536 ≤ key := by omega
  have c3 : ¬ count < 0 := by omega
  have c4 : ¬ 2147483648 < count := by omega
  have n1 : ¬ (14 : Int) < (n : Int) := by omega
  have R := Lib.hid R
  have M : ∀ w : World, (Instr.makeSlice 31 (.int .i64 15) (.int .i64 15)).run Try.prog w = .ok (.slice (some ⟨w.heap.size, 0, none⟩) 15 15) (w.alloc (.cells (List.replicate 15 (Value.int .u8 0)).toArray 5)) := fun w => Lw.run_mk elByte rfl .i64 .i64 15 (by decide) w
  obtain ⟨Z, hZ⟩ : ∃ Z, (List.replicate 15 (Value.int .u8 0)).toArray = Z := ⟨_, rfl⟩
  rw [hZ] at M
  have z0 : Z[0]? = some (.int .u8 0) := by rw [← hZ]; rfl
  have HZ := Lib.hid hZ
  have HZ2 : Hid (Z.setIfInBounds 0 (.int .u8 (n : Int)) = (.int .u8 (n : Int) :: List.replicate 14 (Value.int .u8 0)).toArray) := by show _ = _; rw [← hZ]; simp [List.replicate]
  clear hZ
  have l1 : bs.length = n := by have := R.out.1; simpa [Lw.intsV] using this
  have L := Lib.hid l1
  have hy2 := Lw.cellH_byt (by rw [l1]; exact hn) hy
  have S := Lib.hid (fun (A : Option Addr) (c : Nat) (w : World) R => cell_sum key count A 15 c (Lw.cellH bs) w R hy2 (by decide) k1 (by omega) c1 (by omega))
  have E : Hid (Lw.intsV .u8 (Lw.cellL key count bs) = Lw.intsV .u8 (Lw.cellH bs) ++ Lw.intsV .u8 (Lw.sumL key count (Lw.cellH bs))) := Lw.intsV_app _ _ _
  clear l1
  have P1 : 0 < (Lw.intsV .u8 bs).length → ∃ ad, A = some ad ∧ ∀ j v, (Lw.intsV .u8 bs)[j]? = some v → (w.alloc (.cells (Z.setIfInBounds 0 (.int .u8 (n : Int))) 5)).cell? (ad.add j) = some v := by
    intro hp
    obtain ⟨ad, e, _, h3⟩ := (R.out.alloc (.cells (Z.setIfInBounds 0 (.int .u8 (n : Int))) 5)).2 (by rw [Lw.intsV_length, L.out] at hp; exact hp)
    exact ⟨ad, e, h3⟩
  have P1 := Lib.hid P1
  go_enter Try.func35, Try.ntmps35
  go_wp2_with (first | (go_at_call 52; go_in) | (with_reducible refine wpList_copy_splice rfl (.tmp 22) (.tmp 23) 31 31 rfl 5 Try.underlying31 (by kernel_rfl) (some ⟨w.heap.size, 1, none⟩) A 14 14 n c rfl rfl w.heap.size 1 (.int .u8 (n : Int) :: List.replicate 14 (.int .u8 0)) 5 (by rw [HZ2.out]; exact heap_alloc_new _ _) (Lw.intsV .u8 bs) (by rw [Lw.intsV_length, L.out]; exact (Nat.min_eq_left hn).symm) (fun hp => ⟨rfl, P1.out hp⟩) (by rw [Lw.intsV_length, L.out, List.length_cons, List.length_replicate]; omega) (Lw.intsV_one _ _) w.heap.size w (Lw.balloc (Below.refl _ _) _) (Nat.le_refl _) ?_; intro w1 hg1 hb1; rw [Lw.splice_cell L.out hn] at hg1))
  have own1 : w1.ownsRow w.heap.size 5 1 (.slice (some ⟨w.heap.size, 0, none⟩) 15 15) 15 (Lw.intsV .u8 (Lw.cellH bs)) := Lw.own_blk hg1 (by rw [Lw.intsV_length, Lw.cellH_length (by rw [L.out]; exact hn)]) (by decide) (Nat.le_refl _)
  refine (S.out _ _ _ (Lw.Rd.of_own own1)).mono ?_
  rintro e w2 ⟨A2, c2, rfl, own2, hb2⟩
  go_wp2_with (at_builtin; refine Lw.wpList_app elByte rfl _ _ rfl rfl (Lw.ownsBelow own1 (Nat.le_refl _) hb2) rfl (Lw.Rd.of_own own2) (Lw.intsV_one _ _) (by omega) (Lw.bt hb1 hb2) (Nat.le_refl _) (by have := hb1.size; have := hb2.size; omega) ?_; intro v3 w3 own3 hb3 _ _)
  go_ret2
  obtain ⟨A3, c3, rfl, _⟩ := Lw.ownsForm own3
  rw [E.out]
  exact ⟨A3, c3, by simp, by simpa using own3, hb3⟩
end Go.Proofs.Ytkjcpjbdckbjcaa
namespace Lw
open Go Go.RowKit
theorem cellH_part {bs : List Int} {n m : Nat} (hl : bs.length = n) : ((n : Int) :: (bs ++ List.replicate (m - (n + 1)) 0)) ++ [0] = (n : Int) :: (bs ++ List.replicate (m + 1 - (n + 1)) 0) ∨ m < n + 1 := by
  by_cases h : m < n + 1
  · exact .inr h
  · left
    rw [show m + 1 - (n + 1) = (m - (n + 1)) + 1 by omega, List.replicate_succ']
    simp
end Lw
set_option linter.unusedVariables false
set_option linter.unusedSimpArgs false
namespace Go.Proofs.Ytkjcpjbdckbjcaa
open Go.RowKit
set_option maxHeartbeats 2000000 in
theorem ref_Cell (key count : Int) (A : Option Addr) (n c : Nat) (bs : List Int) (w : World) (R : Lw.Rd w 1 A n (Lw.intsV .u8 bs)) (hy : Lw.Byt bs) (hn : n ≤ 14) (k1 : 0 ≤ key) (k2 : key < 65536) (c1 : 0 ≤ count) (c2 : count ≤ 2147483648) :
    Calls Try.prog 23 #[.int .i64 key, .int .i64 count, .slice A n c] w (Lw.OwnRes 5 1 (Lw.intsV .u8 (Lw.cellL key count bs)) 17 w) := by
  have R := Lib.hid R
  have l1 : bs.length = n := by have := R.out.1; simpa [Lw.intsV] using this
  have L := Lib.hid l1
  have hy2 := Lw.cellH_byt (by rw [l1]; exact hn) hy
  have E : Hid (Lw.intsV .u8 (Lw.cellL key count bs) = Lw.intsV .u8 (Lw.cellH bs) ++ Lw.intsV .u8 (Lw.sumL key count (Lw.cellH bs))) := Lw.intsV_app _ _ _
  have E2 : Hid (Lw.sumL key count (Lw.cellH bs) = Lw.littleL (Lw.hsum (Lw.namedL key count ++ Lw.cellH bs)) 2) := rfl
  have E3 : Hid (Lw.cellH bs = (n : Int) :: (bs ++ List.replicate (15 - (n + 1)) 0)) := by show _ = _; rw [← l1]; unfold Lw.cellH; rw [show 15 - (bs.length + 1) = 14 - bs.length by omega]
  have C := fun (A : Option Addr) (c : Nat) (w : World) R => ref_Sum A (6 + 15) c (Lw.namedL key count ++ Lw.cellH bs) w R ((Lw.namedL_byt _ _).app hy2) (by omega)
  rw [Lw.intsV_app] at C
  obtain ⟨s1, s2⟩ := Lw.hsum_bd (Lw.namedL key count ++ Lw.cellH bs)
  have C := Lib.hid C
  generalize Lw.hsum (Lw.namedL key count ++ Lw.cellH bs) = s at *
  clear l1
  go_enter Try.func23, Try.ntmps23
  go_wp2_with (at_builtin; refine Lw.wpList_app elByte rfl _ _ rfl rfl (Lw.own_lit w (xs := [.int .u8 (n : Int)]) rfl rfl (by decide) (Nat.le_refl _)) rfl (R.out.alloc _) (Lw.intsV_one _ _) (by omega) (Lw.balloc (Below.refl _ _) _) (Nat.le_refl _) (by simp) ?_; intro v1 w1 own1 hb1 _ _)
  go_loopw [7] (fun b wr => ∃ (A' : Option Addr) (m c' : Nat), b = .slice A' m c' ∧ n + 1 ≤ m ∧ m ≤ 15 ∧ wr.ownsRow w.heap.size 5 1 b m (Lw.intsV .u8 ((n : Int) :: (bs ++ List.replicate (m - (n + 1)) 0))) ∧ Below w.heap.size w wr) (fun b _ => match b with | .slice _ m _ => 15 - m | _ => 0)
  case atStart =>
    obtain ⟨A1, d1, rfl, _⟩ := Lw.ownsForm own1
    exact ⟨A1, 1 + n, d1, rfl, by omega, by omega, by rw [show 1 + n - (n + 1) = 0 by omega]; simpa [Lw.intsV] using own1, hb1⟩
  case round =>
    clear own1 hb1
    obtain ⟨A', m, c', rfl, m1, m2, own, hB⟩ := hrel
    have OWN := Lib.hid own
    clear own
    have hsz := hB.size
    by_cases hlt : m < 15
    · have T : Hid (Lw.intsV .u8 ((n : Int) :: (bs ++ List.replicate (m - (n + 1)) 0)) ++ [.int .u8 0] = Lw.intsV .u8 ((n : Int) :: (bs ++ List.replicate (m + 1 - (n + 1)) 0))) := by
        rcases Lw.cellH_part (m := m) L.out with h | h
        · show _ = _; rw [← h, Lw.intsV_app]; rfl
        · omega
      go_wp2_with (at_builtin; refine Lw.wpList_app elByte rfl _ _ rfl rfl (OWN.out.alloc _) rfl (by first | exact Lw.Rd.nil _ _ _ | exact Lw.Rd.lit (Lw.blk_new' (by simp) _ _) rfl rfl | exact Lw.Rd.lit (Lw.blk_alloc (Lw.blk_new' (by simp) _ _) _) rfl rfl) (Lw.one1 _ _) (by omega) (Lw.balloc hB _) (Nat.le_refl _) (by simp; omega) ?_; intro v2 w2 own2 hb2 _ _)
      obtain ⟨A2, d2, rfl, _⟩ := Lw.ownsForm own2
      have O2 := Lib.hid own2
      clear own2
      go_wp2
      go_roundw
      case rel => exact ⟨A2, m + 1, d2, rfl, by omega, by omega, by rw [← T.out]; exact O2.out, hb2⟩
      case measure => simp; omega
    · have hm : m = 15 := by omega
      subst hm
      have O := OWN.out
      rw [← E3.out] at O
      have O := Lib.hid O
      clear OWN
      go_wp2_with fail
      refine (ref_named key count _ k1 (by omega) c1 (by omega)).mono ?_
      rintro e w3 ⟨A3, d3, rfl, own3, hb3⟩
      go_wp2_with (at_builtin; refine Lw.wpList_app elByte rfl (.tmp 24) (.tmp 25) rfl rfl own3 rfl (Lw.Rd.of_own (Lw.ownsBelow O.out (Nat.le_refl _) hb3)) (Lw.intsV_one _ _) (by omega) hb3 (Nat.le_refl _) hb3.size ?_; intro v4 w4 own4 hb4 _ _)
      obtain ⟨A4, d4, rfl, _⟩ := Lw.ownsForm own4
      refine (C.out _ _ _ (Lw.Rd.of_own own4)).mono ?_
      rintro e w5 ⟨rfl, hb5⟩
      go_wp2_with fail
      refine (ref_little s 2 _ s1 (by omega) (by omega)).mono ?_
      rintro e w6 ⟨A6, d6, rfl, own6, hb6⟩
      have hb36 := Lw.bt (Lw.bt hb4 hb5) hb6
      go_wp2_with (at_builtin; refine Lw.wpList_app elByte rfl (.tmp 21) (.tmp 28) rfl rfl (Lw.ownsBelow O.out (Nat.le_refl _) hb36) rfl (Lw.Rd.of_own own6) (Lw.intsV_one _ _) (by omega) (Lw.bt hB hb36) (Nat.le_refl _) (by have := hb36.size; omega) ?_; intro v7 w7 own7 hb7 _ _)
      go_ret
      obtain ⟨A7, d7, rfl, _⟩ := Lw.ownsForm own7
      rw [E.out, E2.out]
      exact ⟨A7, d7, by simp, by simpa using own7, hb7⟩
end Go.Proofs.Ytkjcpjbdckbjcaa
