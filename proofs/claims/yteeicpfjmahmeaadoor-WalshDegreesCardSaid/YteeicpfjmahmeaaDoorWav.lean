/- walsh.Waves: the signed sums; the reference's parts: Bit, Ones, FunctionCheck. -/
import Derived.Test.YteeicpfjmahmeaaDoorWal
import Derived.Test.YteeicpfjmahmeaaDoorBit
namespace Lw
open Go Go.RowKit
def prW (a b : Int) : Int × Int := (a + b, a - b)
def okF (n f : Int) : Prop := 0 ≤ n ∧ n ≤ 5 ∧ f < 2 ^ (2 ^ n.toNat)
def bitF (f : Int) (x : Nat) : Int := f / 2 ^ x % 2
instance (n f : Int) : Decidable (okF n f) := by unfold okF; infer_instance
theorem bitF_bd (f : Int) (x : Nat) : 0 ≤ bitF f x ∧ bitF f x ≤ 1 := by unfold bitF; omega
theorem and_bit (f : Int) (x : Nat) (h0 : 0 ≤ f) (h1 : f < 4294967296) : bits .and .u32 (f / 2 ^ x) 1 = bitF f x := by
  obtain ⟨n, rfl⟩ := Int.eq_ofNat_of_zero_le h0
  have e : ((n : Int) / 2 ^ x) = ((n / 2 ^ x : Nat) : Int) := by rw [Int.natCast_ediv, Int.natCast_pow]; rfl
  have h2 : n / 2 ^ x ≤ n := Nat.div_le_self _ _
  unfold bitF
  rw [e, show (1 : Int) = ((1 : Nat) : Int) from rfl, Go.u32_and_nat _ 1 (by omega) (by omega), Go.nat_mask1]
  omega
def wavG (f : Int) (x : Nat) : Int := 1 - 2 * bitF f x
theorem itr_bd {g : Nat → Int} (h : ∀ i, -1 ≤ g i ∧ g i ≤ 1) : ∀ k i, -2 ^ k ≤ itr prW g k i ∧ itr prW g k i ≤ 2 ^ k
  | 0, i => h i
  | k + 1, i => by
    have h1 := itr_bd h k i
    have h2 := itr_bd h k (i - 2 ^ k)
    have h3 := itr_bd h k (i + 2 ^ k)
    show _ ≤ flyP prW k (itr prW g k) i ∧ flyP prW k (itr prW g k) i ≤ _
    unfold flyP
    rw [Int.pow_succ]
    generalize (2 : Int) ^ k = P at *
    split
    · show _ ≤ itr prW g k (i - 2 ^ k) - itr prW g k i ∧ itr prW g k (i - 2 ^ k) - itr prW g k i ≤ _
      omega
    · show _ ≤ itr prW g k i + itr prW g k (i + 2 ^ k) ∧ itr prW g k i + itr prW g k (i + 2 ^ k) ≤ _
      omega
theorem pow_i32 : ∀ k, k < 6 → (2 : Int) ^ k ≤ 32 := by decide
theorem shl_pow : ∀ n, n < 6 → IntKind.i64.wrap (2 ^ n) = ((2 ^ n : Nat) : Int) := by decide
theorem itr_64 {f : Int} {k i : Nat} (hk : k < 6) : -64 ≤ itr prW (wavG f) k i ∧ itr prW (wavG f) k i ≤ 64 := by
  have h := itr_bd (g := wavG f) (fun i => by have := bitF_bd f i; unfold wavG; omega) k i
  have := pow_i32 k hk
  omega
/-- a row half filled -/
def halfG (g : Nat → Int) (x i : Nat) : Int := if i < x then g i else 0
theorem half_zero {N : Nat} {g : Nat → Int} : rowF N (halfG g 0) = List.replicate N 0 := by
  have : halfG g 0 = fun _ => 0 := by funext i; unfold halfG; rw [if_neg (by omega)]
  rw [this]
  apply List.ext_getElem <;> simp [rowF]
theorem half_end {N : Nat} {g : Nat → Int} : rowF N (halfG g N) = rowF N g := rowF_congr fun i hi => if_pos hi
theorem half_next {N x : Nat} {g : Nat → Int} : (rowF N (halfG g x)).set x (g x) = rowF N (halfG g (x + 1)) := by
  rw [rowF_set]
  refine rowF_congr fun i _ => ?_
  unfold halfG
  by_cases h : i = x
  · subst h; rw [if_pos rfl, if_pos (by omega)]
  · rw [if_neg h]
    by_cases h2 : i < x
    · rw [if_pos h2, if_pos (by omega)]
    · rw [if_neg h2, if_neg (by omega)]
end Lw
set_option linter.unusedVariables false
set_option linter.unusedSimpArgs false
namespace Go.Proofs.YteeicpfjmahmeaaDoor
open Go.RowKit
theorem walsh_out_ok (n : Nat) (f : Int) (w : World) (hn : n < 6) (f0 : 0 ≤ f) (hf : f < 2 ^ (2 ^ n)) :
    Calls Tryd.prog 7 #[.int .i64 (n : Int), .int .u32 f] w fun e w' => e = .returned (.bool false) ∧ w = w' := by
  rcases (by omega : n = 0 ∨ n = 1 ∨ n = 2 ∨ n = 3 ∨ n = 4 ∨ n = 5) with h | h | h | h | h | h <;> subst h <;> simp only [Nat.reducePow, Int.reducePow] at hf <;> (go_enter Tryd.func7, Tryd.ntmps7) <;> go_wp2 <;> go_ret <;> refine ⟨?_, rfl⟩ <;> simp <;> omega
theorem walsh_out_bad (n : Int) (f : Int) (w : World) (f0 : 0 ≤ f) (f1 : f < 4294967296) (n1 : -9223372036854775808 ≤ n) (n2 : n ≤ 9223372036854775807) (h : ¬ Lw.okF n f) :
    Calls Tryd.prog 7 #[.int .i64 n, .int .u32 f] w fun e w' => e = .returned (.bool true) ∧ w = w' := by
  rcases (by omega : n < 0 ∨ 5 < n ∨ n = 0 ∨ n = 1 ∨ n = 2 ∨ n = 3 ∨ n = 4 ∨ n = 5) with h1 | h1 | h1 | h1 | h1 | h1 | h1 | h1
  · clear h
    go_enter Tryd.func7, Tryd.ntmps7
    go_wp2
    go_ret
    exact ⟨rfl, rfl⟩
  · clear h
    have h2 : ¬ n < 0 := by omega
    go_enter Tryd.func7, Tryd.ntmps7
    go_wp2
    go_ret
    exact ⟨rfl, rfl⟩
  · subst h1
    have h : ¬ f < 2 := fun e => h ⟨by omega, by omega, by simpa using e⟩
    go_enter Tryd.func7, Tryd.ntmps7
    go_wp2
    go_ret
    refine ⟨?_, rfl⟩
    simp
    omega
  · subst h1
    have h : ¬ f < 4 := fun e => h ⟨by omega, by omega, by simpa using e⟩
    go_enter Tryd.func7, Tryd.ntmps7
    go_wp2
    go_ret
    refine ⟨?_, rfl⟩
    simp
    omega
  · subst h1
    have h : ¬ f < 16 := fun e => h ⟨by omega, by omega, by simpa using e⟩
    go_enter Tryd.func7, Tryd.ntmps7
    go_wp2
    go_ret
    refine ⟨?_, rfl⟩
    simp
    omega
  · subst h1
    have h : ¬ f < 256 := fun e => h ⟨by omega, by omega, by simpa using e⟩
    go_enter Tryd.func7, Tryd.ntmps7
    go_wp2
    go_ret
    refine ⟨?_, rfl⟩
    simp
    omega
  · subst h1
    have h : ¬ f < 65536 := fun e => h ⟨by omega, by omega, by simpa using e⟩
    go_enter Tryd.func7, Tryd.ntmps7
    go_wp2
    go_ret
    refine ⟨?_, rfl⟩
    simp
    omega
  · subst h1
    have h : ¬ f < 4294967296 := fun e => h ⟨by omega, by omega, by simpa using e⟩
    go_enter Tryd.func7, Tryd.ntmps7
    go_wp2
    go_ret
    refine ⟨?_, rfl⟩
    simp
    omega
end Go.Proofs.YteeicpfjmahmeaaDoor
