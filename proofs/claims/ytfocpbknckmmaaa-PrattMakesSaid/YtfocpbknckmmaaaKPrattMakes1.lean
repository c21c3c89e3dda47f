/-
  Plain lemmas on the bits of natural numbers. No program is in sight.
  A map of counts: what it says after k numbers; whether a number stands twice (plain).
  The least logarithm: small and large steps (plain); a map of the last place of each number.
  slices.Sort, slices.Sorted, maps.Keys and slices.BinarySearch at int64: the contracts of the kit laid at the seat pq (written by the kit lay-plain.mjs; the numbers are this seat own).
  Taking the operations of a region by hand, with a condition on the world.
  What the walks of this seat share: imports, and words on memory.
  Contracts of the small helpers of the statements: Far, both, modulus, first.
  Contracts: remainders and powers, of the program and of the reference.
  Contracts of package euclid: step, abs, far, Gcd, Inverse; and of the reference's Gcd.
  Contracts of euclid.Lcm and of the reference's Lcm.
  A range over a function whose iterator keeps its state in one block of cells of its own (a captured variable that it turns): the word of its contract, and the law for the loop.
  Slices: a slice that reads as a list of cells; a slice that a call has made; the appends.
  append onto a row of the call's own, the source any slice that reads as a list (nil let in): the operation and what it leaves.
  slices.Backward: the iterator over a slice from behind, for whatever loop body leaves the slice alone.
  slices.Grow of nil and slices.Concat of two rows.
  Contract of the reference's Factor: the list of the prime factors.
  slices.Sorted over maps.Keys at keys of int64, slices.BinarySearch, as contracts.
  Regions that draw, walked by hand, with calls that make memory: the condition on the world is that all blocks of a world w0 stand.
  Rows of the call's own beside others: an append onto one leaves those of other elements.
  An argument that is a row of integers, in the words of the walks.
  An argument that is a slice (of numbers, of truths, of structs of such, of slices): what its memory holds, in one predicate.
  An argument that is a slice of structs with rows in them, and how long those rows are (each read slice takes fewer than 2^47 bytes).
  A table: a slice of rows of numbers that came in.
-/
import Derived.WalkKit
import Derived.Laws.BitsAllLaws
import Derived.Below
import Derived.Maps.OwnOps
import Derived.Maps.OwnSet
import Derived.Maps.Views
import Derived.Test.YtfocpbknckmmaaaKPrattMakes0
import Derived.Shelf.SlGeneric
import Derived.Shelf.SlIterI.Nil
import Derived.Shelf.SortM.Plain
import Derived.Shelf.SortM.SortNone
import Derived.Shelf.SlicesG.SearchI
import Derived.Ground.GgzProg
import Derived.Ground.SlgmProg
import Derived.Ground.SlgnProg
import Derived.Test.YtfocpbknckmmaaaProg
import Derived.Deep.RegionHeld3
import Derived.Test.YtfocpbknckmmaaaChecked
import Derived.ProofKit
import Derived.OpenShut
import Derived.WalkSpells
import Derived.WalkLawsBesides
import Derived.Handy
import Derived.Lib.Hide
import Derived.Outline
import Derived.Deep.QuietTactic
import Derived.BigQuiet
import Derived.RangeFuncNested
import Derived.RangeFuncBound
import Derived.RangeFuncCalls
import Derived.RangeFuncLeaves
import Derived.Shelf.Abstract
import Derived.Shelf.RegionOpen
import Derived.OwnWalkIn
import Derived.TacticsInMore
import Derived.LoopNIn
import Derived.LoopIn
import Derived.OneCell
import Derived.Laws.OwnMore
import Derived.Maps.AppendAt
import Derived.Lib.AppendZeros
import Derived.BigFrame
import Derived.Laws.MakeOwn
import Derived.Deep.Slices
import Derived.Deep.Fields
import Derived.ChangeSame
import Derived.ChangeShapes
import Derived.SizedLaws
set_option linter.unusedVariables false
set_option linter.unusedSimpArgs false
namespace Lw

theorem add_eq_xor (a : Nat) : ∀ b : Nat, a + b = (a ^^^ b) + 2 * (a &&& b) := by
  induction a using Nat.strongRecOn with
  | ind a ih =>
    intro b
    by_cases h : a = 0
    · subst h; simp
    · have h1 := ih (a / 2) (by omega) (b / 2)
      have h2 : (a ^^^ b) / 2 = a / 2 ^^^ b / 2 := Nat.xor_div_two
      have h3 : (a &&& b) / 2 = a / 2 &&& b / 2 := Nat.and_div_two
      have h4 : (a ^^^ b) % 2 = (a + b) % 2 := by
        have : (a ^^^ b) % 2 = (a % 2 ^^^ b % 2) := by
          have := @Nat.xor_mod_two_pow a b 1
          simpa using this
        rw [this, Nat.add_mod]
        rcases Nat.mod_two_eq_zero_or_one a with e | e <;> rcases Nat.mod_two_eq_zero_or_one b with f | f <;> rw [e, f] <;> rfl
      have h5 : (a &&& b) % 2 = a % 2 * (b % 2) := by
        have : (a &&& b) % 2 = (a % 2 &&& b % 2) := by
          have := @Nat.and_mod_two_pow a b 1
          simpa using this
        rw [this]
        rcases Nat.mod_two_eq_zero_or_one a with e | e <;> rcases Nat.mod_two_eq_zero_or_one b with f | f <;> rw [e, f] <;> rfl
      rw [← h2, ← h3] at h1
      rcases Nat.mod_two_eq_zero_or_one a with e | e <;> rcases Nat.mod_two_eq_zero_or_one b with f | f <;> rw [e, f] at h5 <;> simp only [Nat.zero_mul, Nat.mul_zero, Nat.mul_one] at h5 <;> omega

theorem and_le_left' (a b : Nat) : (a &&& b) ≤ a := Nat.and_le_left

theorem xor_eq_sub (a b : Nat) : (a ^^^ b : Nat) = a + b - 2 * (a &&& b) := by
  have := add_eq_xor a b; omega

theorem xor_lt_of (a b n : Nat) (ha : a < 2 ^ n) (hb : b < 2 ^ n) : a ^^^ b < 2 ^ n := Nat.xor_lt_two_pow ha hb

theorem i64_and_nat (a b : Nat) (ha : a < 9223372036854775808) (hb : b < 9223372036854775808) : Go.bits .and .i64 (a : Int) (b : Int) = ((a &&& b : Nat) : Int) := by
  have e : a &&& b ≤ a := Nat.and_le_left
  show Go.IntKind.i64.wrap ((BitVec.ofInt 64 (a : Int) &&& BitVec.ofInt 64 (b : Int)).toNat : Int) = _
  rw [BitVec.toNat_and, Go.ofInt_u64 a (by omega), Go.ofInt_u64 b (by omega), Go.IntKind.wrap_i64]
  omega
theorem i64_or_nat (a b : Nat) (ha : a < 9223372036854775808) (hb : b < 9223372036854775808) : Go.bits .or .i64 (a : Int) (b : Int) = ((a ||| b : Nat) : Int) := by
  have e : a ||| b < 2 ^ 63 := Nat.or_lt_two_pow (by omega) (by omega)
  show Go.IntKind.i64.wrap ((BitVec.ofInt 64 (a : Int) ||| BitVec.ofInt 64 (b : Int)).toNat : Int) = _
  rw [BitVec.toNat_or, Go.ofInt_u64 a (by omega), Go.ofInt_u64 b (by omega), Go.IntKind.wrap_i64]
  omega
theorem i64_xor_nat (a b : Nat) (ha : a < 9223372036854775808) (hb : b < 9223372036854775808) : Go.bits .xor .i64 (a : Int) (b : Int) = ((a ^^^ b : Nat) : Int) := by
  have e : a ^^^ b < 2 ^ 63 := Nat.xor_lt_two_pow (by omega) (by omega)
  show Go.IntKind.i64.wrap ((BitVec.ofInt 64 (a : Int) ^^^ BitVec.ofInt 64 (b : Int)).toNat : Int) = _
  rw [BitVec.toNat_xor, Go.ofInt_u64 a (by omega), Go.ofInt_u64 b (by omega), Go.IntKind.wrap_i64]
  omega
theorem and_one (k : Int) (h : 0 ≤ k) (h2 : k < 9223372036854775808) : Go.bits .and .i64 k 1 = k % 2 := by
  obtain ⟨n, rfl⟩ := Int.eq_ofNat_of_zero_le h
  have := i64_and_nat n 1 (by omega) (by omega)
  rw [Go.nat_mask1] at this
  simpa using this
end Lw
namespace Lw
open Go Go.RowKit Go.Maps
/-- are two of the first k the same? -/
def DupP (zs : List Int) (k : Nat) : Prop := ∃ i j, j < i ∧ i < k ∧ zs.getD i 0 = zs.getD j 0
theorem dup_mono {zs : List Int} {k : Nat} (h : DupP zs k) : DupP zs (k + 1) := by
  obtain ⟨i, j, h1, h2, h3⟩ := h
  exact ⟨i, j, h1, by omega, h3⟩
theorem dup_next {zs : List Int} {k : Nat} (h : DupP zs (k + 1)) : DupP zs k ∨ ∃ j, j < k ∧ zs.getD k 0 = zs.getD j 0 := by
  obtain ⟨i, j, h1, h2, h3⟩ := h
  by_cases e : i = k
  · subst e; exact .inr ⟨j, h1, h3⟩
  · exact .inl ⟨i, j, h1, by omega, h3⟩
/-- what a map of counts says after k numbers -/
def CntR (zs : List Int) (k : Nat) (D : DataW Unit) : Prop := (∀ z : Int, Maps.has D (.int .i64 z) = true ↔ ∃ j, j < k ∧ zs.getD j 0 = z) ∧ ((Maps.size D = k ∧ ¬ DupP zs k) ∨ (Maps.size D < k ∧ DupP zs k))
theorem cnt_zero (zs : List Int) : CntR zs 0 (.map []) := ⟨fun z => ⟨fun h => (by cases h), fun ⟨j, h, _⟩ => (by omega)⟩, .inl ⟨rfl, fun ⟨i, j, h1, h2, _⟩ => (by omega)⟩⟩
theorem cnt_next {zs : List Int} {k : Nat} {D : DataW Unit} (hD : Maps.Tidy D) (hM : Maps.IsMap D) (h : CntR zs k D) {z : Int} (hz : zs.getD k 0 = z) (hk : WideAt.IsKeyLit (.int .i64 z)) (d : DataW Unit) : CntR zs (k + 1) (D.put (.int .i64 z) d) := by
  obtain ⟨h1, h2⟩ := h
  refine ⟨fun y => ?_, ?_⟩
  · by_cases e : y = z
    · subst e
      rw [Maps.has_put_same hM hk d]
      exact ⟨fun _ => ⟨k, by omega, hz⟩, fun _ => rfl⟩
    · rw [Maps.has_put_other (by intro h; injection h with _ h; exact e h) d, h1 y]
      refine ⟨fun ⟨j, hj, hy⟩ => ⟨j, (by omega), hy⟩, fun ⟨j, hj, hy⟩ => ⟨j, ?_, hy⟩⟩
      rcases Nat.lt_or_ge j k with h | h
      · exact h
      · have hjk : j = k := by omega
        subst hjk
        exact absurd (hy.symm.trans hz) e
  · rw [Maps.size_put hD d]
    by_cases e : Maps.has D (.int .i64 z) = true
    · rw [if_pos e]
      obtain ⟨j, hj, hy⟩ := (h1 z).1 e
      refine .inr ⟨by rcases h2 with h | h <;> omega, k, j, hj, by omega, hz.trans hy.symm⟩
    · rw [if_neg e]
      rcases h2 with ⟨h3, h4⟩ | ⟨h3, h4⟩
      · refine .inl ⟨by omega, fun hd => ?_⟩
        rcases dup_next hd with h5 | ⟨j, hj, hy⟩
        · exact h4 h5
        · exact e ((h1 z).2 ⟨j, hj, hy.symm.trans hz⟩)
      · exact .inr ⟨by omega, dup_mono h4⟩
theorem cnt_end {zs : List Int} {n : Nat} {D : DataW Unit} (h : CntR zs n D) : (Maps.size D < n ↔ DupP zs n) ∧ Maps.size D ≤ n := by
  rcases h.2 with ⟨h1, h2⟩ | ⟨h1, h2⟩
  · exact ⟨⟨fun h => by omega, fun h => absurd h h2⟩, by omega⟩
  · exact ⟨⟨fun _ => h2, fun _ => h1⟩, by omega⟩
end Lw
namespace Lw
open Go Go.RowKit Go.Maps
/-- the least power that is a, or -1 -/
def LgP (g a p r : Int) : Prop := (0 ≤ r ∧ r ≤ p ∧ pw g r p = a % p ∧ ∀ j, 0 ≤ j → j < r → ¬ pw g j p = a % p) ∨ (r = -1 ∧ ∀ j, 0 ≤ j → j ≤ p → ¬ pw g j p = a % p)
theorem least_nat {P : Nat → Prop} : ∀ n, P n → ∃ k, k ≤ n ∧ P k ∧ ∀ j, j < k → ¬ P j := by
  intro n
  induction n using Nat.strongRecOn with
  | ind n ih =>
    intro h
    by_cases h2 : ∃ j, j < n ∧ P j
    · obtain ⟨j, h3, h4⟩ := h2
      obtain ⟨k, k1, k2, k3⟩ := ih j h3 h4
      exact ⟨k, by omega, k2, k3⟩
    · exact ⟨n, Nat.le_refl _, h, fun j hj hp => h2 ⟨j, hj, hp⟩⟩
theorem lg_ex (g a p : Int) : ∃ r, LgP g a p r := by
  by_cases h : ∃ k : Nat, (k : Int) ≤ p ∧ pw g (k : Int) p = a % p
  · obtain ⟨k, hk⟩ := h
    obtain ⟨m, m1, ⟨m2, m3⟩, m4⟩ := least_nat (P := fun k : Nat => (k : Int) ≤ p ∧ pw g (k : Int) p = a % p) k hk
    refine ⟨m, .inl ⟨by omega, m2, m3, fun j j0 j1 hj => ?_⟩⟩
    obtain ⟨i, rfl⟩ := Int.eq_ofNat_of_zero_le j0
    exact m4 i (by omega) ⟨by omega, hj⟩
  · refine ⟨-1, .inr ⟨rfl, fun j j0 j1 hj => ?_⟩⟩
    obtain ⟨i, rfl⟩ := Int.eq_ofNat_of_zero_le j0
    exact h ⟨i, j1, hj⟩
theorem lg_emod {g a p r : Int} (h : LgP g a p r) : LgP (g % p) (a % p) p r := by
  unfold LgP at *
  simp only [pw_emod, Int.emod_emod]
  exact h
theorem lg_least {g a p r k : Int} (h : LgP g a p r) (h0 : 0 ≤ k) (h1 : k ≤ p) (h2 : pw g k p = a % p) (h3 : ∀ j, 0 ≤ j → j < k → ¬ pw g j p = a % p) : r = k := by
  rcases h with ⟨a1, a2, a3, a4⟩ | ⟨a1, a2⟩
  · rcases Int.lt_trichotomy r k with h | h | h
    · exact absurd a3 (h3 r a1 h)
    · exact h
    · exact absurd h2 (a4 k h0 h)
  · exact absurd h2 (a2 k h0 h1)
theorem lg_none {g a p r : Int} (h : LgP g a p r) (h3 : ∀ j, 0 ≤ j → j ≤ p → ¬ pw g j p = a % p) : r = -1 := by
  rcases h with ⟨a1, a2, a3, _⟩ | ⟨a1, _⟩
  · exact absurd a3 (h3 r a1 a2)
  · exact a1
theorem pw_nat (g : Int) (k : Nat) (p : Int) : pw g (k : Int) p = g ^ k % p := by unfold pw; rw [Int.toNat_natCast]
theorem pow_not {p : Nat} (hp : Prime p) {g : Int} (hg : ¬ (p : Int) ∣ g) : ∀ k : Nat, ¬ (p : Int) ∣ g ^ k
  | 0 => by rw [Int.pow_zero]; exact hp.not_dvd_one
  | k + 1 => by
    rw [Int.pow_succ]
    intro h
    rcases hp.dvd_mul_int h with h | h
    · exact pow_not hp hg k h
    · exact hg h
theorem lg_match {p : Nat} (hp : Prime p) {g a : Int} (hg : ¬ (p : Int) ∣ g) {n j : Nat} : g ^ (n + j) % (p : Int) = a * g ^ j % (p : Int) ↔ g ^ n % (p : Int) = a % (p : Int) := by
  constructor
  · intro h
    have h1 : (p : Int) ∣ g ^ (n + j) - a * g ^ j := Int.dvd_of_emod_eq_zero (Int.emod_eq_emod_iff_emod_sub_eq_zero.1 h)
    rw [Int.pow_add, ← Int.sub_mul] at h1
    rcases hp.dvd_mul_int h1 with h2 | h2
    · exact Int.emod_eq_emod_iff_emod_sub_eq_zero.2 (Int.emod_eq_zero_of_dvd h2)
    · exact absurd h2 (pow_not hp hg j)
  · intro h
    rw [Int.pow_add, Int.mul_emod, h, ← Int.mul_emod]
/-- the small steps, the large ones -/
def lgX (g a p : Int) (j : Nat) : Int := a * g ^ j % p
def lgY (g p : Int) (s i : Nat) : Int := g ^ (i * s) % p
theorem lgX_zero {g a p : Int} (h0 : 0 ≤ a) (h1 : a < p) : lgX g a p 0 = a := by unfold lgX; rw [Int.pow_zero, Int.mul_one, Int.emod_eq_of_lt h0 h1]
theorem lgX_succ (g a p : Int) (j : Nat) : lgX g a p j * g % p = lgX g a p (j + 1) := by
  unfold lgX; rw [Int.pow_succ, ← Int.mul_assoc, Int.mul_emod, Int.emod_emod, ← Int.mul_emod]
theorem lgY_zero {p : Int} (hp : 2 ≤ p) (g : Int) (s : Nat) : lgY g p s 0 = 1 := by unfold lgY; rw [Nat.zero_mul, Int.pow_zero, Int.emod_eq_of_lt (by omega) (by omega)]
theorem lgY_succ (g p : Int) (s i : Nat) : lgY g p s i * pw g (s : Int) p % p = lgY g p s (i + 1) := by
  unfold lgY; rw [pw_nat, Nat.succ_mul, Int.pow_add, ← Int.mul_emod]
theorem lg_hit {p : Nat} (hp : Prime p) {g a r : Int} (hg : ¬ (p : Int) ∣ g) (a0 : 0 ≤ a) (a1 : a < p) (ha : ¬ a = 1) (hr : LgP g a p r) {s i j : Nat} (hi : 1 ≤ i) (hj : j < s) (hm : lgY g p s i = lgX g a p j)
    (hl : ∀ j', j < j' → j' < s → ¬ lgX g a p j' = lgX g a p j) (hn : ∀ i', 1 ≤ i' → i' < i → ∀ j', j' < s → ¬ lgY g p s i' = lgX g a p j') : r = (i : Int) * (s : Int) - (j : Int) := by
  have hp2 := hp.1
  have key : ∀ i' j' : Nat, 1 ≤ i' → j' < s → (lgY g p s i' = lgX g a p j' ↔ g ^ (i' * s - j') % (p : Int) = a % (p : Int)) := fun i' j' h1 h2 => by
    have h3 : s ≤ i' * s := Nat.le_mul_of_pos_left s (by omega)
    have e : i' * s = (i' * s - j') + j' := by omega
    unfold lgY lgX
    rw [← lg_match hp hg (n := i' * s - j') (j := j'), ← e]
  have h3 : s ≤ i * s := Nat.le_mul_of_pos_left s (by omega)
  have least : ∀ k : Nat, k < i * s - j → ¬ g ^ k % (p : Int) = a % (p : Int) := fun k hk hh => by
    rcases Nat.eq_zero_or_pos k with h0 | h0
    · subst h0
      rw [Int.pow_zero, Int.emod_eq_of_lt (by omega) (by omega), Int.emod_eq_of_lt a0 a1] at hh
      exact ha hh.symm
    · have hs : 0 < s := by omega
      have d1 := Nat.div_add_mod (k + s - 1) s
      have d2 := Nat.mod_lt (k + s - 1) hs
      obtain ⟨q, hq⟩ : ∃ q, (k + s - 1) / s = q := ⟨_, rfl⟩
      rw [hq, Nat.mul_comm] at d1
      have q1 : 1 ≤ q := by rw [← hq]; exact (Nat.le_div_iff_mul_le hs).2 (by omega)
      have qj : q * s - k < s := by omega
      have hm2 := (key q (q * s - k) q1 qj).2 (by rw [show q * s - (q * s - k) = k by omega]; exact hh)
      have qi : q ≤ i := by
        rcases Nat.lt_or_ge i q with h | h
        · have := Nat.mul_le_mul_right s (show i + 1 ≤ q from h)
          rw [Nat.succ_mul] at this; omega
        · exact h
      rcases Nat.lt_or_ge q i with h | h
      · exact hn q q1 h _ qj hm2
      · have : q = i := by omega
        subst this
        exact hl (q * s - k) (by omega) qj (hm2.symm.trans hm)
  have hk := (key i j hi hj).1 hm
  obtain ⟨k, hkk⟩ : ∃ k, i * s - j = k := ⟨_, rfl⟩
  rw [hkk] at hk least
  have kp : k ≤ p - 1 := by
    rcases Nat.lt_or_ge (p - 1) k with h | h
    · exfalso
      have hf : g ^ (p - 1) % (p : Int) = 1 % (p : Int) := by
        obtain ⟨n, hn'⟩ : ∃ n : Nat, g % (p : Int) = (n : Int) := Int.eq_ofNat_of_zero_le (Int.emod_nonneg _ (by omega))
        have hnp : ¬ p ∣ n := fun h => hg (Int.dvd_of_emod_eq_zero (by
          have h4 : (p : Int) ∣ (n : Int) := Int.natCast_dvd_natCast.2 h
          rw [← hn'] at h4
          have := Int.emod_eq_zero_of_dvd h4
          rwa [Int.emod_emod] at this))
        have h5 := fermat hp hnp
        have h6 := pw_emod g ((p - 1 : Nat) : Int) (p : Int)
        rw [pw_nat, pw_nat, hn'] at h6
        rw [← h6]
        exact Int.emod_eq_emod_iff_emod_sub_eq_zero.2 (Int.emod_eq_zero_of_dvd h5)
      refine least (k - (p - 1)) (by omega) ?_
      rw [← hk]
      have e : k = (k - (p - 1)) + (p - 1) := by omega
      conv => rhs; rw [e, Int.pow_add, Int.mul_emod, hf, ← Int.mul_emod, Int.mul_one]
    · exact h
  have := lg_least hr (k := (k : Int)) (by omega) (by omega) (by rw [pw_nat]; exact hk) (fun j' j0 j1 hj' => by
    obtain ⟨n, rfl⟩ := Int.eq_ofNat_of_zero_le j0
    rw [pw_nat] at hj'
    exact least n (by omega) hj')
  rw [this, ← hkk]
  have h4 : ((i * s : Nat) : Int) = (i : Int) * (s : Int) := Int.natCast_mul _ _
  omega
theorem lg_miss {p : Nat} (hp : Prime p) {g a r : Int} (hg : ¬ (p : Int) ∣ g) (a0 : 0 ≤ a) (a1 : a < p) (ha : ¬ a = 1) (hr : LgP g a p r) {s : Nat} (hs : p ≤ s * s)
    (hn : ∀ i', 1 ≤ i' → i' ≤ s → ∀ j', j' < s → ¬ lgY g p s i' = lgX g a p j') : r = -1 := by
  have hp2 := hp.1
  refine lg_none hr fun j j0 j1 hh => ?_
  obtain ⟨k, rfl⟩ := Int.eq_ofNat_of_zero_le j0
  rw [pw_nat] at hh
  rcases Nat.eq_zero_or_pos k with h0 | h0
  · subst h0
    rw [Int.pow_zero, Int.emod_eq_of_lt (by omega) (by omega), Int.emod_eq_of_lt a0 a1] at hh
    exact ha hh.symm
  · have hs0 : 0 < s := by rcases Nat.eq_zero_or_pos s with h | h; subst h; simp at hs; omega; exact h
    have d1 := Nat.div_add_mod (k + s - 1) s
    have d2 := Nat.mod_lt (k + s - 1) hs0
    obtain ⟨q, hq⟩ : ∃ q, (k + s - 1) / s = q := ⟨_, rfl⟩
    rw [hq, Nat.mul_comm] at d1
    have q1 : 1 ≤ q := by rw [← hq]; exact (Nat.le_div_iff_mul_le hs0).2 (by omega)
    have qj : q * s - k < s := by omega
    have qs : q ≤ s := by
      rcases Nat.lt_or_ge s q with h | h
      · have := Nat.mul_le_mul_right s (show s + 1 ≤ q from h)
        rw [Nat.succ_mul] at this; omega
      · exact h
    refine hn q q1 qs _ qj ?_
    have e : q * s = k + (q * s - k) := by omega
    unfold lgY lgX
    rw [← lg_match hp hg (n := k) (j := q * s - k), ← e] at hh
    exact hh
/-- what the map says: of each number the last place -/
def LstR (f : Nat → Int) (k : Nat) (D : DataW Unit) : Prop := (∀ z : Int, Maps.has D (.int .i64 z) = true ↔ ∃ j, j < k ∧ f j = z) ∧ ∀ j, j < k → (∀ j', j < j' → j' < k → ¬ f j' = f j) → D.atKey (.int .i64 (f j)) (.lit (.int .i64 0)) = .lit (.int .i64 (j : Int))
theorem lst_zero (f : Nat → Int) : LstR f 0 (.map []) := ⟨fun z => ⟨fun h => (by cases h), fun ⟨j, h, _⟩ => (by omega)⟩, fun j hj => absurd hj (by omega)⟩
theorem lst_next {f : Nat → Int} {k : Nat} {D : DataW Unit} (hM : Maps.IsMap D) (h : LstR f k D) {z : Int} (hz : f k = z) (hk : WideAt.IsKeyLit (.int .i64 z)) : LstR f (k + 1) (D.put (.int .i64 z) (.lit (.int .i64 (k : Int)))) := by
  obtain ⟨h1, h2⟩ := h
  have ne : ∀ y, y ≠ z → (Lit.int .i64 y) ≠ .int .i64 z := fun y hy h => by injection h with _ h; exact hy h
  refine ⟨fun y => ?_, fun j hj hl => ?_⟩
  · by_cases e : y = z
    · subst e
      rw [Maps.has_put_same hM hk]
      exact ⟨fun _ => ⟨k, by omega, hz⟩, fun _ => rfl⟩
    · rw [Maps.has_put_other (ne y e), h1 y]
      refine ⟨fun ⟨j, hj, hy⟩ => ⟨j, (by omega), hy⟩, fun ⟨j, hj, hy⟩ => ⟨j, ?_, hy⟩⟩
      rcases Nat.lt_or_ge j k with h | h
      · exact h
      · have hjk : j = k := by omega
        subst hjk
        exact absurd (hy.symm.trans hz) e
  · by_cases e : j = k
    · subst e
      rw [hz, Maps.atKey_put_same hM hk]
    · have hfj : f j ≠ z := fun h => hl k (by omega) (by omega) (by rw [hz, h])
      rw [Maps.atKey_put_other (ne _ hfj)]
      exact h2 j (by omega) fun j' h3 h4 => hl j' h3 (by omega)
/-- a place that is there has a last one -/
theorem lst_last {f : Nat → Int} {k : Nat} {z : Int} (h : ∃ j, j < k ∧ f j = z) : ∃ j, j < k ∧ f j = z ∧ ∀ j', j < j' → j' < k → ¬ f j' = f j := by
  obtain ⟨j, h1, h2⟩ := h
  obtain ⟨m, m1, ⟨m2, m3⟩, m4⟩ := least_nat (P := fun m => m < k ∧ f (k - 1 - m) = z) (k - 1 - j) ⟨by omega, by rw [show k - 1 - (k - 1 - j) = j by omega]; exact h2⟩
  refine ⟨k - 1 - m, by omega, m3, fun j' h3 h4 h5 => m4 (k - 1 - j') (by omega) ⟨by omega, ?_⟩⟩
  rw [show k - 1 - (k - 1 - j') = j' by omega, h5, m3]
end Lw
namespace Go.Proofs
open Go.Shelf
def Try.keysA_ren : Go.Shelf.Ren := ⟨fun | 7 => 31 | 10 => 53 | n => n, fun | 23 => 61 | 26 => 2 | 3 => 23 | 28 => 65 | 0 => 0 | 27 => 64 | 33 => 37 | 4 => 4 | n => n, fun | n => n⟩
theorem Try.keysA : Go.Proofs.SlLaysZI.n7 Try.prog Try.keysA_ren := {
  mixed := by kernel_rfl
  f7 := ⟨Try.f31.name, by decide, Try.func31.trans (congrArg some (by kernel_rfl))⟩
  f10 := ⟨Try.f53.name, by decide, Try.func53.trans (congrArg some (by kernel_rfl))⟩
  t0 := Try.underlying0
  a0 := Try.isAgg0
  z0 := Try.sizeOf0
  v0 := Try.zeroValue0
  t4 := Try.underlying4
  a4 := Try.isAgg4
  z4 := Try.sizeOf4
  v4 := Try.zeroValue4
  t23 := Try.underlying61
  a23 := Try.isAgg61
  z23 := Try.sizeOf61
  v23 := Try.zeroValue61
  t26 := Try.underlying2
  a26 := Try.isAgg2
  z26 := Try.sizeOf2
  v26 := Try.zeroValue2
  t27 := Try.underlying64
  a27 := Try.isAgg64
  z27 := Try.sizeOf64
  v27 := Try.zeroValue64
  t28 := Try.underlying65
  a28 := Try.isAgg65
  z28 := Try.sizeOf65
  v28 := Try.zeroValue65
  t33 := Try.underlying37
  a33 := Try.isAgg37
  z33 := Try.sizeOf37
  v33 := Try.zeroValue37 }
def Try.sortedA_ren : Go.Shelf.Ren := ⟨fun | 6 => 30 | 8 => 51 | 9 => 52 | 11 => 72 | 13 => 74 | 12 => 73 | 23 => 89 | 24 => 90 | 14 => 81 | 15 => 82 | 16 => 83 | 17 => 84 | 18 => 85 | 19 => 86 | 20 => 54 | 21 => 87 | 22 => 88 | 25 => 93 | 26 => 94 | 27 => 95 | 28 => 96 | 29 => 97 | 30 => 75 | 31 => 98 | n => n, fun | 26 => 2 | 28 => 65 | 24 => 23 | 0 => 0 | 3 => 3 | 37 => 84 | 48 => 99 | 50 => 102 | 4 => 4 | 40 => 122 | 39 => 121 | 45 => 70 | 5 => 5 | 9 => 9 | 51 => 131 | 55 => 135 | 57 => 137 | 58 => 138 | 33 => 37 | n => n, fun | n => n⟩
theorem Try.sortedA : Go.Proofs.SlLaysZI.n6 Try.prog Try.sortedA_ren := {
  mixed := by kernel_rfl
  f6 := ⟨Try.f30.name, by decide, Try.func30.trans (congrArg some (by kernel_rfl))⟩
  f8 := ⟨Try.f51.name, by decide, Try.func51.trans (congrArg some (by kernel_rfl))⟩
  f11 := ⟨Try.f72.name, by decide, Try.func72.trans (congrArg some (by kernel_rfl))⟩
  t0 := Try.underlying0
  a0 := Try.isAgg0
  z0 := Try.sizeOf0
  v0 := Try.zeroValue0
  t24 := Try.underlying23
  a24 := Try.isAgg23
  z24 := Try.sizeOf23
  v24 := Try.zeroValue23
  t26 := Try.underlying2
  a26 := Try.isAgg2
  z26 := Try.sizeOf2
  v26 := Try.zeroValue2
  t28 := Try.underlying65
  a28 := Try.isAgg65
  z28 := Try.sizeOf65
  v28 := Try.zeroValue65
  i26 := by kernel_rfl }
def Try.sortL_ren : Go.Shelf.Ren := ⟨fun | 5 => 52 | 8 => 74 | 7 => 73 | 19 => 89 | 20 => 90 | 10 => 81 | 11 => 82 | 12 => 83 | 13 => 84 | 14 => 85 | 15 => 86 | 16 => 54 | 17 => 87 | 18 => 88 | 30 => 93 | 31 => 94 | 32 => 95 | 33 => 96 | 34 => 97 | 35 => 75 | 40 => 98 | n => n, fun | 23 => 23 | 25 => 2 | 3 => 3 | 32 => 84 | 22 => 23 | 0 => 0 | 44 => 99 | 46 => 102 | 4 => 4 | 36 => 122 | 35 => 121 | 41 => 70 | 5 => 5 | 9 => 9 | 53 => 131 | 57 => 135 | 63 => 137 | 64 => 138 | n => n, fun | n => n⟩
theorem Try.sortL : Go.Proofs.SlLaysM.n5 Try.prog Try.sortL_ren := {
  mixed := by kernel_rfl
  f5 := ⟨Try.f52.name, by decide, Try.func52.trans (congrArg some (by kernel_rfl))⟩
  f7 := ⟨Try.f73.name, by decide, Try.func73.trans (congrArg some (by kernel_rfl))⟩
  f8 := Try.func74.trans (congrArg some (by kernel_rfl))
  f10 := ⟨Try.f81.name, by decide, Try.func81.trans (congrArg some (by kernel_rfl))⟩
  f11 := ⟨Try.f82.name, by decide, Try.func82.trans (congrArg some (by kernel_rfl))⟩
  f12 := ⟨Try.f83.name, by decide, Try.func83.trans (congrArg some (by kernel_rfl))⟩
  f13 := ⟨Try.f84.name, by decide, Try.func84.trans (congrArg some (by kernel_rfl))⟩
  f14 := ⟨Try.f85.name, by decide, Try.func85.trans (congrArg some (by kernel_rfl))⟩
  f15 := ⟨Try.f86.name, by decide, Try.func86.trans (congrArg some (by kernel_rfl))⟩
  f16 := ⟨Try.f54.name, by decide, Try.func54.trans (congrArg some (by kernel_rfl))⟩
  f17 := ⟨Try.f87.name, by decide, Try.func87.trans (congrArg some (by kernel_rfl))⟩
  f18 := ⟨Try.f88.name, by decide, Try.func88.trans (congrArg some (by kernel_rfl))⟩
  f19 := Try.func89.trans (congrArg some (by kernel_rfl))
  f20 := Try.func90.trans (congrArg some (by kernel_rfl))
  f30 := ⟨Try.f93.name, by decide, Try.func93.trans (congrArg some (by kernel_rfl))⟩
  f31 := Try.func94.trans (congrArg some (by kernel_rfl))
  f32 := Try.func95.trans (congrArg some (by kernel_rfl))
  f33 := ⟨Try.f96.name, by decide, Try.func96.trans (congrArg some (by kernel_rfl))⟩
  f34 := ⟨Try.f97.name, by decide, Try.func97.trans (congrArg some (by kernel_rfl))⟩
  f35 := ⟨Try.f75.name, by decide, Try.func75.trans (congrArg some (by kernel_rfl))⟩
  f40 := ⟨Try.f98.name, by decide, Try.func98.trans (congrArg some (by kernel_rfl))⟩
  t0 := Try.underlying0
  a0 := Try.isAgg0
  z0 := Try.sizeOf0
  v0 := Try.zeroValue0
  t3 := Try.underlying3
  a3 := Try.isAgg3
  z3 := Try.sizeOf3
  v3 := Try.zeroValue3
  t4 := Try.underlying4
  a4 := Try.isAgg4
  z4 := Try.sizeOf4
  v4 := Try.zeroValue4
  t5 := Try.underlying5
  a5 := Try.isAgg5
  z5 := Try.sizeOf5
  v5 := Try.zeroValue5
  t9 := Try.underlying9
  a9 := Try.isAgg9
  z9 := Try.sizeOf9
  v9 := Try.zeroValue9
  t22 := Try.underlying23
  a22 := Try.isAgg23
  z22 := Try.sizeOf23
  v22 := Try.zeroValue23
  t23 := Try.underlying23
  a23 := Try.isAgg23
  z23 := Try.sizeOf23
  v23 := Try.zeroValue23
  t25 := Try.underlying2
  a25 := Try.isAgg2
  z25 := Try.sizeOf2
  v25 := Try.zeroValue2
  t32 := Try.underlying84
  a32 := Try.isAgg84
  z32 := Try.sizeOf84
  v32 := Try.zeroValue84
  t35 := Try.underlying121
  a35 := Try.isAgg121
  z35 := Try.sizeOf121
  v35 := Try.zeroValue121
  t36 := Try.underlying122
  a36 := Try.isAgg122
  z36 := Try.sizeOf122
  v36 := Try.zeroValue122
  t41 := Try.underlying70
  a41 := Try.isAgg70
  z41 := Try.sizeOf70
  v41 := Try.zeroValue70
  t44 := Try.underlying99
  a44 := Try.isAgg99
  z44 := Try.sizeOf99
  v44 := Try.zeroValue99
  t46 := Try.underlying102
  a46 := Try.isAgg102
  z46 := Try.sizeOf102
  v46 := Try.zeroValue102
  t53 := Try.underlying131
  a53 := Try.isAgg131
  z53 := Try.sizeOf131
  v53 := Try.zeroValue131
  t57 := Try.underlying135
  a57 := Try.isAgg135
  z57 := Try.sizeOf135
  v57 := Try.zeroValue135
  t63 := Try.underlying137
  a63 := Try.isAgg137
  z63 := Try.sizeOf137
  v63 := Try.zeroValue137
  t64 := Try.underlying138
  a64 := Try.isAgg138
  z64 := Try.sizeOf138
  v64 := Try.zeroValue138 }
def Try.bsL_ren : Go.Shelf.Ren := ⟨fun | 49 => 32 | 59 => 54 | 60 => 55 | 68 => 75 | n => n, fun | 22 => 23 | 23 => 2 | 3 => 3 | 4 => 4 | 51 => 84 | 0 => 0 | n => n, fun | n => n⟩
theorem Try.bsL : Go.Proofs.SlLaysN.n49 Try.prog Try.bsL_ren := {
  mixed := by kernel_rfl
  f49 := ⟨Try.f32.name, by decide, Try.func32.trans (congrArg some (by kernel_rfl))⟩
  f59 := ⟨Try.f54.name, by decide, Try.func54.trans (congrArg some (by kernel_rfl))⟩
  f60 := ⟨Try.f55.name, by decide, Try.func55.trans (congrArg some (by kernel_rfl))⟩
  f68 := ⟨Try.f75.name, by decide, Try.func75.trans (congrArg some (by kernel_rfl))⟩
  t0 := Try.underlying0
  a0 := Try.isAgg0
  z0 := Try.sizeOf0
  v0 := Try.zeroValue0
  t3 := Try.underlying3
  a3 := Try.isAgg3
  z3 := Try.sizeOf3
  v3 := Try.zeroValue3
  t4 := Try.underlying4
  a4 := Try.isAgg4
  z4 := Try.sizeOf4
  v4 := Try.zeroValue4
  t22 := Try.underlying23
  a22 := Try.isAgg23
  z22 := Try.sizeOf23
  v22 := Try.zeroValue23
  t23 := Try.underlying2
  a23 := Try.isAgg2
  z23 := Try.sizeOf2
  v23 := Try.zeroValue2
  t51 := Try.underlying84
  a51 := Try.isAgg84
  z51 := Try.sizeOf84
  v51 := Try.zeroValue84 }
end Go.Proofs
namespace Lw
open Go
section
variable {P : Program} {ops : Array Oper} {Q : Exit → Act → World → Prop} {md : Region.Mode} {S : World → Prop}
theorem at_drop {i : Nat} {oi : Oper} {tl : List Oper} (hd : ops.toList.drop i = oi :: tl) : ops[i]? = some oi := by
  rw [← Array.getElem?_toList]
  have := List.getElem?_drop (xs := ops.toList) (i := i) (j := 0)
  rw [hd] at this
  simpa using this.symm
theorem take1 {i : Nat} {oi : Oper} {tl : List Oper} {v : Value} {fuel : Nat} {listed : Array Bool} {a : Act} {w : World} (hd : ops.toList.drop i = oi :: tl)
    (hs : Region.noSelect ops = true) (hf : Region.free md ops listed i = true) (hr : (Region.ready md ops listed).contains i = true)
    (hQ : ∀ c a w, Q (.panic c) (a.put oi.dst v) w → Q (.panic c) a w) (hy : YieldsIf P ops S oi v a) (hS : S w)
    (h : wpAnyH P md ops Q S fuel (listed.setIfInBounds i true) (a.put oi.dst v) w) : wpAnyH P md ops Q S (fuel + 1) listed a w :=
  wpAnyH_take (at_drop hd) hs hf hr hQ hy hS h
theorem cons1 {fuel : Nat} {listed : Array Bool} {a : Act} {w : World} {i : Nat} {o : Oper} {tl : List Oper} {rs : List Nat} (hd : ops.toList.drop i = o :: tl)
    (h : ∀ K' : Act → World → Prop, Shut (∀ a w, S w → (S w → wpAnyH P md ops Q S fuel (listed.setIfInBounds i true) a w) → K' a w) → if Region.wanted o (yielded ops a.tmps) = true then Oper.wp P o a w K' Q else K' (a.put o.dst undef) w)
    (hs : AllReadyH P md ops Q S fuel listed a w rs) : AllReadyH P md ops Q S fuel listed a w (i :: rs) := AllReadyH.cons (at_drop hd) h hs
end
end Lw
namespace Lw
open Go Go.RowKit

/-- A slice of integers that came in: nil, or a row of 'cap' cells, the numbers 'zs', of which the first 'len' are its elements. -/
def IsRow (k : IntKind) (w : World) (a : Option Addr) (len cap : Nat) (zs : List Int) : Prop :=
  (a = none ∧ len = 0 ∧ cap = 0 ∧ zs = []) ∨
  ∃ x, a = some x ∧ len ≤ cap ∧ cap ≤ maxLen ∧ zs.length = cap ∧ (∀ i, i < zs.length → w.cell? (x.add i) = some (.int k (zs.getD i 0))) ∧ ∀ n ∈ zs, (Lit.int k n).wf = true

/-- Behind a call that leaves the old blocks alone every old cell and every old mark reads as before. -/
theorem bcell {W w1 : World} (hb : Below W.heap.size W w1) : (∀ b o, b < W.heap.size → w1.cell? ⟨b, o, none⟩ = W.cell? ⟨b, o, none⟩) ∧ (∀ b o, b < W.heap.size → w1.frozen? ⟨b, o, none⟩ = W.frozen? ⟨b, o, none⟩) :=
  ⟨fun b o h => hb.cell (p := ⟨b, o, none⟩) h, fun b o h => hb.frozen (p := ⟨b, o, none⟩) h⟩
theorem bt {w W1 w1 : World} (h : Below w.heap.size w W1) (hb : Below W1.heap.size W1 w1) : Below w.heap.size w w1 := h.trans (hb.mono h.size)
theorem quiet {P : Program} {f : FuncId} {args : Array Value} {w : World} {n : Nat} {v : Value} (h : Calls P f args (w.drewN n) fun e w' => e = .returned v ∧ w.drewN n = w') : Calls P f args (w.drewN n) fun e w'' => e = .returned v ∧ ∃ m, w'' = w.drewN m :=
  h.mono fun _ _ ⟨he, hm⟩ => ⟨he, n, hm.symm⟩
theorem ret_int {k : IntKind} {a b : Int} (h : a = b) : Ending.returned (.int k a) = .returned (.int k b) := by rw [h]
theorem ret_bool {a b : Bool} (h : a = b) : Ending.returned (.bool a) = .returned (.bool b) := by rw [h]
theorem ret_ii {k l : IntKind} {a b c d : Int} (h : a = b) (g : c = d) : Ending.returned (.tuple #[.int k a, .int l c]) = .returned (.tuple #[.int k b, .int l d]) := by rw [h, g]
theorem ret_bi {l : IntKind} {a b : Bool} {c d : Int} (h : a = b) (g : c = d) : Ending.returned (.tuple #[.bool a, .int l c]) = .returned (.tuple #[.bool b, .int l d]) := by rw [h, g]
end Lw
set_option linter.unusedVariables false
set_option linter.unusedSimpArgs false
namespace Lw
def farB (x : Int) : Bool := decide (x < -2147483648) || decide (2147483648 < x)
theorem farB_true {x : Int} (h : x < -2147483648 ∨ 2147483648 < x) : farB x = true := by unfold farB; simp; omega
theorem farB_false {x : Int} (h : ¬ (x < -2147483648 ∨ 2147483648 < x)) : farB x = false := by unfold farB; simp; omega
theorem of_farB_false {x : Int} (h : farB x = false) : -2147483648 ≤ x ∧ x ≤ 2147483648 := by unfold farB at h; simp at h; omega
def bothI (a b : Int) : Int := if farB a || farB b then 2 else 0
def firstI (a b : Int) : Int := if a = 0 then b else a
theorem firstI_zero (b : Int) : firstI 0 b = b := by simp [firstI]
theorem firstI_ne (a b : Int) (h : ¬ a = 0) : firstI a b = a := by simp [firstI, h]
def modI (m : Int) : Int := if m < 1 ∨ 1048576 < m then 2 else 0
end Lw
namespace Go.Proofs.Ytfocpbknckmmaaa
open Go.RowKit

theorem law_modulus (m : Int) (w : World) :
    Calls Try.prog 11 #[.int .i64 m] w fun e w' => e = .returned (.int .i64 (Lw.modI m)) ∧ w = w' := by
  have hE : (m < 1 ∧ Lw.modI m = 2) ∨ (1 ≤ m ∧ 1048576 < m ∧ Lw.modI m = 2) ∨ (1 ≤ m ∧ m ≤ 1048576 ∧ Lw.modI m = 0) := by
    unfold Lw.modI; split <;> omega
  rcases hE with ⟨h1, E⟩ | ⟨h1, h2, E⟩ | ⟨h1, h2, E⟩
  all_goals
    have E := Lib.hid E
    go_enter Try.func11, Try.ntmps11
    go_wp2
    go_ret
    rw [E.out]; exact ⟨rfl, rfl⟩
end Go.Proofs.Ytfocpbknckmmaaa
set_option linter.unusedVariables false
set_option linter.unusedSimpArgs false
namespace Go.Proofs.Ytfocpbknckmmaaa
open Go.RowKit

theorem euclid_Mod (a m : Int) (w : World) (hm : 0 < m) (hm2 : m ≤ 4294967296) :
    Calls Try.prog 68 #[.int .i64 a, .int .i64 m] w fun e w' => e = .returned (.int .i64 (a % m)) ∧ w = w' := by
  obtain ⟨h1, h2⟩ := Lw.tmod_bd a m hm
  have h0 : ((m : Int) == 0) = false := by simp; omega
  have E := Lib.hid (Lw.mod_prog a m hm)
  go_enter Try.func68, Try.ntmps68
  go_wp2
  go_ret
  rw [E.out]
  exact ⟨rfl, rfl⟩
theorem ref_Mod (a m : Int) (w : World) (hm : 0 < m) (hm2 : m ≤ 4294967296) :
    Calls Try.prog 47 #[.int .i64 a, .int .i64 m] w fun e w' => e = .returned (.int .i64 (a % m)) ∧ w = w' := by
  obtain ⟨h1, h2⟩ := Lw.tmod_bd a m hm
  have h0 : ((m : Int) == 0) = false := by simp; omega
  by_cases h : a.tmod m < 0
  · have E := Lib.hid (Lw.mod_ref_neg a m hm h)
    go_enter Try.func47, Try.ntmps47
    go_wp2
    go_ret
    rw [E.out]
    exact ⟨rfl, rfl⟩
  · have E := Lib.hid (Lw.mod_ref_pos a m hm h)
    go_enter Try.func47, Try.ntmps47
    go_wp2
    go_ret
    rw [E.out]
    exact ⟨rfl, rfl⟩
theorem ref_Pow (n : Nat) : ∀ (a k m : Int) (w : World), k.toNat ≤ n → 0 ≤ k → k ≤ 4611686018427387904 → 0 < m → m ≤ 1048576 →
    Calls Try.prog 58 #[.int .i64 a, .int .i64 k, .int .i64 m] w fun e w' => e = .returned (.int .i64 (Lw.pw a k m)) ∧ w = w' := by
  induction n with
  | zero =>
    intro a k m w h1 h2 h2' h3 h4
    obtain rfl : k = 0 := by omega
    have E := Lib.hid (Lw.pw_zero a m)
    have h0 : ((m : Int) == 0) = false := by simp; omega
    clear h1 h2 h2'
    go_enter Try.func58, Try.ntmps58
    go_wp2_with fail
    go_ret
    rw [E.out]
    exact ⟨rfl, rfl⟩
  | succ n ih =>
    intro a k m w h1 h2 h2' h3 h4
    have h0 : ((m : Int) == 0) = false := by simp; omega
    by_cases hk : k = 0
    · subst hk
      have E := Lib.hid (Lw.pw_zero a m)
      clear h1 h2 h2'
      go_enter Try.func58, Try.ntmps58
      go_wp2_with fail
      go_ret
      rw [E.out]
      exact ⟨rfl, rfl⟩
    · have hk0 : ((k : Int) == 0) = false := by simpa using hk
      have IH := Lib.hid ih
      have hk1 : 1 ≤ k := by omega
      clear ih hk
      obtain ⟨p1, p2⟩ := Lw.pw_bd a (k / 2) m h3
      obtain ⟨q1, q2⟩ := Lw.mul_bd' (Lw.pw a (k / 2) m) (Lw.pw a (k / 2) m) 1048576 p1 (by omega) p1 (by omega)
      obtain ⟨r1, r2⟩ := Lw.emod_bd (Lw.pw a (k / 2) m * Lw.pw a (k / 2) m) m h3
      obtain ⟨s1, s2⟩ := Lw.emod_bd a m h3
      obtain ⟨t1, t2⟩ := Lw.mul_bd' (Lw.pw a (k / 2) m * Lw.pw a (k / 2) m % m) (a % m) 1048576 r1 (by omega) s1 (by omega)
      by_cases ho : k % 2 = 1
      · have E := Lib.hid (Lw.pw_odd a k m h2 ho)
        have hb : (k % 2 == 1) = true := by simpa using ho
        clear ho
        go_enter Try.func58, Try.ntmps58
        go_wp2_with fail
        refine (IH.out a (k / 2) m _ (by omega) (by omega) (by omega) (by omega) (by omega)).mono ?_
        rintro e w' ⟨rfl, rfl⟩
        go_wp2_with fail
        refine (ref_Mod _ _ _ h3 (by omega)).mono ?_
        rintro e w' ⟨rfl, rfl⟩
        go_wp2_with fail
        go_ret
        rw [E.out]
        exact ⟨rfl, rfl⟩
      · have E := Lib.hid (Lw.pw_even a k m h2 ho)
        have hb : (k % 2 == 1) = false := by simpa using ho
        clear ho
        go_enter Try.func58, Try.ntmps58
        go_wp2_with fail
        refine (IH.out a (k / 2) m _ (by omega) (by omega) (by omega) (by omega) (by omega)).mono ?_
        rintro e w' ⟨rfl, rfl⟩
        go_wp2_with fail
        go_ret
        rw [E.out]
        exact ⟨rfl, rfl⟩
theorem power_Of (a k m : Int) (w : World) (hk : 0 ≤ k) (hk2 : k ≤ 4611686018427387904) (hm : 0 < m) (hm2 : m ≤ 1048576) :
    Calls Try.prog 56 #[.int .i64 a, .int .i64 k, .int .i64 m] w fun e w' => e = .returned (.int .i64 (Lw.pw a k m)) ∧ w = w' := by
  have h0 : ((m : Int) == 0) = false := by simp; omega
  obtain ⟨s1, s2⟩ := Lw.emod_bd a m hm
  go_enter Try.func56, Try.ntmps56
  go_wp2_with (go_at_call 68; refine (euclid_Mod _ _ _ hm (by omega)).mono ?_; rintro e w' ⟨rfl, rfl⟩)
  go_loop [7, 0, 1] (fun x a' k' => ∃ x1 a1 k1 : Int, 0 ≤ x1 ∧ x1 < m ∧ 0 ≤ a1 ∧ a1 < m ∧ 0 ≤ k1 ∧ k1 ≤ 4611686018427387904 ∧ x = .int .i64 x1 ∧ a' = .int .i64 a1 ∧ k' = .int .i64 k1 ∧ Hid (x1 * a1 ^ k1.toNat % m = Lw.pw a k m)) (fun _ _ k' => (intOf k').toNat)
  case atStart =>
    obtain ⟨u1, u2⟩ := Lw.emod_bd 1 m hm
    refine ⟨_, _, _, u1, u2, s1, s2, hk, hk2, rfl, rfl, rfl, ?_⟩
    show 1 % m * (a % m) ^ k.toNat % m = Lw.pw a k m
    rw [Int.mul_emod, Int.emod_emod, ← Int.mul_emod, Int.one_mul]
    exact Lw.pw_emod a k m
  case round =>
    obtain ⟨x1, a1, k1, x2, x3, a2, a3, k2, k3, rfl, rfl, rfl, H⟩ := hrel
    obtain ⟨q1, q2⟩ := Lw.mul_bd' x1 a1 1048576 x2 (by omega) a2 (by omega)
    obtain ⟨r1, r2⟩ := Lw.mul_bd' a1 a1 1048576 a2 (by omega) a2 (by omega)
    by_cases hlt : 0 < k1
    · have hand : bits .and .i64 k1 1 = k1 % 2 := Lw.and_one k1 k2 (by omega)
      by_cases ho : k1 % 2 = 1
      · have hb : (bits .and .i64 k1 1 == 1) = true := by rw [hand]; simpa using ho
        have N := Lib.hid (Lw.pw_step_odd x1 a1 k1 m hlt ho)
        clear hand ho
        go_wp2
        go_round
        case rel => exact ⟨_, _, _, (Lw.emod_bd _ m hm).1, (Lw.emod_bd _ m hm).2, (Lw.emod_bd _ m hm).1, (Lw.emod_bd _ m hm).2, by omega, by omega, rfl, rfl, rfl, N.out.trans H.out⟩
        case measure => simp [intOf]; omega
      · have hb : (bits .and .i64 k1 1 == 1) = false := by rw [hand]; simpa using ho
        have N := Lib.hid (Lw.pw_step_even x1 a1 k1 m hlt ho)
        clear hand ho
        go_wp2
        go_round
        case rel => exact ⟨_, _, _, x2, x3, (Lw.emod_bd _ m hm).1, (Lw.emod_bd _ m hm).2, by omega, by omega, rfl, rfl, rfl, N.out.trans H.out⟩
        case measure => simp [intOf]; omega
    · obtain rfl : k1 = 0 := by omega
      have E : Hid (x1 = Lw.pw a k m) := by
        have h := H.out
        simp at h
        rw [Int.emod_eq_of_lt x2 x3] at h
        exact h
      clear H
      go_wp2
      go_ret
      rw [E.out]
      exact ⟨rfl, rfl⟩
end Go.Proofs.Ytfocpbknckmmaaa
set_option linter.unusedVariables false
set_option linter.unusedSimpArgs false
namespace Go.Proofs.Ytfocpbknckmmaaa
open Go.RowKit
def StepEnd (a b : Int) (w : World) (e : Ending) (w' : World) : Prop := ∃ g x, Lw.StepPost a b g x ∧ e = .returned (.tuple #[.int .i64 g, .int .i64 x]) ∧ w = w'

theorem euclid_step (a b : Int) (w : World) (a1 : Lw.absI a ≤ 4294967296) (b1 : Lw.absI b ≤ 4294967296) :
    Calls Try.prog 79 #[.int .i64 a, .int .i64 b] w (StepEnd a b w) := by
  have hs := Lib.hid (Lw.Euc.start a b)
  obtain ⟨a2, a3⟩ := Lw.absI_le a1
  obtain ⟨b2, b3⟩ := Lw.absI_le b1
  have A1 := Lib.hid a1
  have B1 := Lib.hid b1
  clear a1 b1
  go_enter Try.func79, Try.ntmps79
  go_wp2
  go_loop [0, 1, 6, 7] (fun v0 v1 v6 v7 => ∃ c d x n : Int, v0 = .int .i64 c ∧ v1 = .int .i64 d ∧ v6 = .int .i64 x ∧ v7 = .int .i64 n ∧ Hid (Lw.Euc a b c d x n)) (fun _ v1 _ _ => (intOf v1).natAbs)
  case atStart => exact ⟨a, b, 1, 0, rfl, rfl, rfl, rfl, hs⟩
  case round =>
    obtain ⟨c, d, x, n, rfl, rfl, rfl, rfl, H⟩ := hrel
    obtain ⟨⟨c1, c2⟩, ⟨d1, d2⟩, ⟨x1, x2⟩, n1, n2⟩ := H.out.facts0 A1.out B1.out
    by_cases hd : d = 0
    · subst hd
      go_wp2
      go_ret2
      exact ⟨c, x, H.out.done, rfl, rfl⟩
    · have hd0 : (d == 0) = false := by simpa using hd
      have hd1 : (d != 0) = true := by simpa using hd
      obtain ⟨⟨e1, e2⟩, ⟨f1, f2⟩, g1, g2⟩ := H.out.facts hd A1.out B1.out
      have N := Lib.hid (H.out.step hd)
      have M := Lib.hid (Lw.tdiv_rest_lt c d hd)
      clear H
      go_wp2
      go_round
      case rel => exact ⟨_, _, _, _, rfl, rfl, rfl, rfl, N⟩
      case measure =>
        have := M.out
        unfold Lw.absI at this
        simp only [intOf]
        omega
set_option maxHeartbeats 1000000 in
theorem euclid_Inverse (a m : Int) (w : World) :
    Calls Try.prog 69 #[.int .i64 a, .int .i64 m] w fun e w' => e = .returned (.tuple #[.int .i64 (Lw.invR a m), .int .i64 (Lw.invE a m)]) ∧ Below w.heap.size w w' := by
  by_cases hbad : a < -2147483648 ∨ 2147483648 < a ∨ m < 1 ∨ 1048576 < m
  · have E := Lib.hid (Lw.invE_two hbad)
    have hc : a < -2147483648 ∨ (-2147483648 ≤ a ∧ 2147483648 < a) ∨ ((-2147483648 ≤ a ∧ a ≤ 2147483648) ∧ (m < 1 ∨ (1 ≤ m ∧ 1048576 < m))) := by omega
    clear hbad
    rcases hc with h | ⟨h, h'⟩ | ⟨⟨h1, h2⟩, h | ⟨h, h'⟩⟩
    all_goals
      go_enter Try.func69, Try.ntmps69
      go_wp2_with fail
      go_in
      go_wp2_with fail
      (refine wp_loop_rounds 3 ?_; repeat any_goals (rw [rounds_succ]; go_wp2_with fail))
      go_ret2
      rw [E.out.1, E.out.2]
      exact ⟨rfl, by go_grown⟩
  · have hok : (-2147483648 ≤ a ∧ a ≤ 2147483648) ∧ 1 ≤ m ∧ m ≤ 1048576 := by omega
    obtain ⟨⟨h1, h2⟩, h3, h4⟩ := hok
    have E5 := Lib.hid (Lw.invE_five hbad)
    have E0 := Lib.hid (Lw.invE_zero hbad)
    obtain ⟨s1, s2⟩ := Lw.emod_bd a m (by omega)
    have A := Lib.hid (show Lw.absI (a % m) ≤ 4294967296 by unfold Lw.absI; omega)
    have B := Lib.hid (show Lw.absI m ≤ 4294967296 by unfold Lw.absI; omega)
    have M := Lib.hid (show Lw.absI m = m from Lw.absI_pos (by omega))
    clear hbad
    go_enter Try.func69, Try.ntmps69
    go_wp2_with fail
    go_in
    go_wp2_with fail
    (refine wp_loop_rounds 3 ?_; repeat any_goals (rw [rounds_succ]; go_wp2_with fail))
    refine (euclid_Mod _ _ _ (by omega) (by omega)).mono ?_
    rintro e w' ⟨rfl, rfl⟩
    go_wp2_with fail
    refine (euclid_step _ _ _ A.out B.out).mono ?_
    rintro e w' ⟨g, x, hP, rfl, rfl⟩
    have hg0 : 0 ≤ g := hP.2.2.2 s1 (by omega)
    have hgg : g = Lw.gcdI a m := by rw [← Lw.gcdI_emod, ← hP.1, Lw.absI_pos hg0]
    obtain ⟨x1, x2⟩ := Lw.absI_le (a := x) (b := 4294967296) (by have := hP.2.2.1; rw [M.out] at this; omega)
    by_cases hg : g = 1
    · subst hg
      have F := Lib.hid (E0.out hgg.symm)
      have G := Lib.hid (Lw.invI_of_dvd (by omega) hP.2.1)
      clear hgg hP
      go_wp2_with fail
      refine (euclid_Mod _ _ _ (by omega) (by omega)).mono ?_
      rintro e w' ⟨rfl, rfl⟩
      go_wp2_with fail
      go_ret2
      rw [F.out.1, F.out.2, G.out]
      exact ⟨rfl, by go_grown⟩
    · have F := Lib.hid (E5.out (by rw [← hgg]; exact hg))
      have hb : (g != 1) = true := by simpa using hg
      clear hgg hP hg
      go_wp2_with fail
      go_ret2
      rw [F.out.1, F.out.2]
      exact ⟨rfl, by go_grown⟩
end Go.Proofs.Ytfocpbknckmmaaa
namespace Lw
def lcmI (a b : Int) : Int := if a = 0 ∨ b = 0 then 0 else absI a / gcdI a b * absI b
theorem lcmI_zero {a b : Int} (h : a = 0 ∨ b = 0) : lcmI a b = 0 := if_pos h
theorem lcmI_pos {a b : Int} (h : ¬ (a = 0 ∨ b = 0)) : lcmI a b = absI a / gcdI a b * absI b := if_neg h
theorem absI_tdiv {a g : Int} (hg : 0 < g) : absI (a.tdiv g) = absI a / g := by
  unfold absI
  rw [Int.natAbs_tdiv]
  have : ((a.natAbs.div g.natAbs : Nat) : Int) = ((a.natAbs / g.natAbs : Nat) : Int) := rfl
  rw [this, Int.natCast_ediv]
  congr 1
  omega
theorem lcm_prog {a b : Int} (h : 0 < gcdI a b) : absI (a.tdiv (gcdI a b) * b) = lcmI a b := by
  rw [absI_mul, absI_tdiv h]
  by_cases h0 : a = 0 ∨ b = 0
  · rw [lcmI_zero h0]
    rcases h0 with rfl | rfl <;> simp [absI]
  · rw [lcmI_pos h0]
theorem lcm_bd {a b : Int} (h : 0 < gcdI a b) (ha : absI a ≤ 2147483648) (hb : absI b ≤ 2147483648) :
    (-2147483648 ≤ a.tdiv (gcdI a b) ∧ a.tdiv (gcdI a b) ≤ 2147483648) ∧ (-4611686018427387904 ≤ a.tdiv (gcdI a b) * b ∧ a.tdiv (gcdI a b) * b ≤ 4611686018427387904) := by
  have h1 : absI (a.tdiv (gcdI a b)) ≤ 2147483648 := by
    rw [absI_tdiv h]
    have := Int.ediv_le_self (gcdI a b) (absI_nonneg a)
    omega
  have h2 := (mul_bd' _ _ 2147483648 (absI_nonneg _) h1 (absI_nonneg b) hb).2
  rw [← absI_mul] at h2
  exact ⟨absI_le h1, absI_le (by omega)⟩
theorem gcdI_zero {a b : Int} (h : gcdI a b = 0) : a = 0 ∧ b = 0 := by
  have h1 := gcdI_dvd_left a b
  have h2 := gcdI_dvd_right a b
  rw [h] at h1 h2
  exact ⟨Int.zero_dvd.1 h1, Int.zero_dvd.1 h2⟩
end Lw
set_option linter.unusedVariables false
set_option linter.unusedSimpArgs false
namespace Go.Proofs.Ytfocpbknckmmaaa
open Go.RowKit
end Go.Proofs.Ytfocpbknckmmaaa
set_option linter.unusedVariables false
set_option linter.unusedSimpArgs false
namespace Lw
open Go Go.RowKit
/-- J abides new blocks, and whatever is written into block c. -/
def AbC {β : Type} (c : Nat) (J : β → World → Prop) : Prop :=
  ∀ s W W' row, J s W → W.grownBy W' row → (∀ r, row = some r → r = c) → J s W'

/-- An iterator over the list xs whose own state is block c: for every loop body that leaves block c alone. -/
def CellSeq {α : Type} (F : Fence) (n : Nat) (P : Program) (g : Nat) (lb : Array Value) (encs : α → Array Value) (c : Nat) (xs : List α) (w : World) : Prop :=
  ∀ (l : Nat) (J Jx : List α → World → Prop) (W : World), W.heap[c]? = w.heap[c]? → AbC c J → AbC c Jx →
    (∀ pre x W1, J pre W1 → pre ++ [x] <+: xs → YieldAt F (n - 1) P l (encs x) W1 fun e W' =>
      (e = .returned (.bool true) ∧ J (pre ++ [x]) W' ∧ W'.heap[c]? = W1.heap[c]?) ∨ (e = .returned (.bool false) ∧ Jx (pre ++ [x]) W')) →
    J [] W →
    CallsIn F n P g (#[.func (.yield l) #[] #[]] ++ lb) W fun e W' => (∃ v, e = .returned v) ∧ (J xs W' ∨ ∃ pre, pre <+: xs ∧ Jx pre W')

variable {F : Fence} {n : Nat} {P : Program}

theorem wpIn_rangeC {α : Type} {g : Operand} {ps : Array Tmp} {assign body : Code} {Q : Exit → Act → World → Prop} {a : Act} {w : World}
    (hro : F.round = none) (h1 : 1 ≤ n) {gf : Nat} {lb : Array Value} (hg : a.eval g = .func (.func gf) #[] lb) (hFg : F.fn gf) (eg : ∀ args w, (callFunc gf args).run P w = .ok (.enter gf args) w)
    {encs : α → Array Value} {c : Nat} {xs : List α} (hseq : CellSeq F (n - 1) P gf lb encs c xs w) (hc : c < w.heap.size) (hps : ∀ x, (encs x).size = ps.size)
    (I : List α → World → Prop) (Ix : Code → List α → World → Prop) (hI : OwnFrom w.heap.size I) (hIc : AbC c I) (hIx : ∀ k, OwnFrom w.heap.size (Ix k)) (hIxc : ∀ k, AbC c (Ix k)) (h0 : I [] w)
    (Ax : α → Act → World → Prop) (hAx : ∀ x a', OwnFrom w.heap.size (fun (_ : Unit) W => Ax x a' W))
    (hassign : ∀ (l : Nat) (pre : List α) (x : α) (W : World) (K : Act → World → Prop), I pre W → (∀ a' W', KeepsFrom w.heap.size W W' → W'.heap[c]? = W.heap[c]? → I pre W' → Ax x a' W' → K a' W') →
      assign.wpIn (F.inRound l) (n - 1 - 1) P (Exit.then K (fun _ _ _ => False)) { tmps := (ps.zip (encs x)).foldl (fun t (p, v) => t.setIfInBounds p v) a.tmps, defers := [] } W)
    (hbody : ∀ (l : Nat) (pre : List α) (x : α) (a' : Act) (W : World), w.heap.size ≤ l → (∃ r, W.heap[l]? = some (.loop r)) → I pre W → Ax x a' W → pre ++ [x] <+: xs → body.wpIn (F.inRound l) (n - 1 - 1) P (ownPostG w.heap.size (fun A B => B.heap[c]? = A.heap[c]?) I Ix (pre ++ [x]) W) a' W)
    (hdone : ∀ (D : Nat) (W : World), w.heap.size ≤ D → I xs W → W.heap[D]? = some (.deferred (some [])) → Q .normal { a with defers := { target := .collected D, args := #[] } :: a.defers } W)
    (hstop : ∀ (D : Nat) (k : Code) (pre : List α) (W : World), w.heap.size ≤ D → pre <+: xs → Ix k pre W → W.heap[D]? = some (.deferred (some [])) → k.wpIn F n P Q { a with defers := { target := .collected D, args := #[] } :: a.defers } W) :
    (Code.rangeFunc g ps assign body).wpIn F n P Q a w := by
  refine wpIn_rangeFunc fun fn hfn => ?_
  rw [hro]
  obtain ⟨rec, hrec⟩ : ∃ rec : LoopState → Option Code → Loop, rec = fun st pe => { state := st, pending := pe, fn, tmps := a.tmps, params := ps, assign, body, defers := w.heap.size } := ⟨_, rfl⟩
  obtain ⟨W1, hW1⟩ : ∃ W1, (w.alloc (.deferred (some []))).alloc (.loop (rec .ready none)) = W1 := ⟨_, rfl⟩
  have hL1 : W1.heap[w.heap.size + 1]? = some (.loop (rec .ready none)) := by
    rw [← hW1]; have := World.alloc_heap_new (w.alloc (.deferred (some []))) (.loop (rec .ready none)); rwa [World.size_alloc] at this
  have hK1 : W1.heap[w.heap.size]? = some (.deferred (some [])) := by
    rw [← hW1]; exact (Below.heap_alloc _ _ _ (by simp)).trans (World.alloc_heap_new w _)
  have hc1 : W1.heap[c]? = w.heap[c]? := by
    rw [← hW1]; exact (Below.heap_alloc _ _ _ (by simp; omega)).trans (Below.heap_alloc _ _ _ hc)
  have hI1 : I [] W1 := by rw [← hW1]; exact hI.alloc _ (hI.alloc _ h0)
  refine ⟨w.heap.size + 1, [{ target := .collected w.heap.size, args := #[] }], W1, { target := .fn (.func gf) lb, args := #[.func (.yield (w.heap.size + 1)) #[] #[]] }, W1, gf,
    #[.func (.yield (w.heap.size + 1)) #[] #[]] ++ lb, W1, ?_, ?_, ?_, ?_, fun _ => h1, ?_⟩
  · rw [← hW1, hrec]; exact run_enterLoop_outer _ _ _ _ _
  · simp only [resolve, hg]
    simp [go_sem]
  · intro f' hf'; simp [Target.leads] at hf'; subst hf'; exact hFg
  · simp [invoke, go_sem, eg]
  · have keep : ∀ {A B : World} {row : Option Nat} {k : Nat}, A.grownBy B row → (∀ r, row = some r → r = c) → w.heap.size ≤ k → ∀ {o : Obj}, A.heap[k]? = some o → B.heap[k]? = some o := by
      intro A B row k hg' hr hk o ho
      have hk2 : k < A.heap.size := (Array.getElem?_eq_some_iff.1 ho).1
      rw [hg'.block k hk2 (fun e => by have := hr k e.symm; omega)]; exact ho
    refine (hseq (w.heap.size + 1)
      (fun pre W => I pre W ∧ W.heap[w.heap.size + 1]? = some (.loop (rec .ready none)) ∧ W.heap[w.heap.size]? = some (.deferred (some [])))
      (fun pre W => ∃ k, Ix k pre W ∧ W.heap[w.heap.size + 1]? = some (.loop (rec .done (some k))) ∧ W.heap[w.heap.size]? = some (.deferred (some [])))
      W1 hc1
      (fun s A B row hs hg' hr => ⟨hIc s A B row hs.1 hg' hr, keep hg' hr (by omega) hs.2.1, keep hg' hr (Nat.le_refl _) hs.2.2⟩)
      (fun s A B row hs hg' hr => by
        obtain ⟨k, hk, hl, hd⟩ := hs
        exact ⟨k, hIxc k s A B row hk hg' hr, keep hg' hr (by omega) hl, keep hg' hr (Nat.le_refl _) hd⟩)
      ?_ ⟨hI1, hL1, hK1⟩).mono ?_
    · rintro pre x W ⟨hi, hl, hk⟩ hx
      have hy := run_yield (P := P) (args := encs x) hl (by rw [hrec]; exact hps x)
      rw [hrec] at hy
      refine ⟨fn, _, assign, body, hy, roundIn_of_wpIn hfn (hassign _ pre x W _ hi ?_)⟩
      clear hy
      intro a' Wa hkfa hca hia hax
      have hla := hkfa.same _ _ (by omega) hl rfl
      have hka := hkfa.same _ _ (Nat.le_refl _) hk rfl
      have hlt : w.heap.size + 1 < Wa.heap.size := (Array.getElem?_eq_some_iff.1 hla).1
      refine ⟨_, run_beginRound hla (by rw [hrec]), ?_⟩
      obtain ⟨Wb, hWb⟩ : ∃ Wb, Wa.putObj (w.heap.size + 1) (.loop { rec .ready none with state := .busy }) = Wb := ⟨_, rfl⟩
      have hl2 : Wb.heap[w.heap.size + 1]? = some (.loop { rec .ready none with state := .busy }) := by rw [← hWb]; exact World.putObj_heap_same hlt
      have hk2 : Wb.heap[w.heap.size]? = some (.deferred (some [])) := by rw [← hWb]; exact (World.putObj_heap_other (by omega)).trans hka
      have hc2 : Wb.heap[c]? = Wa.heap[c]? := by rw [← hWb]; exact World.putObj_heap_other (by omega)
      have hi2 : I pre Wb := by rw [← hWb]; exact hI.putObj _ hia (by omega) hla rfl
      have hx2 : Ax x a' Wb := by rw [← hWb]; exact (hAx x a').putObj (s := ()) _ hax (by omega) hla rfl
      rw [hWb]
      refine wpIn_mono (hbody _ pre x a' _ (by omega) ⟨_, hl2⟩ hi2 hx2 hx) ?_
      have fin : ∀ (jump : Option Code) (W3 : World), KeepsFrom w.heap.size Wb W3 →
          (Instr.endRound (w.heap.size + 1) jump).run P W3 = .ok (.bool jump.isNone) (W3.putObj (w.heap.size + 1) (.loop (rec (if jump.isNone then .ready else .done) jump))) ∧
          W3.heap[w.heap.size + 1]? = some (.loop { rec .ready none with state := .busy }) ∧
          (W3.putObj (w.heap.size + 1) (.loop (rec (if jump.isNone then .ready else .done) jump))).heap[w.heap.size + 1]? = some (.loop (rec (if jump.isNone then .ready else .done) jump)) ∧
          (W3.putObj (w.heap.size + 1) (.loop (rec (if jump.isNone then .ready else .done) jump))).heap[w.heap.size]? = some (.deferred (some [])) := fun jump W3 hk3 => by
        have hl3 := hk3.same _ _ (by omega) hl2 rfl
        have := run_endRound (P := P) jump hl3
        rw [hrec] at this ⊢
        exact ⟨this, by rw [hrec] at hl3; exact hl3, World.putObj_heap_same (Array.getElem?_eq_some_iff.1 hl3).1, (World.putObj_heap_other (by omega)).trans (hk3.same _ _ (Nat.le_refl _) hk2 rfl)⟩
      have jumps : ∀ (k : Code) (W3 : World), KeepsFrom w.heap.size Wb W3 → Ix k (pre ++ [x]) W3 → _ := fun k W3 hk3 hi3 => (⟨fin (some k) W3 hk3, (hIx k).putObj (.loop (rec .done (some k))) hi3 (by omega) (fin (some k) W3 hk3).2.1 rfl⟩ : _ ∧ _)
      rintro e a3 W3 hp
      cases e with
      | normal =>
        obtain ⟨hk3, hkp3, hi3⟩ := hp
        obtain ⟨hr, hl3, hl4, hk4⟩ := fin none W3 hk3
        exact ⟨_, _, hr, .inl ⟨rfl, ⟨hI.putObj _ hi3 (by omega) hl3 rfl, hl4, hk4⟩, (World.putObj_heap_other (by omega)).trans (hkp3.trans (hc2.trans hca))⟩⟩
      | ret => obtain ⟨⟨hr, _, hl4, hk4⟩, hj⟩ := jumps .ret W3 hp.1 hp.2; exact ⟨_, _, hr, .inr ⟨rfl, .ret, hj, hl4, hk4⟩⟩
      | exit id => obtain ⟨⟨hr, _, hl4, hk4⟩, hj⟩ := jumps (.exit id) W3 hp.1 hp.2; exact ⟨_, _, hr, .inr ⟨rfl, .exit id, hj, hl4, hk4⟩⟩
      | goto t => obtain ⟨⟨hr, _, hl4, hk4⟩, hj⟩ := jumps (.goto t) W3 hp.1 hp.2; exact ⟨_, _, hr, .inr ⟨rfl, .goto t, hj, hl4, hk4⟩⟩
      | panic ch => exact hp.elim
      | outgrown => exact hp.elim
    · rintro e W2 ⟨⟨v, rfl⟩, (⟨hi, hl, hk⟩ | ⟨pre, hSp, k, hi, hl, hk⟩)⟩
      · exact ⟨none, _, by have := run_endLoop (P := P) hl (by rw [hrec]; simp); rw [hrec] at this; exact this, hdone _ _ (Nat.le_refl _) (hI.putObj _ hi (by omega) hl rfl) ((World.putObj_heap_other (by omega)).trans hk)⟩
      · exact ⟨some k, _, by have := run_endLoop (P := P) hl (by rw [hrec]; simp); rw [hrec] at this; exact this, hstop _ k pre _ (Nat.le_refl _) hSp ((hIx k).putObj _ hi (by omega) hl rfl) ((World.putObj_heap_other (by omega)).trans hk)⟩

/-! ### small words for the invariants -/
theorem blk_kept {W W' : World} {row : Option Nat} {b : Nat} {o : Obj} (h : W.heap[b]? = some o) (hg : W.grownBy W' row) (hr : row ≠ some b) : W'.heap[b]? = some o := by
  rw [hg.block b (Array.getElem?_eq_some_iff.1 h).1 (fun e => hr e.symm)]; exact h
theorem blk_own {β : Type} (B b : Nat) (o : β → Obj) (ho : ∀ s, (o s).isCells = true) : OwnFrom B (fun (s : β) W => W.heap[b]? = some (o s)) :=
  fun s W W' row h hg hr => blk_kept h hg (fun e => by obtain ⟨_, o', h', hn⟩ := hr b e; rw [h] at h'; cases h'; rw [ho] at hn; cases hn)
theorem blk_abc {β : Type} {c b : Nat} (h : b ≠ c) (o : β → Obj) : AbC c (fun (s : β) W => W.heap[b]? = some (o s)) :=
  fun s W W' row hs hg hr => blk_kept hs hg (fun e => h (hr b e))
theorem below_abc {β : Type} {c B : Nat} {w : World} (h : B ≤ c) (hB : B ≤ w.heap.size) : AbC c (fun (_ : β) W => Below B w W) :=
  fun s W W' row hs hg hr => hs.grown hg (by have := hs.size; omega) (fun k e => by rw [hr k e]; exact h)
theorem AbC.and {β : Type} {c : Nat} {I J : β → World → Prop} (h : AbC c I) (k : AbC c J) : AbC c (fun s W => I s W ∧ J s W) :=
  fun s W W' row hs hg hr => ⟨h s W W' row hs.1 hg hr, k s W W' row hs.2 hg hr⟩
theorem AbC.ex {β γ : Type} {c : Nat} {I : γ → β → World → Prop} (h : ∀ x, AbC c (I x)) : AbC c (fun s W => ∃ x, I x s W) :=
  fun s W W' row ⟨x, hs⟩ hg hr => ⟨x, h x s W W' row hs hg hr⟩
theorem abc_pure {β : Type} {c : Nat} (p : β → Prop) : AbC c (fun s (_ : World) => p s) := fun s W W' row hs hg hr => hs
theorem own_ex {β γ : Type} {B : Nat} {I : γ → β → World → Prop} (h : ∀ x, OwnFrom B (I x)) : OwnFrom B (fun s W => ∃ x, I x s W) :=
  fun s W W' row ⟨x, hs⟩ hg hr => ⟨x, h x s W W' row hs hg hr⟩
theorem own_pure {β : Type} {B : Nat} (p : β → Prop) : OwnFrom B (fun s (_ : World) => p s) := fun s W W' row hs hg hr => hs
theorem own_and {β : Type} {B : Nat} {I J : β → World → Prop} (h : OwnFrom B I) (k : OwnFrom B J) : OwnFrom B (fun s W => I s W ∧ J s W) :=
  fun s W W' row hs hg hr => ⟨h s W W' row hs.1 hg hr, k s W W' row hs.2 hg hr⟩
theorem own_below {β : Type} {B B' : Nat} {w : World} (h : B' ≤ B) (hB : B' ≤ w.heap.size) : OwnFrom B (fun (_ : β) W => Below B' w W) :=
  fun s W W' row hs hg hr => hs.grown hg (by have := hs.size; omega) (fun k e => by have := (hr k e).1; omega)
theorem own_size {β : Type} {B : Nat} (k : Nat) : OwnFrom B (fun (_ : β) W => k < W.heap.size) := fun s W W' row hs hg hr => Nat.lt_of_lt_of_le hs hg.size
theorem abc_size {β : Type} {c : Nat} (k : Nat) : AbC c (fun (_ : β) W => k < W.heap.size) := fun s W W' row hs hg hr => Nat.lt_of_lt_of_le hs hg.size
theorem blk_new (W : World) (cs : Array Value) (t : TypeId) : (W.alloc (.cells cs t)).heap[W.heap.size]? = some (.cells cs t) := World.alloc_heap_new W _
theorem blk_new' {W : World} {b : Nat} (hb : W.heap.size = b) (cs : Array Value) (t : TypeId) : (W.alloc (.cells cs t)).heap[b]? = some (.cells cs t) := by rw [← hb]; exact blk_new W cs t
theorem blk_alloc {W : World} {b : Nat} {o : Obj} (h : W.heap[b]? = some o) (o' : Obj) : (W.alloc o').heap[b]? = some o :=
  (Below.heap_alloc W o' b (Array.getElem?_eq_some_iff.1 h).1).trans h
theorem blk_lt {W : World} {b : Nat} {o : Obj} (h : W.heap[b]? = some o) : b < W.heap.size := (Array.getElem?_eq_some_iff.1 h).1
theorem blk_cell {W : World} {b : Nat} {cs : Array Value} {t : TypeId} (h : W.heap[b]? = some (.cells cs t (0, 0))) (i : Nat) : W.cell? ⟨b, i, none⟩ = cs[i]? := by simp [World.cell?, h]
theorem blk_free {W : World} {b : Nat} {cs : Array Value} {t : TypeId} (h : W.heap[b]? = some (.cells cs t (0, 0))) (i : Nat) : W.frozen? ⟨b, i, none⟩ = false := by simp [World.frozen?, h]
theorem blk_set_other {W : World} {b b' : Nat} {o : Obj} (h : W.heap[b]? = some o) (hne : b ≠ b') (i : Nat) (v : Value) : (W.setCell ⟨b', i, none⟩ v).heap[b]? = some o :=
  (Below.heap_setCell W ⟨b', i, none⟩ v b hne).trans h
theorem blk_set_same {W : World} {b : Nat} {cs : Array Value} {t : TypeId} (h : W.heap[b]? = some (.cells cs t (0, 0))) (i : Nat) (v : Value) : (W.setCell ⟨b, i, none⟩ v).heap[b]? = some (.cells (cs.setIfInBounds i v) t (0, 0)) := by
  simp [World.setCell, Array.getElem?_modify, h]
end Lw
set_option linter.unusedVariables false
set_option linter.unusedSimpArgs false
namespace Lw
open Go Go.RowKit
/-- the n elements of a slice, of sz cells each, are the cells xs -/
def Rd (w : World) (sz : Nat) (A : Option Addr) (n : Nat) (xs : List Value) : Prop :=
  xs.length = n * sz ∧ (0 < n → ∃ ad, A = some ad ∧ ad.block < w.heap.size ∧ ∀ j u, xs[j]? = some u → w.cell? (ad.add j) = some u)
theorem belowDrewN {B : Nat} {a w : World} (h : Below B a w) (n : Nat) : Below B a (w.drewN n) := ⟨h.os, h.tape, h.output, h.size, h.block⟩
theorem balloc {w W : World} (h : Below w.heap.size w W) (o : Obj) : Below w.heap.size w (W.alloc o) := h.alloc h.size o
theorem bset {w W : World} {p : Addr} (h : Below w.heap.size w W) (hp : w.heap.size ≤ p.block) (v : Value) : Below w.heap.size w (W.setCell p v) := h.setCell hp v
theorem bdrewN {w W : World} (h : Below w.heap.size w W) (n : Nat) : Below w.heap.size w (W.drewN n) := belowDrewN h n
theorem add_block (a : Addr) (n : Nat) : (a.add n).block = a.block := by unfold Addr.add; split <;> rfl
theorem add_add (a : Addr) (i j : Nat) : (a.add i).add j = a.add (i + j) := by
  unfold Addr.add
  by_cases hi : i = 0 <;> by_cases hj : j = 0 <;> simp [hi, hj, Nat.add_assoc]
theorem Rd.nil (w : World) (sz : Nat) (A : Option Addr) : Rd w sz A 0 [] := ⟨by simp, fun h => absurd h (by omega)⟩
theorem Rd.below {w w' : World} {sz n : Nat} {A : Option Addr} {xs : List Value} (h : Rd w sz A n xs) {B : Nat} (hB : w.heap.size ≤ B) (hb : Below B w w') : Rd w' sz A n xs :=
  ⟨h.1, fun hn => by
    obtain ⟨ad, e, hlt, hc⟩ := h.2 hn
    exact ⟨ad, e, by have := hb.size; omega, fun j u hu => (hb.cell (p := ad.add j) (by rw [add_block]; omega)).trans (hc j u hu)⟩⟩
theorem Rd.alloc {w : World} {sz n : Nat} {A : Option Addr} {xs : List Value} (h : Rd w sz A n xs) (o : Obj) : Rd (w.alloc o) sz A n xs :=
  h.below (Nat.le_refl _) ((Below.refl _ _).alloc (Nat.le_refl _) o)
theorem Rd.drewN {w : World} {sz n : Nat} {A : Option Addr} {xs : List Value} (h : Rd w sz A n xs) (k : Nat) : Rd (w.drewN k) sz A n xs := h
/-- the slice value, its cells, in the walk's words -/
theorem Rd.at_ {w : World} {sz n k : Nat} {A : Option Addr} {xs : List Value} (h : Rd w sz A n xs) (hk : k < n) :
    ∃ ad, A = some ad ∧ ad.block < w.heap.size ∧ ∀ j u, xs[k * sz + j]? = some u → w.cell? ((ad.add (k * sz)).add j) = some u := by
  obtain ⟨ad, e, hlt, hc⟩ := h.2 (by omega)
  exact ⟨ad, e, hlt, fun j u hu => by rw [add_add]; exact hc _ _ hu⟩
theorem add_zero' (a : Addr) : a.add 0 = a := rfl
theorem add_succ' (a : Addr) (j : Nat) : a.add (j + 1) = ⟨a.block, a.off + (j + 1), none⟩ := by unfold Addr.add; simp
/-- elements of one cell -/
theorem Rd.at1 {w : World} {n k : Nat} {A : Option Addr} {xs : List Value} {x : Value} (h : Rd w 1 A n xs) (hk : k < n) (h0 : xs[k]? = some x) :
    ∃ ad, A = some ad ∧ ad.block < w.heap.size ∧ w.cell? (ad.add k) = some x := by
  obtain ⟨ad, e, hb, hc⟩ := h.2 (by omega)
  exact ⟨ad, e, hb, hc _ _ h0⟩
/-- elements of two cells, as the walk spells their addresses -/
theorem Rd.at2 {w : World} {n k : Nat} {A : Option Addr} {xs : List Value} {x y : Value} (h : Rd w 2 A n xs) (hk : k < n) (h0 : xs[k * 2 + 0]? = some x) (h1 : xs[k * 2 + 1]? = some y) :
    ∃ ad, A = some ad ∧ ad.block < w.heap.size ∧ w.cell? (ad.add (k * 2)) = some x ∧ w.cell? ⟨(ad.add (k * 2)).block, (ad.add (k * 2)).off + 1, none⟩ = some y := by
  obtain ⟨ad, e, hb, hc⟩ := h.at_ hk
  refine ⟨ad, e, hb, ?_, ?_⟩
  · have := hc 0 _ h0; rwa [add_zero'] at this
  · have := hc 1 _ h1; rwa [add_succ'] at this
theorem Rd.of_own {w : World} {base sz n c : Nat} {A : Option Addr} {e : TypeId} {xs : List Value} (h : w.ownsRow base e sz (.slice A n c) n xs) : Rd w sz A n xs := by
  refine ⟨h.1, fun hn => ?_⟩
  rcases h.2 with ⟨_, h0⟩ | ⟨g, cap, cur, hv, hb, hh, _⟩
  · omega
  · have hA : A = some ⟨g, 0, none⟩ := by injection hv
    subst hA
    exact ⟨_, rfl, (Array.getElem?_eq_some_iff.1 hh).1, h.cells (g := g) rfl⟩
/-- four cells of a block of the call's own are kept over a call that makes memory -/
theorem gs_keep {w w1 w2 : World} {b : Nat} {x0 x1 x2 x3 : Value} (h0 : w1.cell? ⟨b, 0, none⟩ = some x0) (h1 : w1.cell? ⟨b, 1, none⟩ = some x1) (h2 : w1.cell? ⟨b, 2, none⟩ = some x2) (h3 : w1.cell? ⟨b, 3, none⟩ = some x3) (hl : b < w1.heap.size) (hB : Below w.heap.size w w1) (hb : Below w1.heap.size w1 w2) :
    w2.cell? ⟨b, 0, none⟩ = some x0 ∧ w2.cell? ⟨b, 1, none⟩ = some x1 ∧ w2.cell? ⟨b, 2, none⟩ = some x2 ∧ w2.cell? ⟨b, 3, none⟩ = some x3 ∧ b < w2.heap.size ∧ Below w.heap.size w w2 :=
  ⟨(hb.cell (p := ⟨b, 0, none⟩) hl).trans h0, (hb.cell (p := ⟨b, 1, none⟩) hl).trans h1, (hb.cell (p := ⟨b, 2, none⟩) hl).trans h2, (hb.cell (p := ⟨b, 3, none⟩) hl).trans h3, by have := hb.size; omega, bt hB hb⟩
/-- a slice of a block that is known whole -/
theorem Rd.lit {w : World} {b n sz : Nat} {cs : Array Value} {t : TypeId} {xs : List Value} (h : w.heap[b]? = some (.cells cs t (0, 0))) (hx : cs.toList = xs) (hl : xs.length = n * sz) : Rd w sz (some ⟨b, 0, none⟩) n xs :=
  ⟨hl, fun _ => ⟨_, rfl, (Array.getElem?_eq_some_iff.1 h).1, fun j u hu => by
    have e : (⟨b, 0, none⟩ : Addr).add j = ⟨b, j, none⟩ := by unfold Addr.add; split <;> simp_all
    rw [e, cell_of_row _ _ _ cs t (0, 0) h, ← Array.getElem?_toList, hx]; exact hu⟩⟩
theorem ownsForm {w : World} {base sz n : Nat} {v : Value} {e : TypeId} {xs : List Value} (h : w.ownsRow base e sz v n xs) : ∃ A c, v = .slice A n c ∧ n ≤ c ∧ c ≤ maxLen ∧ (A = none ∨ ∃ g, A = some ⟨g, 0, none⟩ ∧ base ≤ g ∧ g < w.heap.size) := by
  rcases h.2 with ⟨rfl, rfl⟩ | ⟨g, cap, cur, rfl, hb, hh, hc, hm, _⟩
  · exact ⟨none, 0, rfl, Nat.le_refl _, by unfold maxLen; omega, .inl rfl⟩
  · exact ⟨_, cap, rfl, hc, hm, .inr ⟨g, rfl, hb, (Array.getElem?_eq_some_iff.1 hh).1⟩⟩
theorem ownsBelow {w w' : World} {base B sz n : Nat} {v : Value} {e : TypeId} {xs : List Value} (h : w.ownsRow base e sz v n xs) (hB : w.heap.size ≤ B) (hb : Below B w w') : w'.ownsRow base e sz v n xs := by
  refine ⟨h.1, ?_⟩
  rcases h.2 with hn | ⟨g, cap, cur, rfl, hg, hh, rest⟩
  · exact .inl hn
  · have hlt := (Array.getElem?_eq_some_iff.1 hh).1
    exact .inr ⟨g, cap, cur, rfl, hg, (hb.block g (by omega)).trans hh, rest⟩
theorem ownsBase {w : World} {base base' sz n : Nat} {v : Value} {e : TypeId} {xs : List Value} (h : w.ownsRow base e sz v n xs) (hb : base' ≤ base) : w.ownsRow base' e sz v n xs := by
  refine ⟨h.1, ?_⟩
  rcases h.2 with hn | ⟨g, cap, cur, rfl, hg, rest⟩
  · exact .inl hn
  · exact .inr ⟨g, cap, cur, rfl, by omega, rest⟩
/-- what a call hands back that has made a slice -/
def OwnRes (T sz : Nat) (xs : List Value) (n : Nat) (w : World) (e : Ending) (w' : World) : Prop :=
  ∃ A c, e = .returned (.slice A n c) ∧ w'.ownsRow w.heap.size T sz (.slice A n c) n xs ∧ Below w.heap.size w w'
/-- behind an append onto a row of the call's own -/
theorem grown_own {w0 w w' : World} {base sz n : Nat} {v : Value} {e : TypeId} {xs : List Value} (hB : Below w0.heap.size w0 w) (h : w.ownsRow base e sz v n xs) (hb : w0.heap.size ≤ base) (hg : w.grownBy w' v.ownBlock) : Below w0.heap.size w0 w' :=
  hB.grown hg hB.size (fun k hk => by have := (h.lt k hk).1; omega)
theorem cells_new (w : World) (cs : Array Value) (t : TypeId) : ∀ j u, cs.toList[j]? = some u → (w.alloc (.cells cs t)).cell? ((⟨w.heap.size, 0, none⟩ : Addr).add j) = some u := by
  intro j u hu
  have e : (⟨w.heap.size, 0, none⟩ : Addr).add j = ⟨w.heap.size, j, none⟩ := by unfold Addr.add; split <;> simp_all
  rw [e, cell_of_row _ _ _ cs t (0, 0) (heap_alloc_new w _)]
  simpa using hu
/-- integers as cells -/
def intsV (k : IntKind) (zs : List Int) : List Value := zs.map (.int k)
theorem intsV_length (k : IntKind) (zs : List Int) : (intsV k zs).length = zs.length := by simp [intsV]
theorem intsV_get {k : IntKind} {zs : List Int} {i : Nat} (h : i < zs.length) : (intsV k zs)[i]? = some (.int k zs[i]) := by simp [intsV, h]
theorem intsV_one (k : IntKind) (zs : List Int) : ∀ u ∈ intsV k zs, u.oneCell' = true := by
  intro u hu; obtain ⟨x, _, rfl⟩ := List.mem_map.1 hu; rfl
theorem one1 (k : IntKind) (a : Int) : ∀ u ∈ [Value.int k a], u.oneCell' = true := by intro u hu; simp at hu; subst hu; rfl
theorem one2 (k l : IntKind) (a b : Int) : ∀ u ∈ [Value.int k a, Value.int l b], u.oneCell' = true := by intro u hu; simp at hu; rcases hu with rfl | rfl <;> rfl
theorem max_of {n : Nat} (h : n ≤ 140737488355328) : n ≤ maxLen := by unfold maxLen; omega
theorem grow_ok {w0 w : World} (hB : Below w0.heap.size w0 w) (o : Obj) : w0.heap.size ≤ (w.alloc o).heap.size := by have := hB.size; simp; omega
/-- pairs of integers as cells: structs of two integer fields -/
def pairsV (k l : IntKind) (zs : List (Int × Int)) : List Value := zs.flatMap fun x => [.int k x.1, .int l x.2]
theorem pairsV_length (k l : IntKind) (zs : List (Int × Int)) : (pairsV k l zs).length = zs.length * 2 := by
  induction zs with
  | nil => rfl
  | cons x zs ih => simp only [pairsV, List.flatMap_cons, List.length_append, List.length_cons, List.length_nil] at *; omega
theorem pairsV_append (k l : IntKind) (a b : List (Int × Int)) : pairsV k l (a ++ b) = pairsV k l a ++ pairsV k l b := by simp [pairsV]
theorem pairsV_get {k l : IntKind} : ∀ {zs : List (Int × Int)} {i : Nat} (h : i < zs.length), (pairsV k l zs)[i * 2 + 0]? = some (.int k zs[i].1) ∧ (pairsV k l zs)[i * 2 + 1]? = some (.int l zs[i].2)
  | x :: zs, 0, _ => by simp [pairsV]
  | x :: zs, i + 1, h => by
    have ih := pairsV_get (k := k) (l := l) (zs := zs) (i := i) (by simpa using h)
    have e : pairsV k l (x :: zs) = [.int k x.1, .int l x.2] ++ pairsV k l zs := by simp [pairsV]
    rw [e, List.getElem?_append_right (by simp; omega), List.getElem?_append_right (by simp; omega)]
    simp only [List.length_cons, List.length_nil, List.getElem_cons_succ]
    rw [show (i + 1) * 2 + 0 - (0 + 1 + 1) = i * 2 + 0 from by omega, show (i + 1) * 2 + 1 - (0 + 1 + 1) = i * 2 + 1 from by omega]
    exact ih
/-- elements of three cells -/
theorem Rd.at3 {w : World} {n k : Nat} {A : Option Addr} {xs : List Value} {x y z : Value} (h : Rd w 3 A n xs) (hk : k < n) (h0 : xs[k * 3 + 0]? = some x) (h1 : xs[k * 3 + 1]? = some y) (h2 : xs[k * 3 + 2]? = some z) :
    ∃ ad, A = some ad ∧ ad.block < w.heap.size ∧ w.cell? (ad.add (k * 3)) = some x ∧ w.cell? ⟨(ad.add (k * 3)).block, (ad.add (k * 3)).off + 1, none⟩ = some y ∧ w.cell? ⟨(ad.add (k * 3)).block, (ad.add (k * 3)).off + 2, none⟩ = some z := by
  obtain ⟨ad, e, hb, hc⟩ := h.at_ hk
  refine ⟨ad, e, hb, ?_, ?_, ?_⟩
  · have := hc 0 _ h0; rwa [add_zero'] at this
  · have := hc 1 _ h1; rwa [add_succ'] at this
  · have := hc 2 _ h2; rwa [add_succ'] at this
/-- structs of three integer fields -/
def tripsV (zs : List (Int × Int × Int)) : List Value := zs.flatMap fun x => [.int .i64 x.1, .int .i64 x.2.1, .int .i64 x.2.2]
theorem tripsV_length (zs : List (Int × Int × Int)) : (tripsV zs).length = zs.length * 3 := by
  induction zs with
  | nil => rfl
  | cons x zs ih => simp only [tripsV, List.flatMap_cons, List.length_append, List.length_cons, List.length_nil] at *; omega
theorem tripsV_get : ∀ {zs : List (Int × Int × Int)} {i : Nat} (h : i < zs.length), (tripsV zs)[i * 3 + 0]? = some (.int .i64 zs[i].1) ∧ (tripsV zs)[i * 3 + 1]? = some (.int .i64 zs[i].2.1) ∧ (tripsV zs)[i * 3 + 2]? = some (.int .i64 zs[i].2.2)
  | x :: zs, 0, _ => by simp [tripsV]
  | x :: zs, i + 1, h => by
    have ih := tripsV_get (zs := zs) (i := i) (by simpa using h)
    have e : tripsV (x :: zs) = [.int .i64 x.1, .int .i64 x.2.1, .int .i64 x.2.2] ++ tripsV zs := by simp [tripsV]
    rw [e, List.getElem?_append_right (by simp; omega), List.getElem?_append_right (by simp; omega), List.getElem?_append_right (by simp; omega)]
    simp only [List.length_cons, List.length_nil, List.getElem_cons_succ]
    rw [show (i + 1) * 3 + 0 - (0 + 1 + 1 + 1) = i * 3 + 0 from by omega, show (i + 1) * 3 + 1 - (0 + 1 + 1 + 1) = i * 3 + 1 from by omega, show (i + 1) * 3 + 2 - (0 + 1 + 1 + 1) = i * 3 + 2 from by omega]
    exact ih
/-- only block b, and what is new, has turned -/
theorem grown_set {a w : World} {b : Nat} {i : Nat} (h : Below a.heap.size a w) (v : Value) : a.grownBy (w.setCell ⟨b, i, none⟩ v) (some b) :=
  ⟨h.os, h.tape, h.output, by simpa [World.setCell] using h.size, fun j hj hne => (Below.heap_setCell w ⟨b, i, none⟩ v j (by rintro rfl; exact hne rfl)).trans (h.block j hj)⟩
theorem grown_below {a w : World} {b B : Nat} (h : a.grownBy w (some b)) (hB : B ≤ b) (hs : B ≤ a.heap.size) : Below B a w :=
  ⟨h.os, h.tape, h.output, h.size, fun j hj => h.block j (by omega) (by intro e; injection e; omega)⟩
end Lw
set_option linter.unusedVariables false
set_option linter.unusedSimpArgs false
namespace Lw
open Go Go.RowKit
/-- what the program says of a slice type t, its elements' type e: the element's zero value, its cells, its bytes -/
def El (P : Program) (t e : TypeId) (z : Value) (size bytes : Nat) : Prop :=
  P.underlying t = some (.slice e) ∧ z.cells.size = size ∧ 0 < size ∧ bytes ≤ 4096 ∧ ∃ i, P.info? e = some i ∧ i.zero = some z ∧ i.size = size ∧ i.bytes = bytes
theorem El.mk' {P : Program} {t e : TypeId} {z : Value} {size bytes : Nat} (h : P.underlying t = some (.slice e)) (hi : (P.info? e).map (fun i => (i.zero, i.size, i.bytes)) = some (some z, size, bytes)) (hz : z.cells.size = size) (h0 : 0 < size) (hb : bytes ≤ 4096) : El P t e z size bytes :=
  ⟨h, hz, h0, hb, info_parts hi⟩
section
variable {P : Program} {w : World}
theorem run_app {t ty e : TypeId} {z : Value} {size bytes base : Nat} (hel : El P t e z size bytes) {v : Value} {n : Nat} {xs : List Value} (hown : w.ownsRow base e size v n xs) {A : Option Addr} {m c : Nat} {news : List Value} (R : Rd w size A m news) (h1 : ∀ u ∈ news, u.oneCell' = true) (hm : n + m ≤ 16777216) (hbase : base ≤ w.heap.size) :
    ∃ v' w', (Builtin.append_ #[t, t] ty #[v, .slice A m c]).run P w = .ok v' w' ∧ w'.ownsRow base e size v' (n + m) (xs ++ news) ∧ w.grownBy w' v.ownBlock ∧ (v'.ownBlock = v.ownBlock ∨ v'.ownBlock = some w.heap.size) := by
  obtain ⟨ht, hz, h0, hb, i, hi, hiz, hsz, hby⟩ := hel
  have hbound : (n + m) * bytes ≤ 140737488355328 := by
    have := Nat.mul_le_mul hm hb; omega
  rcases A with _ | ad
  · have hm0 : m = 0 := by
      rcases Nat.eq_zero_or_pos m with h | h
      · exact h
      · obtain ⟨_, h2, _⟩ := R.2 h; cases h2
    subst hm0
    have hn : news = [] := List.eq_nil_of_length_eq_zero (by simpa using R.1)
    subst hn
    refine ⟨v, w, ?_, by simpa using hown, World.grownBy.refl w _, .inl rfl⟩
    rcases hown.2 with ⟨rfl, rfl⟩ | ⟨g, cap, cur, rfl, _, _, hnc, _⟩
    · simp [Builtin.append_, run_underlying ht, Go.sizeOf, typeInfo, hi, Builtin.lenOf, Builtin.firstCells]
    · simp [Builtin.append_, run_underlying ht, Go.sizeOf, typeInfo, hi, Builtin.lenOf, Builtin.firstCells, hnc, storeCells]
  · have hc : ∀ j u, news[j]? = some u → w.cell? (ad.add j) = some u := by
      intro j u hu
      rcases Nat.eq_zero_or_pos m with h | h
      · subst h
        have hn : news = [] := List.eq_nil_of_length_eq_zero (by simpa using R.1)
        subst hn; simp at hu
      · obtain ⟨ad', h2, _, h3⟩ := R.2 h
        injection h2 with h2; subst h2; exact h3 j u hu
    obtain ⟨v', w', a, b, c', _, d⟩ := run_append_own_at (P := P) w base t ty e i z size bytes ht hi hiz hsz hby hz h0 v n xs hown ad m c news R.1 hc h1 (max_of (by omega)) hbound hbase
    exact ⟨v', w', a, b, c', d⟩
theorem wp_app {o : Oper} {a : Act} {K : Act → World → Prop} {Q : Exit → Act → World → Prop} {t e : TypeId} {z : Value} {size bytes base : Nat} (hel : El P t e z size bytes) (s x : Operand)
    (ho : o.op = .call { callee := .builtin .append, args := #[s, x], argTypes := #[t, t] }) {v : Value} {n : Nat} {xs : List Value} (hs : a.eval s = v) (hown : w.ownsRow base e size v n xs) {A : Option Addr} {m c : Nat} {news : List Value} (hx : a.eval x = .slice A m c) (R : Rd w size A m news) (h1 : ∀ u ∈ news, u.oneCell' = true) (hm : n + m ≤ 16777216)
    {w0 : World} (hB : Below w0.heap.size w0 w) (hb0 : w0.heap.size ≤ base) (hbase : base ≤ w.heap.size)
    (h : ∀ v' w', w'.ownsRow base e size v' (n + m) (xs ++ news) → Below w0.heap.size w0 w' → w.grownBy w' v.ownBlock → (v'.ownBlock = v.ownBlock ∨ v'.ownBlock = some w.heap.size) → K (a.put o.dst v') w') : o.wp P a w K Q := by
  obtain ⟨v', w', hr, h2, h3, h4⟩ := run_app (ty := o.type) (c := c) hel hown R h1 hm hbase
  unfold Oper.wp execOp
  simp only [ho, resolve, invoke, builtin, Sem.run_bind, Sem.run_pure, Result.andThen_ok, List.map_toArray, List.map_cons, List.map_nil, hs, hx, hr]
  exact h v' w' h2 (grown_own hB hown hb0 h3) h3 h4
theorem wpList_app {ops : Array Oper} {rest : List Oper} {o : Oper} {a : Act} {Q : Exit → Act → World → Prop} {t e : TypeId} {z : Value} {size bytes base : Nat} (hel : El P t e z size bytes) (hgd : o.guard = none) (s x : Operand)
    (ho : o.op = .call { callee := .builtin .append, args := #[s, x], argTypes := #[t, t] }) {v : Value} {n : Nat} {xs : List Value} (hs : a.eval s = v) (hown : w.ownsRow base e size v n xs) {A : Option Addr} {m c : Nat} {news : List Value} (hx : a.eval x = .slice A m c) (R : Rd w size A m news) (h1 : ∀ u ∈ news, u.oneCell' = true) (hm : n + m ≤ 16777216)
    {w0 : World} (hB : Below w0.heap.size w0 w) (hb0 : w0.heap.size ≤ base) (hbase : base ≤ w.heap.size)
    (h : ∀ v' w', w'.ownsRow base e size v' (n + m) (xs ++ news) → Below w0.heap.size w0 w' → w.grownBy w' v.ownBlock → (v'.ownBlock = v.ownBlock ∨ v'.ownBlock = some w.heap.size) → wpList P ops Q rest (a.put o.dst v') w') : wpList P ops Q (o :: rest) a w :=
  wpList_plain hgd fun _ hK => wp_app hel s x ho hs hown hx R h1 hm hB hb0 hbase fun v' w' h2 h3 h4 h5 => hK _ _ (h v' w' h2 h3 h4 h5)
theorem wpList_app_g {ops : Array Oper} {rest : List Oper} {o : Oper} {a : Act} {Q : Exit → Act → World → Prop} {t e : TypeId} {z : Value} {size bytes base : Nat} (hel : El P t e z size bytes) (hw : Region.wanted o (yielded ops a.tmps) = true) (s x : Operand)
    (ho : o.op = .call { callee := .builtin .append, args := #[s, x], argTypes := #[t, t] }) {v : Value} {n : Nat} {xs : List Value} (hs : a.eval s = v) (hown : w.ownsRow base e size v n xs) {A : Option Addr} {m c : Nat} {news : List Value} (hx : a.eval x = .slice A m c) (R : Rd w size A m news) (h1 : ∀ u ∈ news, u.oneCell' = true) (hm : n + m ≤ 16777216)
    {w0 : World} (hB : Below w0.heap.size w0 w) (hb0 : w0.heap.size ≤ base) (hbase : base ≤ w.heap.size)
    (h : ∀ v' w', w'.ownsRow base e size v' (n + m) (xs ++ news) → Below w0.heap.size w0 w' → w.grownBy w' v.ownBlock → (v'.ownBlock = v.ownBlock ∨ v'.ownBlock = some w.heap.size) → wpList P ops Q rest (a.put o.dst v') w') : wpList P ops Q (o :: rest) a w :=
  BigFrame.wpList_want hw fun _ hK => wp_app hel s x ho hs hown hx R h1 hm hB hb0 hbase fun v' w' h2 h3 h4 h5 => hK _ _ (h v' w' h2 h3 h4 h5)
theorem step_app {ops : Array Oper} {o : Oper} {a : Act} {K : Act → World → Prop} {Q : Exit → Act → World → Prop} {E : Prop} {t e : TypeId} {z : Value} {size bytes base : Nat} (hel : El P t e z size bytes) (hgd : o.guard = none) (s x : Operand)
    (ho : o.op = .call { callee := .builtin .append, args := #[s, x], argTypes := #[t, t] }) {v : Value} {n : Nat} {xs : List Value} (hs : a.eval s = v) (hown : w.ownsRow base e size v n xs) {A : Option Addr} {m c : Nat} {news : List Value} (hx : a.eval x = .slice A m c) (R : Rd w size A m news) (h1 : ∀ u ∈ news, u.oneCell' = true) (hm : n + m ≤ 16777216)
    {w0 : World} (hB : Below w0.heap.size w0 w) (hb0 : w0.heap.size ≤ base) (hbase : base ≤ w.heap.size)
    (h : ∀ v' w', w'.ownsRow base e size v' (n + m) (xs ++ news) → Below w0.heap.size w0 w' → w.grownBy w' v.ownBlock → (v'.ownBlock = v.ownBlock ∨ v'.ownBlock = some w.heap.size) → K (a.put o.dst v') w') : if Region.wanted o (yielded ops a.tmps) = true then Oper.wp P o a w K Q else E := by
  have hw : Region.wanted o (yielded ops a.tmps) = true := by simp [Region.wanted, hgd]
  rw [if_pos hw]
  exact wp_app hel s x ho hs hown hx R h1 hm hB hb0 hbase h
/-- a new row of zeros: 'append(nil, make([]T, n)...)' -/
theorem made_own {t tn ty e : TypeId} {z : Value} {bytes : Nat} (hel : El P t e z 1 bytes) {kn k : IntKind} (htn : P.underlying tn = some (.int kn)) (n : Nat) (h0 : 0 < n) (hn : n ≤ 16777216) :
    ∃ c cs, (Builtin.append_ #[t, tn] ty #[.slice none 0 0, .int k n]).run P w = .ok (.slice (some ⟨w.heap.size, 0, none⟩) n c) (w.drew.alloc (.cells cs e)) ∧ n ≤ c ∧ c ≤ maxLen ∧ cs.size = c := by
  obtain ⟨ht, hz, h0', hb, i, hi, hiz, hsz, hby⟩ := hel
  have hbound : n * i.bytes ≤ 281474976710656 := by
    rw [hby]; have := Nat.mul_le_mul hn hb; omega
  refine ⟨_, _, Lib.run_append_nil_zeros w t tn ty e i z k kn ht htn hi hiz n h0 (by omega) (by omega) hbound, grownCap_ge .., grownCap_le_maxLen _ _ _ _ (max_of (by omega)), ?_⟩
  have := grownCap_ge w n 0 e
  simp only [Array.size_append, size_zeroCells, hz]
  omega
end
/-- an element of a row of the call's own is set -/
theorem own_set {w : World} {base e n c g i : Nat} {v : Value} {xs : List Value} (h : w.ownsRow base e 1 (.slice (some ⟨g, 0, none⟩) n c) n xs) (hi : i < n) : (w.setCell ⟨g, i, none⟩ v).ownsRow base e 1 (.slice (some ⟨g, 0, none⟩) n c) n (xs.set i v) := by
  obtain ⟨hl, h2⟩ := h
  refine ⟨by simpa using hl, ?_⟩
  rcases h2 with ⟨h0, _⟩ | ⟨g', cap, cur, hv, hbg, hh, hnc, hcm, hcs, htake⟩
  · cases h0
  · injection hv with e1 e2 e3
    injection e1 with e1
    injection e1 with e1
    subst e1 e3
    refine .inr ⟨g, c, cur.setIfInBounds i v, rfl, hbg, ?_, hnc, hcm, by simpa using hcs, ?_⟩
    · simp [World.setCell, Array.getElem?_modify, hh]
    · rw [← htake, Array.toList_setIfInBounds, List.take_set]
/-- its cell, and that it may be written -/
theorem own_cell {w : World} {base e n c g i : Nat} {v : Value} {xs : List Value} (h : w.ownsRow base e 1 (.slice (some ⟨g, 0, none⟩) n c) n xs) (hv : xs[i]? = some v) : w.cell? ⟨g, i, none⟩ = some v ∧ w.frozen? ⟨g, i, none⟩ = false ∧ base ≤ g ∧ g < w.heap.size := by
  have h1 := h.cells (g := g) rfl i v hv
  have e : (⟨g, 0, none⟩ : Addr).add i = ⟨g, i, none⟩ := by unfold Addr.add; split <;> simp_all
  rw [e] at h1
  refine ⟨h1, ?_⟩
  rcases h.2 with ⟨h0, _⟩ | ⟨g', cap, cur, hv, hbg, hh, _⟩
  · cases h0
  · injection hv with e1 e2 e3
    injection e1 with e1
    injection e1 with e1
    subst e1
    exact ⟨by simp [World.frozen?, hh], hbg, blk_lt hh⟩
/-- a block that is known whole is the call's own -/
theorem own_blk {w : World} {base g e size n : Nat} {cs : List Value} (h : w.heap[g]? = some (.cells cs.toArray e (0, 0))) (hn : cs.length = n * size) (hm : n ≤ 16777216) (hb : base ≤ g) : w.ownsRow base e size (.slice (some ⟨g, 0, none⟩) n n) n cs :=
  ⟨hn, .inr ⟨g, n, cs.toArray, rfl, hb, h, Nat.le_refl _, max_of (by omega), by simpa using hn, by rw [← hn]; exact List.take_length⟩⟩
/-- 'make([]T, n)' -/
theorem run_mk {P : Program} {t e : TypeId} {z : Value} {bytes : Nat} (hel : El P t e z 1 bytes) (hz : z.cells = #[z]) (kl kc : IntKind) (n : Nat) (hn : n ≤ 16777216) (w : World) :
    (Instr.makeSlice t (.int kl (n : Int)) (.int kc (n : Int))).run P w = .ok (.slice (some ⟨w.heap.size, 0, none⟩) n n) (w.alloc (.cells (List.replicate n z).toArray e)) := by
  obtain ⟨ht, _, h0, hb, i, hi, hiz, hsz, hby⟩ := hel
  have hbound : (i.bytes : Int) * (n : Int) ≤ 281474976710656 := by
    rw [hby, Int.mul_comm]
    have := Nat.mul_le_mul hn hb
    have h2 : ((n * bytes : Nat) : Int) ≤ 281474976710656 := by omega
    rwa [Int.natCast_mul] at h2
  have hr := run_make w t e i z ht hi hiz kl kc n n (by omega) (by omega) hbound (by omega)
  rw [hr]
  simp only [Int.toNat_natCast, hsz, Nat.mul_one]
  have : madeCells z.cells n = (List.replicate n z).toArray := by
    rw [hz]
    apply Array.ext
    · simp [madeCells]
    · intro j h1 h2
      simp [madeCells, Nat.mod_one]
  rw [this]
/-- an element of an array of integers -/
theorem run_index_arr {P : Program} {t e : TypeId} {n : Nat} {k kk : IntKind} {cs : Array Value} (ht : P.underlying t = some (.array n e)) (he : P.underlying e = some (.int kk)) (hs : (P.info? e).map (·.size) = some 1) (i : Nat) (hi : i < n) {v : Value} (hv : cs[i]? = some v) (w : World) :
    (Instr.index t (.agg cs) (.int k (i : Int))).run P w = .ok v w := by
  have h1 : (0 : Int) ≤ (i : Int) := by omega
  obtain ⟨j, hj, hj1⟩ : ∃ j, P.info? e = some j ∧ j.size = 1 := by
    rcases h : P.info? e with _ | j
    · rw [h] at hs; simp at hs
    · rw [h] at hs; exact ⟨j, rfl, by simpa using hs⟩
  simp [Instr.index, asIntOf, run_underlying ht, run_underlying he, Go.sizeOf, typeInfo, hj, hj1, part, isAgg, hi, hv]
/-- a literal slice is the call's own -/
theorem own_lit (w : World) {base e size n : Nat} {cs : Array Value} {xs : List Value} (hx : cs.toList = xs) (hn : xs.length = n * size) (hm : n ≤ 16777216) (hb : base ≤ w.heap.size) : (w.alloc (.cells cs e)).ownsRow base e size (.slice (some ⟨w.heap.size, 0, none⟩) n n) n xs := by
  subst hx
  refine ⟨hn, .inr ⟨w.heap.size, n, cs, rfl, hb, heap_alloc_new _ _, Nat.le_refl _, max_of (by omega), by simpa using hn, ?_⟩⟩
  rw [← hn]; exact List.take_length
end Lw
set_option linter.unusedVariables false
namespace Lw
open Go Go.RowKit
/-- the two blocks that the iterator reads lie as they lay -/
def KB (Bs Ba : Nat) (W W' : World) : Prop := W'.heap[Bs]? = W.heap[Bs]? ∧ W'.heap[Ba]? = W.heap[Ba]?
theorem KB.refl (Bs Ba : Nat) (W : World) : KB Bs Ba W W := ⟨rfl, rfl⟩
theorem KB.trans {Bs Ba : Nat} {A B C : World} (h : KB Bs Ba A B) (k : KB Bs Ba B C) : KB Bs Ba A C := ⟨k.1.trans h.1, k.2.trans h.2⟩
theorem cell_of_blk {W W' : World} (p : Addr) (h : W'.heap[p.block]? = W.heap[p.block]?) : W'.cell? p = W.cell? p := by unfold World.cell?; rw [h]
theorem KB.cells {Bs Ba : Nat} {W W' : World} (h : KB Bs Ba W W') (p : Addr) (hp : p.block = Bs ∨ p.block = Ba) : W'.cell? p = W.cell? p := by
  refine cell_of_blk p ?_
  rcases hp with e | e <;> rw [e]
  · exact h.1
  · exact h.2
theorem KB.put {Bs Ba : Nat} {w : World} (h1 : Bs < w.heap.size) (h2 : Ba < w.heap.size) (W : World) (l : Nat) (o o' : Obj) (hl : w.heap.size ≤ l) (h : W.heap[l]? = some o) (_ : o.isCells = false) (_ : o.isWalk = false) : KB Bs Ba W (W.putObj l o') := by
  have hlt := (Array.getElem?_eq_some_iff.1 h).1
  have g := grownBy_putObj' W l o'
  exact ⟨g.block Bs (by omega) (fun e => by cases e; omega), g.block Ba (by omega) (fun e => by cases e; omega)⟩
theorem KB.below {Bs Ba B : Nat} {W W' : World} (h : Below B W W') (h1 : Bs < B) (h2 : Ba < B) : KB Bs Ba W W' := ⟨h.block Bs h1, h.block Ba h2⟩
/-- what has come when m are left -/
def bks {α : Type} (xs : List α) (m : Nat) : List (Nat × α) := ((xs.zipIdx.drop m).reverse).map fun x => (x.2, x.1)
theorem bks_top {α : Type} (xs : List α) : bks xs xs.length = [] := by simp [bks]
theorem bks_length {α : Type} (xs : List α) (m : Nat) : (bks xs m).length = xs.length - m := by simp [bks]
theorem bks_succ {α : Type} {xs : List α} {m : Nat} (h : m < xs.length) : bks xs m = bks xs (m + 1) ++ [(m, xs[m])] := by
  unfold bks
  rw [List.drop_eq_getElem_cons (by simpa using h), List.reverse_cons, List.map_append]
  simp
theorem bks_snd {α : Type} : ∀ (xs : List α), (bks xs 0).map (·.2) = xs.reverse := by
  intro xs
  unfold bks
  rw [List.drop_zero, List.map_map, List.map_reverse]
  congr 1
  exact List.zipIdx_map_fst 0 xs
end Lw
namespace Go.Proofs.Ytfocpbknckmmaaa
open Go.RowKit Go.Shelf
attribute [local go_sem] Oper.semAt_some
end Go.Proofs.Ytfocpbknckmmaaa
namespace Lw
open Go Go.RowKit
/-- 'append(nil, make([]T, n)...)' at the operation, for a walk that says what became of the world -/
theorem wpList_made {P : Program} {w : World} {ops : Array Oper} {rest : List Oper} {o : Oper} {a : Act} {Q : Exit → Act → World → Prop} {t tn e : TypeId} {z : Value} {bytes : Nat} (hel : El P t e z 1 bytes) {kn k : IntKind} (htn : P.underlying tn = some (.int kn)) (hgd : o.guard = none) (s x : Operand)
    (ho : o.op = .call { callee := .builtin .append, args := #[s, x], argTypes := #[t, tn] }) (hs : a.eval s = .slice none 0 0) {n : Nat} (hx : a.eval x = .int k (n : Int)) (h0 : 0 < n) (hn : n ≤ 16777216)
    (h : ∀ c cs, n ≤ c → c ≤ maxLen → cs.size = c → wpList P ops Q rest (a.put o.dst (.slice (some ⟨w.heap.size, 0, none⟩) n c)) (w.drew.alloc (.cells cs e))) : wpList P ops Q (o :: rest) a w := by
  obtain ⟨c, cs, hr, h1, h2, h3⟩ := made_own (w := w) (ty := o.type) hel htn (k := k) n h0 hn
  exact Lib.wpList_append_run w hgd s x t tn ho _ _ hs hx _ _ hr (h c cs h1 h2 h3)
end Lw
namespace Lw
def facP (n : Nat) : List (Int × Int) := (fac n).map fun x => ((x.1 : Int), (x.2 : Int))
theorem fac_length_le : ∀ n : Nat, (fac n).length ≤ n := by
  intro n
  induction n using Nat.strongRecOn with
  | ind n ih =>
    by_cases h : 2 ≤ n
    · rw [fac_cons h]
      obtain ⟨h1, h2, _⟩ := minFac_spec h
      have hlt := strip_lt h1 (by omega) (Nat.mod_eq_zero_of_dvd h2)
      have := ih _ hlt
      simp only [List.length_cons]; omega
    · rw [fac_small (by omega)]; simp
/-- what has been gathered so far: pre, with q left -/
def FacSt (m q p : Nat) (pre : List (Nat × Nat)) : Prop := fac m = pre ++ fac q ∧ NoBelow p q
def preP (pre : List (Nat × Nat)) : List (Int × Int) := pre.map fun x => ((x.1 : Int), (x.2 : Int))
theorem FacSt.start (m : Nat) : FacSt m m 2 [] := ⟨rfl, NoBelow.two _⟩
theorem FacSt.skip {m q p : Nat} {pre : List (Nat × Nat)} (h : FacSt m q p pre) (hn : ¬ q % p = 0) : FacSt m q (p + 1) pre := ⟨h.1, h.2.next hn⟩
theorem FacSt.len {m q p : Nat} {pre : List (Nat × Nat)} (h : FacSt m q p pre) : pre.length ≤ m := by
  have := fac_length_le m; rw [h.1] at this; simp at this; omega
theorem FacSt.take {m q p : Nat} {pre : List (Nat × Nat)} (h : FacSt m q p pre) (hp : 2 ≤ p) (hq : 0 < q) (hd : q % p = 0) : FacSt m (strip p q) (p + 1) (pre ++ [(p, vp p q)]) := by
  have h2 : 2 ≤ q := by
    have := Nat.le_of_dvd hq (Nat.dvd_of_mod_eq_zero hd); omega
  refine ⟨?_, h.2.strip hp hq⟩
  rw [h.1, fac_step h2 hp hd h.2]; simp
theorem FacSt.done {m q p : Nat} {pre : List (Nat × Nat)} (h : FacSt m q p pre) (hq : q < p) : pre = fac m := by
  have : q ≤ 1 := by
    by_cases h2 : 2 ≤ q
    · have := h.2 q h2 (Nat.dvd_refl _); omega
    · omega
  rw [h.1, fac_small this]; simp
theorem preP_snoc (pre : List (Nat × Nat)) (x : Nat × Nat) : pairsV .i64 .i64 (preP (pre ++ [x])) = pairsV .i64 .i64 (preP pre) ++ [.int .i64 (x.1 : Int), .int .i64 (x.2 : Int)] := by simp [preP, pairsV]
end Lw
set_option linter.unusedVariables false
set_option linter.unusedSimpArgs false
namespace Go.Proofs.Ytfocpbknckmmaaa
open Go.RowKit
theorem infoPower : (Try.prog.info? 77).map (fun i => (i.zero, i.size, i.bytes)) = some (some (.agg #[.int .i64 0, .int .i64 0]), 2, 16) := by kernel_rfl
set_option maxHeartbeats 1000000 in
theorem ref_Factor (n : Int) (w : World) (h1 : 1 ≤ n) (h2 : n ≤ 1048576) :
    Calls Try.prog 35 #[.int .i64 n] w (Lw.OwnRes 77 2 (Lw.pairsV .i64 .i64 (Lw.facP n.toNat)) (Lw.fac n.toNat).length w) := by
  obtain ⟨m, rfl⟩ := Int.eq_ofNat_of_zero_le (by omega : 0 ≤ n)
  obtain ⟨i0, hi, hz0, hz1, hz2⟩ := info_parts infoPower
  go_enter Try.func35, Try.ntmps35
  go_wp2
  go_loopw [0, 3, 4] (fun n l p wr => ∃ (q k : Nat) (pre : List (Nat × Nat)), n = .int .i64 (q : Int) ∧ p = .int .i64 (k : Int) ∧ 1 ≤ q ∧ q ≤ m ∧ 2 ≤ k ∧ k ≤ m + 2 ∧ Hid (Lw.FacSt m q k pre) ∧ wr.ownsRow w.heap.size 77 2 l pre.length (Lw.pairsV .i64 .i64 (Lw.preP pre)) ∧ Below w.heap.size w wr)
    (fun n l p _ => (intOf n + 1 - intOf p).toNat)
  case atStart => exact ⟨m, 2, [], rfl, rfl, by omega, by omega, by omega, by omega, Lw.FacSt.start m, World.ownsRow_nil _ _ _ _, Below.refl _ _⟩
  case round =>
    obtain ⟨q, k, pre, rfl, rfl, q1, q2, k1, k2, H, own, hB⟩ := hrel
    have hlen := H.out.len
    have hsz := hB.size
    have OWN := Lib.hid own
    clear own
    by_cases hkq : k ≤ q
    · by_cases hd : q % k = 0
      · have hd1 : ((q : Int) % (k : Int) != 0) = false := by simp; omega
        have T := Lib.hid (H.out.take k1 q1 hd)
        have HD := Lib.hid hd
        clear hd
        go_wp2
        go_loop [0, 5] (fun n j => ∃ (r i : Nat), n = .int .i64 (r : Int) ∧ j = .int .i64 (i : Int) ∧ 1 ≤ r ∧ r ≤ q ∧ i + r ≤ q + 1 ∧ Hid (Lw.vp k q = i + Lw.vp k r ∧ Lw.strip k q = Lw.strip k r)) (fun n _ => (intOf n).toNat)
        case atStart => exact ⟨q, 0, rfl, rfl, q1, Nat.le_refl _, by omega, by simp, rfl⟩
        case round =>
          obtain ⟨r, i, rfl, rfl, r1, r2, r3, G⟩ := hrel
          by_cases he : r % k = 0
          · have he1 : ((r : Int) % (k : Int) == 0) = true := by simp; omega
            have hdiv : r / k < r := Nat.div_lt_self (by omega) (by omega)
            have hpos : 0 < r / k := Nat.div_pos (Nat.le_of_dvd (by omega) (Nat.dvd_of_mod_eq_zero he)) (by omega)
            have N : Hid (Lw.vp k q = i + 1 + Lw.vp k (r / k) ∧ Lw.strip k q = Lw.strip k (r / k)) := by
              obtain ⟨g1, g2⟩ := G.out
              exact ⟨by rw [g1, Lw.vp_yes (by omega) (by omega) he]; omega, by rw [g2, Lw.strip_yes (by omega) (by omega) he]⟩
            clear he G
            go_wp2
            go_round
            case rel => exact ⟨r / k, i + 1, by go_num, by go_num, hpos, by omega, by omega, N⟩
            case measure => simp [intOf]; omega
          · have he1 : ((r : Int) % (k : Int) == 0) = false := by simp; omega
            have E1 : i = Lw.vp k q ∧ r = Lw.strip k q := by
              obtain ⟨g1, g2⟩ := G.out
              rw [Lw.vp_no he] at g1; rw [Lw.strip_no he] at g2
              exact ⟨by omega, g2.symm⟩
            have hlt : r < q := by rw [E1.2]; exact Lw.strip_lt k1 q1 HD.out
            have T2 : Hid (Lw.FacSt m r (k + 1) (pre ++ [(k, i)])) := by
              have := T.out
              rw [← E1.1, ← E1.2] at this; exact this
            clear he G T E1
            go_wp2_with (at_builtin; refine wpList_append_own _ rfl _ _ 74 rfl w.heap.size 77 i0 _ 2 16 Try.underlying74 hi hz0 hz1 hz2 rfl (by decide) _ _ _ rfl (OWN.out.alloc _) ⟨wr.heap.size, 0, none⟩ 1 1 [.int .i64 (k : Int), .int .i64 (i : Int)] rfl rfl (Lw.cells_new _ _ _) (Lw.one2 _ _ _ _) (Lw.max_of (by omega)) (by omega) (Lw.grow_ok hB _) ?_; intro v' w1 hown' hgrow _)
            have B1 := Lw.grown_own (hB.alloc hB.size _) (OWN.out.alloc (.cells #[.int .i64 (k : Int), .int .i64 (i : Int)] 77)) (Nat.le_refl _) hgrow
            have O1 := Lib.hid hown'
            clear hown' hgrow
            go_wp2
            go_roundw
            case rel => exact ⟨r, k + 1, pre ++ [(k, i)], rfl, by go_num, r1, by omega, by omega, by omega, T2, by rw [Lw.preP_snoc, List.length_append]; exact O1.out, B1⟩
            case measure => simp [intOf]; omega
      · have hd1 : ((q : Int) % (k : Int) != 0) = true := by simp; omega
        have T := Lib.hid (H.out.skip hd)
        clear hd
        go_wp2
        go_roundw
        case rel => exact ⟨q, k + 1, pre, rfl, by go_num, q1, q2, by omega, by omega, T, OWN.out, hB⟩
        case measure => simp [intOf]; omega
    · have E := Lib.hid (H.out.done (by omega))
      go_wp2
      go_ret
      obtain ⟨A, c, rfl, _⟩ := Lw.ownsForm OWN.out
      have := OWN.out
      rw [E.out] at this ⊢
      simp only [Int.toNat_natCast]
      exact ⟨A, c, rfl, this, hB⟩
end Go.Proofs.Ytfocpbknckmmaaa
set_option linter.unusedVariables false
set_option linter.unusedSimpArgs false
namespace Go.Proofs.Ytfocpbknckmmaaa
open Go.RowKit
open Go.Maps Go.Sort Go.Shelf
theorem sorts_pm (m : Nat) : AnyZI.SortsIn Try.prog Try.sortedA_ren Fence.wide m :=
  ⟨fun blk off cap ss W hH hblk hsz => callsIn_wide.2 (AnyM.slices_Sort_int Try.sortL blk off cap ss W hH hblk hsz),
   fun p cap W => callsIn_wide.2 (AnyM.slices_Sort_int_none Try.sortL p cap W)⟩
theorem keys_pm (mb : Option Nat) (w : World) : Calls Try.prog 31 #[.map mb] w fun e w' => e = .returned (.func (.func 53) #[] #[.pointer (some ⟨w.heap.size, 0, none⟩)]) ∧ w' = w.alloc (.cells #[.map mb] 61) :=
  (callsIn_wide (n := 5)).1 (AnyZI.keys_in Try.keysA Fence.wide 5 trivial rfl mb w)
set_option maxHeartbeats 1000000 in
theorem sorted_pm {H : Type} (b nn : Nat) (D0 : DataW H) (R : Value → Option (DataW H × List MemPlace)) (w : World) (hown : w.ownsMap Try.prog 2 R b nn D0) (hmax : Maps.size D0 ≤ maxLen) (hbytes : Maps.size D0 * 8 ≤ 140737488355328) :
    Calls Try.prog 30 #[.func (.func 53) #[] #[.pointer (some ⟨w.heap.size, 0, none⟩)]] (w.alloc (.cells #[.map (some b)] 61)) fun e w' => ∃ (v : Value) (ss : List Int), e = .returned v ∧ ss.Perm (intKeys D0) ∧
      w'.ownsRow w.heap.size 2 1 v ss.length (Lw.intsV .i64 (ss.mergeSort (fun x y => decide (x ≤ y)))) ∧ Below w.heap.size w w' := by
  refine (callsIn_wide (n := 5)).1 ?_
  have hbl := hown.lt
  have hseq : SeqGives Fence.wide 2 Try.prog 53 #[.pointer (some ⟨w.heap.size, 0, none⟩)] encZ (fun ss => ss.Perm (intKeys D0)) (Maps.size D0) (w.alloc (.cells #[.map (some b)] 61)) :=
    AnyZI.keys_gives (ρ := Try.keysA_ren) { Try.keysA with } Fence.wide _ trivial rfl (by omega) w.heap.size b nn D0 _ (by simp) (by simp) (by
      obtain ⟨es, clock, hb, Ft, hs, hD⟩ := hown
      exact ⟨es, clock, (Below.heap_alloc _ _ b hbl).trans hb, Ft, hs, hD⟩)
  have cS := AnyZI.sorted_in Try.sortedA Fence.wide 5 trivial trivial trivial trivial rfl (by omega) (sorts_pm _) (enters_of Try.func52 (by kernel_rfl) rfl) 53 #[.pointer (some ⟨w.heap.size, 0, none⟩)] trivial (enters_of Try.func53 (by kernel_rfl) rfl) _ _ hmax hbytes _ hseq
  change CallsIn _ _ Try.prog 30 _ _ _ at cS
  refine cS.mono ?_
  rintro e w' ⟨v, ss, rfl, hS, hrow, hnil, hb⟩
  exact ⟨v, ss, rfl, hS, ownsRow_base_a hrow (by simp), ((Below.refl _ w).alloc (Nat.le_refl _) _).trans (hb.mono (by simp))⟩
theorem bs_pm (n c g : Nat) (zs : List Int) (x : Int) (w : World) (R : Lw.Rd w 1 (some ⟨g, 0, none⟩) n (Lw.intsV .i64 zs)) (h0 : 0 < n) (hn : n ≤ 1048577) (hs : zs.Pairwise (· ≤ ·)) (hx : x ∈ zs) :
    Calls Try.prog 32 #[.slice (some ⟨g, 0, none⟩) n c, .int .i64 x] w fun e w' => e = .returned (.tuple #[.int .i64 ((zs.countP (· < x) : Nat) : Int), .bool true]) ∧ Below w.heap.size w w' := by
  have hl : zs.length = n := by have := R.1; simpa [Lw.intsV] using this
  have ht : zs.take n = zs := List.take_of_length_le (by omega)
  refine (AnyG.slices_BinarySearch_int Try.bsL g 0 n c zs x w (by omega) (by omega) (fun j hj => ?_) (by rw [ht]; exact hs)).mono ?_
  · obtain ⟨ad, e, hb, hc⟩ := R.2 h0
    injection e with e
    subst e
    have h1 := hc j _ (Lw.intsV_get hj)
    have e2 : (⟨g, 0, none⟩ : Addr).add j = ⟨g, 0 + j, none⟩ := by unfold Addr.add; split <;> simp_all
    rw [e2] at h1
    rw [h1, List.getD_eq_getElem?_getD, List.getElem?_eq_getElem hj]; rfl
  · rintro e w' ⟨rfl, q, rfl⟩
    rw [ht]
    exact ⟨by rw [show zs.contains x = true from by simpa using hx], Lw.bdrewN (Below.refl _ _) _⟩
end Go.Proofs.Ytfocpbknckmmaaa
namespace Lw
open Go Go.RowKit
/-- what stood in w0 stands in w -/
def Sm (w0 w : World) : Prop := (∀ p : Addr, p.block < w0.heap.size → w.cell? p = w0.cell? p) ∧ (∀ p : Addr, p.block < w0.heap.size → w.frozen? p = w0.frozen? p) ∧ w0.heap.size ≤ w.heap.size ∧ Below w0.heap.size w0 w
theorem sm_of {w0 w : World} (h : Below w0.heap.size w0 w) : Sm w0 w := ⟨fun _ hp => h.cell hp, fun _ hp => h.frozen hp, h.size, h⟩
theorem sm_bel {w0 w : World} (h : Sm w0 w) : Below w0.heap.size w0 w := h.2.2.2
theorem sm_drew (w0 : World) : Sm w0 w0.drew := sm_of (Below.drew (Below.refl _ _))
theorem sm_drew' {w0 w : World} (h : Sm w0 w) : Sm w0 w.drew := sm_of (Below.drew h.2.2.2)
theorem own_drew {w : World} {base e size n : Nat} {v : Value} {xs : List Value} (h : w.ownsRow base e size v n xs) : w.drew.ownsRow base e size v n xs := h
theorem Rd.drew {w : World} {sz n : Nat} {A : Option Addr} {xs : List Value} (h : Rd w sz A n xs) : Rd w.drew sz A n xs := h
theorem blk_drew {W : World} {b : Nat} {o : Option Obj} (h : W.heap[b]? = o) : W.drew.heap[b]? = o := h
theorem sm_keep {w0 w w' : World} (h : Sm w0 w) (hb : Below w.heap.size w w') : Sm w0 w' := sm_of (bt h.2.2.2 hb)
end Lw
namespace Lw
open Go Go.RowKit
theorem own_keep' {w w' : World} {b1 b2 e1 e2 s1 s2 n m : Nat} {u v : Value} {xs ys : List Value} (h : w.ownsRow b1 e1 s1 u n xs) (hv : w.ownsRow b2 e2 s2 v m ys) (he : e1 ≠ e2) (hg : w.grownBy w' v.ownBlock) : w'.ownsRow b1 e1 s1 u n xs := by
  obtain ⟨hl, h2⟩ := h
  refine ⟨hl, ?_⟩
  rcases h2 with ⟨h0, h1⟩ | ⟨g, cap, cur, hu, hbg, hh, rest⟩
  · exact .inl ⟨h0, h1⟩
  · refine .inr ⟨g, cap, cur, hu, hbg, ?_, rest⟩
    refine (hg.block g (Array.getElem?_eq_some_iff.1 hh).1 (fun e => ?_)).trans hh
    rcases hv.2 with ⟨h0, _⟩ | ⟨g2, cap2, cur2, hu2, _, hh2, _⟩
    · subst h0; cases e
    · subst hu2
      have : g2 = g := by injection e.symm
      subst this
      rw [hh] at hh2
      injection hh2 with hh2
      injection hh2 with _ h3
      exact he h3
theorem own_other {base e s n : Nat} {w : World} {v : Value} {xs : List Value} (h : w.ownsRow base e s v n xs) {k : Nat} {cs : Array Value} {t : TypeId} {z : Nat × Nat} (hk : w.heap[k]? = some (.cells cs t z)) (ht : t ≠ e) : v.ownBlock ≠ some k := by
  intro ek
  rcases h.2 with ⟨h0, _⟩ | ⟨g, cap, cur, hu, hbg, hh, _⟩
  · subst h0; cases ek
  · subst hu
    have : g = k := by injection ek
    subst this
    rw [hk] at hh; injection hh with hh; injection hh with _ h3; exact ht h3
theorem own_setk {base e s n : Nat} {w : World} {v : Value} {xs : List Value} (h : w.ownsRow base e s v n xs) {k i : Nat} {u : Value} (hk : v.ownBlock ≠ some k) : (w.setCell ⟨k, i, none⟩ u).ownsRow base e s v n xs := by
  obtain ⟨hl, h2⟩ := h
  refine ⟨hl, ?_⟩
  rcases h2 with ⟨h0, h1⟩ | ⟨g, cap, cur, hv, hbg, hh, rest⟩
  · exact .inl ⟨h0, h1⟩
  · refine .inr ⟨g, cap, cur, hv, hbg, ?_, rest⟩
    rw [Below.heap_setCell w ⟨k, i, none⟩ u g (by subst hv; intro e; exact hk (by rw [show g = k from e]; rfl))]
    exact hh
end Lw
namespace Lw
open Go Go.RowKit
theorem cell_lt {w : World} {p : Addr} {v : Value} (h : w.cell? p = some v) : p.block < w.heap.size := by
  rcases Nat.lt_or_ge p.block w.heap.size with h1 | h1
  · exact h1
  · simp [World.cell?, Array.getElem?_eq_none h1] at h
theorem IsRow.rd {k : IntKind} {w : World} {a : Option Addr} {len cap : Nat} {zs : List Int} (h : IsRow k w a len cap zs) :
    Rd w 1 a len (intsV k (zs.take len)) ∧ len ≤ cap ∧ (zs.take len).length = len ∧ cap ≤ maxLen ∧ ∀ z ∈ zs.take len, (Lit.int k z).wf = true := by
  rcases h with ⟨rfl, rfl, rfl, rfl⟩ | ⟨x, rfl, h1, h2, h3, h4, h5⟩
  · exact ⟨Rd.nil _ _ _, Nat.le_refl _, rfl, by unfold maxLen; omega, by simp⟩
  · have hl : (zs.take len).length = len := by rw [List.length_take]; omega
    refine ⟨⟨by rw [intsV_length, hl]; omega, fun h0 => ⟨x, rfl, ?_, fun j u hu => ?_⟩⟩, h1, hl, h2, fun z hz => h5 z (List.mem_of_mem_take hz)⟩
    · have := cell_lt (h4 0 (by omega))
      rwa [add_block] at this
    · have hj : j < len := by
        have := (List.getElem?_eq_some_iff.1 hu).1
        rwa [intsV_length, hl] at this
      have hj2 : j < zs.length := by omega
      rw [intsV_get (by rw [hl]; exact hj)] at hu
      injection hu with hu
      subst hu
      rw [h4 j hj2]
      simp [List.getElem_take, List.getD_eq_getElem?_getD, hj2]
end Lw
namespace Lw
open Go Go.RowKit Go.ChangeShapes Go.WideShapes Go.Deep
/-- each cell meets its predicate -/
inductive All2 : List (Value → Prop) → List Value → Prop
  | nil : All2 [] []
  | cons {p : Value → Prop} {v : Value} {ps : List (Value → Prop)} {vs : List Value} : p v → All2 ps vs → All2 (p :: ps) (v :: vs)
theorem All2.length_eq {ps : List (Value → Prop)} {vs : List Value} (h : All2 ps vs) : ps.length = vs.length := by
  induction h with
  | nil => rfl
  | cons _ _ ih => simp [ih]
/-- a number of a kind; a truth -/
def IsI (k : IntKind) (v : Value) : Prop := ∃ n, v = .int k n ∧ (Lit.int k n).wf = true
def IsB (v : Value) : Prop := ∃ b, v = .bool b
/-- a slice whose elements are cells that meet ps, one by one -/
def IsSl (w : World) (ps : List (Value → Prop)) (A : Option Addr) (len cap : Nat) : Prop :=
  len ≤ cap ∧ cap ≤ maxLen ∧ ((A = none ∧ len = 0) ∨ ∃ x, A = some x ∧ ∀ i, i < len → ∃ vs : List Value, All2 ps vs ∧ ∀ j u, vs[j]? = some u → w.cell? (x.add (i * ps.length + j)) = some u)
/-- a value that is such a slice -/
def IsS (w : World) (ps : List (Value → Prop)) (v : Value) : Prop := ∃ A len cap, v = .slice A len cap ∧ IsSl w ps A len cap
section
variable {H : Type} {enc : TypeId × Value → H} {P : Program} {w : World} {base : Nat} {spare : Nat → Bool} {held : Bool}
/-- whatever reads at type t meets p -/
def Meets (enc : TypeId × Value → H) (P : Program) (w : World) (base : Nat) (spare : Nat → Bool) (held : Bool) (t : TypeId) (p : Value → Prop) : Prop := ∀ n v y, DataW.trod enc P w base spare held n t [v] = some y → p v
theorem meets_int {t : TypeId} {k : IntKind} (h : P.underlying t = some (.int k)) : Meets enc P w base spare held t (IsI k) := by
  intro n v y hv
  obtain ⟨m, e, _, wf⟩ := DataW.trod_int h hv
  simp at e
  exact ⟨m, e, wf⟩
theorem meets_bool {t : TypeId} (h : P.underlying t = some .bool) : Meets enc P w base spare held t IsB := by
  intro n v y hv
  obtain ⟨m, e, _⟩ := DataW.trod_bool h hv
  simp at e
  exact ⟨m, e⟩
def FOk (enc : TypeId × Value → H) (P : Program) (w : World) (base : Nat) (spare : Nat → Bool) (held : Bool) : List Field → List (Value → Prop) → Prop
  | [], [] => True
  | f :: fs, p :: ps => Meets enc P w base spare held f.type p ∧ FOk enc P w base spare held fs ps
  | _, _ => False
theorem fok_nil : FOk enc P w base spare held [] [] := trivial
theorem fok_cons {f : Field} {fs : List Field} {p : Value → Prop} {ps : List (Value → Prop)} (h : Meets enc P w base spare held f.type p) (h2 : FOk enc P w base spare held fs ps) : FOk enc P w base spare held (f :: fs) (p :: ps) := ⟨h, h2⟩
theorem fok_len {fs : List Field} {ps : List (Value → Prop)} : FOk enc P w base spare held fs ps → fs.length = ps.length := by
  induction fs generalizing ps with
  | nil => intro h; cases ps with
    | nil => rfl
    | cons p ps => cases h
  | cons f fs ih => intro h; cases ps with
    | nil => cases h
    | cons p ps => simp [ih h.2]
theorem fok_all {fs : List Field} {ps : List (Value → Prop)} (hf : FOk enc P w base spare held fs ps) {vs : List Value} (hl : vs.length = fs.length)
    (h : ∀ (j : Nat) (f : Field), fs[j]? = some f → ∃ (n : Nat) (y : DataW H × List MemPlace) (v : Value), vs[j]? = some v ∧ DataW.trod enc P w base spare held n f.type [v] = some y) : All2 ps vs := by
  induction fs generalizing ps vs with
  | nil => cases ps with
    | nil => cases vs with
      | nil => exact .nil
      | cons v vs => simp at hl
    | cons p ps => cases hf
  | cons f fs ih => cases ps with
    | nil => cases hf
    | cons p ps => cases vs with
      | nil => simp at hl
      | cons v vs =>
        obtain ⟨n, y, v', hv, ht⟩ := h 0 f rfl
        simp at hv; subst hv
        refine .cons (hf.1 n _ y ht) (ih hf.2 (by simpa using hl) fun j f' hj => ?_)
        exact h (j + 1) f' (by simpa using hj)
theorem sl_fields {t e : TypeId} {fs : Array Field} {ps : List (Value → Prop)} (ht : P.underlying t = some (.slice e)) (he : P.underlying e = some (.struct fs)) (hone : oneCellFields P fs = true) (hC : P.cellsOf e = fs.size)
    (hf : FOk enc P w base spare held fs.toList ps) {A : Option Addr} {len cap n : Nat} {y : DataW H × List MemPlace} (h : DataW.trod enc P w base spare held n t [.slice A len cap] = some y) : IsSl w ps A len cap := by
  have hpl : ps.length = fs.size := by rw [← fok_len hf]; simp
  rcases open_slice ht h with ⟨h0, _⟩ | ⟨a, l, c, m, n', D, Pl, hcs, hb, hl, hm, hmm, hx, hi⟩
  · simp at h0; obtain ⟨rfl, rfl, rfl⟩ := h0
    exact ⟨Nat.le_refl _, by unfold maxLen; omega, .inl ⟨rfl, rfl⟩⟩
  · simp at hcs; obtain ⟨rfl, rfl, rfl⟩ := hcs
    refine ⟨hl, hm, .inr ⟨a, rfl, fun i hil => ?_⟩⟩
    have him : i < m := by rw [hmm]; split <;> omega
    obtain ⟨cs', hc, ht'⟩ := hi i him
    rw [hC] at hc
    obtain ⟨ys, n'', hn', hy, hlen, hyl, hfd⟩ := DataW.trod_struct he ht'
    obtain ⟨_, hcl, hat⟩ := World.cells?_some hc
    refine ⟨cs', fok_all hf (by simpa using hcl) fun j f hj => ?_, fun j u hu => ?_⟩
    · have hj' : fs[j]? = some f := by simpa using hj
      obtain ⟨ho, hk⟩ := hone_of hone j f hj'
      have hjl : j < fs.size := (Array.getElem?_eq_some_iff.1 hj').1
      have h1 := hfd j f hj'
      rw [ho, hk, take1_drop cs' j undef (by omega)] at h1
      have hys : ys[j]? = some (ys[j]'(by omega)) := List.getElem?_eq_getElem (by omega)
      have e : cs'.getD j undef = cs'[j]'(by omega) := by rw [List.getD_eq_getElem?_getD, List.getElem?_eq_getElem (by omega)]; rfl
      rw [e] at h1
      exact ⟨n'', ys[j]'(by omega), cs'[j]'(by omega), List.getElem?_eq_getElem (by omega), h1.trans hys⟩
    · have hjl : j < fs.size := by have := (List.getElem?_eq_some_iff.1 hu).1; omega
      rw [hpl, ← Go.Deep.add_add, hat j hjl]
      exact hu
theorem sl_one {t e : TypeId} {p : Value → Prop} (ht : P.underlying t = some (.slice e)) (hC : P.cellsOf e = 1) (hf : Meets enc P w base spare held e p) {A : Option Addr} {len cap n : Nat} {y : DataW H × List MemPlace}
    (h : DataW.trod enc P w base spare held n t [.slice A len cap] = some y) : IsSl w [p] A len cap := by
  rcases open_slice1 ht hC h with ⟨h0, _⟩ | ⟨a, l, c, m, n', V, D, Pl, hcs, hb, hl, hm, hmm, hx, hi⟩
  · simp at h0; obtain ⟨rfl, rfl, rfl⟩ := h0
    exact ⟨Nat.le_refl _, by unfold maxLen; omega, .inl ⟨rfl, rfl⟩⟩
  · simp at hcs; obtain ⟨rfl, rfl, rfl⟩ := hcs
    refine ⟨hl, hm, .inr ⟨a, rfl, fun i hil => ?_⟩⟩
    have him : i < m := by rw [hmm]; split <;> omega
    obtain ⟨hc, ht'⟩ := hi i him
    refine ⟨[V i], .cons (hf _ _ _ ht') .nil, fun j u hu => ?_⟩
    match j, hu with
    | 0, hu => simp at hu; subst hu; simpa using hc
theorem meets_slice {t e : TypeId} {ps : List (Value → Prop)} (ht : P.underlying t = some (.slice e)) (hf : ∀ (A : Option Addr) (len cap n : Nat) (y : DataW H × List MemPlace), DataW.trod enc P w base spare held n t [.slice A len cap] = some y → IsSl w ps A len cap) : Meets enc P w base spare held t (IsS w ps) := by
  intro n v y hv
  rcases open_slice ht hv with ⟨h0, _⟩ | ⟨a, l, c, m, n', D, Pl, hcs, _⟩
  · simp at h0; subst h0; exact ⟨_, _, _, rfl, hf _ _ _ _ _ hv⟩
  · simp at hcs; subst hcs; exact ⟨_, _, _, rfl, hf _ _ _ _ _ hv⟩
end
/-- the elements, as a list of rows of cells -/
theorem IsSl.list {w : World} {ps : List (Value → Prop)} {A : Option Addr} {len cap : Nat} (h : IsSl w ps A len cap) (h0 : 0 < ps.length) :
    ∃ L : List (List Value), L.length = len ∧ (∀ vs ∈ L, All2 ps vs) ∧ Rd w ps.length A len L.flatten := by
  obtain ⟨hl, hm, h⟩ := h
  rcases h with ⟨rfl, rfl⟩ | ⟨x, rfl, hi⟩
  · exact ⟨[], rfl, by simp, Rd.nil _ _ _⟩
  · have key : ∀ n, n ≤ len → ∃ L : List (List Value), L.length = n ∧ (∀ vs ∈ L, All2 ps vs) ∧ L.flatten.length = n * ps.length ∧ ∀ j u, L.flatten[j]? = some u → w.cell? (x.add j) = some u := by
      intro n
      induction n with
      | zero => intro _; exact ⟨[], rfl, by simp, by simp, by simp⟩
      | succ n ih =>
        intro hn
        obtain ⟨L, h1, h2, h3, h4⟩ := ih (by omega)
        obtain ⟨vs, hv, hc⟩ := hi n (by omega)
        have hvl : ps.length = vs.length := hv.length_eq
        refine ⟨L ++ [vs], by simp [h1], fun z hz => ?_, ?_, fun j u hu => ?_⟩
        · rcases List.mem_append.1 hz with hz | hz
          · exact h2 z hz
          · simp at hz; subst hz; exact hv
        · simp only [List.flatten_append, List.length_append, h3, List.flatten_cons, List.flatten_nil, List.append_nil, ← hvl, Nat.succ_mul]
        · simp only [List.flatten_append, List.flatten_cons, List.flatten_nil, List.append_nil] at hu
          by_cases hj : j < n * ps.length
          · rw [List.getElem?_append_left (by omega)] at hu; exact h4 j u hu
          · rw [List.getElem?_append_right (by omega), h3] at hu
            have := hc _ u hu
            rwa [show n * ps.length + (j - n * ps.length) = j by omega] at this
    obtain ⟨L, h1, h2, h3, h4⟩ := key len (Nat.le_refl _)
    refine ⟨L, h1, h2, h3, fun hp => ⟨x, rfl, ?_, h4⟩⟩
    have : 0 < L.flatten.length := by rw [h3]; exact Nat.mul_pos hp h0
    have := cell_lt (h4 0 _ (List.getElem?_eq_getElem this))
    rwa [add_block] at this
/-- rows of three numbers -/
theorem list3 {k0 k1 k2 : IntKind} : ∀ {L : List (List Value)}, (∀ vs ∈ L, All2 [IsI k0, IsI k1, IsI k2] vs) → ∃ T : List (Int × Int × Int), L = T.map (fun t => [.int k0 t.1, .int k1 t.2.1, .int k2 t.2.2]) ∧ ∀ t ∈ T, (Lit.int k0 t.1).wf = true ∧ (Lit.int k1 t.2.1).wf = true ∧ (Lit.int k2 t.2.2).wf = true
  | [], _ => ⟨[], rfl, by simp⟩
  | vs :: L, h => by
    obtain ⟨T, hT, hw⟩ := list3 (L := L) fun z hz => h z (by simp [hz])
    have h0 := h vs (by simp)
    cases h0 with | cons a h1 => cases h1 with | cons b h2 => cases h2 with | cons c h3 => cases h3 with | nil =>
      obtain ⟨n0, rfl, w0⟩ := a
      obtain ⟨n1, rfl, w1⟩ := b
      obtain ⟨n2, rfl, w2⟩ := c
      exact ⟨(n0, n1, n2) :: T, by simp [hT], by intro t ht; simp at ht; rcases ht with rfl | ht; exact ⟨w0, w1, w2⟩; exact hw t ht⟩
/-- rows of two numbers -/
theorem list2 {k0 k1 : IntKind} : ∀ {L : List (List Value)}, (∀ vs ∈ L, All2 [IsI k0, IsI k1] vs) → ∃ T : List (Int × Int), L = T.map (fun t => [.int k0 t.1, .int k1 t.2]) ∧ ∀ t ∈ T, (Lit.int k0 t.1).wf = true ∧ (Lit.int k1 t.2).wf = true
  | [], _ => ⟨[], rfl, by simp⟩
  | vs :: L, h => by
    obtain ⟨T, hT, hw⟩ := list2 (L := L) fun z hz => h z (by simp [hz])
    have h0 := h vs (by simp)
    cases h0 with | cons a h1 => cases h1 with | cons b h2 => cases h2 with | nil =>
      obtain ⟨n0, rfl, w0⟩ := a
      obtain ⟨n1, rfl, w1⟩ := b
      exact ⟨(n0, n1) :: T, by simp [hT], by intro t ht; simp at ht; rcases ht with rfl | ht; exact ⟨w0, w1⟩; exact hw t ht⟩
end Lw
namespace Lw
open Go Go.RowKit Go.ChangeShapes Go.WideShapes Go.Deep
/-- a row of eight-byte numbers, and how long it may be -/
def IsSb (w : World) (ps : List (Value → Prop)) (v : Value) : Prop := ∃ A len cap, v = .slice A len cap ∧ IsSl w ps A len cap ∧ len ≤ 17592186043904
section
variable {H : Type} {enc : TypeId × Value → H} {P : Program} {w : World} {base : Nat} {spare : Nat → Bool} {held : Bool}
def MeetsW (enc : TypeId × Value → H) (P : Program) (w : World) (base : Nat) (spare : Nat → Bool) (held : Bool) (t : TypeId) (p : Value → Prop) : Prop := ∀ n v y, DataW.trod enc P w base spare held n t [v] = some y → (∀ m ∈ y.1.weights P t, m ≤ reachBytes) → p v
theorem meetsW_of {t : TypeId} {p : Value → Prop} (h : Meets enc P w base spare held t p) : MeetsW enc P w base spare held t p := fun n v y hv _ => h n v y hv
theorem meetsW_row {t e : TypeId} {p : Value → Prop} (ht : P.underlying t = some (.slice e)) (hC : P.cellsOf e = 1) (hb : P.bytesOf e = 8) (hf : Meets enc P w base spare held e p) : MeetsW enc P w base spare held t (IsSb w [p]) := by
  intro n v y hv hw
  rcases open_slice ht hv with ⟨h0, _⟩ | ⟨a, l, c, m, n', D, Pl, hcs, _, hl, _, _, hx, _⟩
  · simp at h0; subst h0; exact ⟨_, _, _, rfl, sl_one ht hC hf hv, by omega⟩
  · simp at hcs; subst hcs
    refine ⟨_, _, _, rfl, sl_one ht hC hf hv, ?_⟩
    subst hx
    have := hw _ (by simp only [DataW.weights, ht]; exact List.mem_cons_self)
    rw [hb, List.length_map, List.length_map, List.length_range] at this
    unfold reachBytes at this
    omega
def FOkW (enc : TypeId × Value → H) (P : Program) (w : World) (base : Nat) (spare : Nat → Bool) (held : Bool) : List Field → List (Value → Prop) → Prop
  | [], [] => True
  | f :: fs, p :: ps => MeetsW enc P w base spare held f.type p ∧ FOkW enc P w base spare held fs ps
  | _, _ => False
theorem fokW_nil : FOkW enc P w base spare held [] [] := trivial
theorem fokW_cons {f : Field} {fs : List Field} {p : Value → Prop} {ps : List (Value → Prop)} (h : MeetsW enc P w base spare held f.type p) (h2 : FOkW enc P w base spare held fs ps) : FOkW enc P w base spare held (f :: fs) (p :: ps) := ⟨h, h2⟩
theorem fokW_len {fs : List Field} {ps : List (Value → Prop)} : FOkW enc P w base spare held fs ps → fs.length = ps.length := by
  induction fs generalizing ps with
  | nil => intro h; cases ps with
    | nil => rfl
    | cons p ps => cases h
  | cons f fs ih => intro h; cases ps with
    | nil => cases h
    | cons p ps => simp [ih h.2]
theorem fokW_all {fs : List Field} {ps : List (Value → Prop)} (hf : FOkW enc P w base spare held fs ps) {vs : List Value} (hl : vs.length = fs.length)
    (h : ∀ (j : Nat) (f : Field), fs[j]? = some f → ∃ (n : Nat) (y : DataW H × List MemPlace) (v : Value), vs[j]? = some v ∧ DataW.trod enc P w base spare held n f.type [v] = some y ∧ ∀ m ∈ y.1.weights P f.type, m ≤ reachBytes) : All2 ps vs := by
  induction fs generalizing ps vs with
  | nil => cases ps with
    | nil => cases vs with
      | nil => exact .nil
      | cons v vs => simp at hl
    | cons p ps => cases hf
  | cons f fs ih => cases ps with
    | nil => cases hf
    | cons p ps => cases vs with
      | nil => simp at hl
      | cons v vs =>
        obtain ⟨n, y, v', hv, ht, hw⟩ := h 0 f rfl
        simp at hv; subst hv
        refine .cons (hf.1 n _ y ht hw) (ih hf.2 (by simpa using hl) fun j f' hj => ?_)
        exact h (j + 1) f' (by simpa using hj)
theorem weightsAll_mem {e : TypeId} {d : DataW H} {m : Nat} (hm : m ∈ d.weights P e) : ∀ {L : List (DataW H)}, d ∈ L → m ∈ DataW.weightsAll P e L
  | x :: L, h => by
    simp only [DataW.weightsAll, List.mem_append]
    rcases List.mem_cons.1 h with rfl | h
    · exact .inl hm
    · exact .inr (weightsAll_mem hm h)
theorem slw_fields {t e : TypeId} {fs : Array Field} {ps : List (Value → Prop)} (ht : P.underlying t = some (.slice e)) (he : P.underlying e = some (.struct fs)) (hone : oneCellFields P fs = true) (hC : P.cellsOf e = fs.size)
    (hf : FOkW enc P w base spare held fs.toList ps) {A : Option Addr} {len cap n : Nat} {y : DataW H × List MemPlace} (h : DataW.trod enc P w base spare held n t [.slice A len cap] = some y) (hw : ∀ m ∈ y.1.weights P t, m ≤ reachBytes) : IsSl w ps A len cap := by
  have hpl : ps.length = fs.size := by rw [← fokW_len hf]; simp
  rcases open_slice ht h with ⟨h0, _⟩ | ⟨a, l, c, m, n', D, Pl, hcs, hb, hl, hm, hmm, hx, hi⟩
  · simp at h0; obtain ⟨rfl, rfl, rfl⟩ := h0
    exact ⟨Nat.le_refl _, by unfold maxLen; omega, .inl ⟨rfl, rfl⟩⟩
  · simp at hcs; obtain ⟨rfl, rfl, rfl⟩ := hcs
    refine ⟨hl, hm, .inr ⟨a, rfl, fun i hil => ?_⟩⟩
    have him : i < m := by rw [hmm]; split <;> omega
    obtain ⟨cs', hc, ht'⟩ := hi i him
    rw [hC] at hc
    have hwD : ∀ m ∈ (D i).weights P e, m ≤ reachBytes := fun m hm => hw m (by
      rw [hx]
      simp only [DataW.weights, ht]
      refine List.mem_cons_of_mem _ (List.mem_append_left _ (weightsAll_mem hm ?_))
      exact List.mem_map.2 ⟨i, List.mem_range.2 hil, rfl⟩)
    obtain ⟨ys, n'', hn', hy, hlen, hyl, hfd⟩ := DataW.trod_struct he ht'
    obtain ⟨_, hcl, hat⟩ := World.cells?_some hc
    have hD : D i = .agg (ys.map (·.1)) := congrArg Prod.fst hy
    refine ⟨cs', fokW_all hf (by simpa using hcl) fun j f hj => ?_, fun j u hu => ?_⟩
    · have hj' : fs[j]? = some f := by simpa using hj
      obtain ⟨ho, hk⟩ := hone_of hone j f hj'
      have hjl : j < fs.size := (Array.getElem?_eq_some_iff.1 hj').1
      have h1 := hfd j f hj'
      rw [ho, hk, take1_drop cs' j undef (by omega)] at h1
      have hys : ys[j]? = some (ys[j]'(by omega)) := List.getElem?_eq_getElem (by omega)
      have e : cs'.getD j undef = cs'[j]'(by omega) := by rw [List.getD_eq_getElem?_getD, List.getElem?_eq_getElem (by omega)]; rfl
      rw [e] at h1
      refine ⟨n'', ys[j]'(by omega), cs'[j]'(by omega), List.getElem?_eq_getElem (by omega), h1.trans hys, fun m hm => hwD m ?_⟩
      rw [hD]
      simp only [DataW.weights, he]
      exact DataW.weights_mem_each (j := j) (t := f.type) (d := (ys[j]'(by omega)).1) (by rw [List.getElem?_map, hj]; rfl) (by rw [List.getElem?_map, hys]; rfl) m hm
    · have hjl : j < fs.size := by have := (List.getElem?_eq_some_iff.1 hu).1; omega
      rw [hpl, ← Go.Deep.add_add, hat j hjl]
      exact hu
end
end Lw
namespace Lw
open Go Go.RowKit
/-- a row: where it lies, how long, its numbers -/
structure TRow where
  A : Option Addr
  n : Nat
  c : Nat
  zs : List Int
def TRow.v (r : TRow) : Value := .slice r.A r.n r.c
def RowOk (k : IntKind) (w : World) (r : TRow) : Prop := Rd w 1 r.A r.n (intsV k r.zs) ∧ r.n ≤ maxLen ∧ ∀ z ∈ r.zs, (Lit.int k z).wf = true
def Tab (k : IntKind) (w : World) (A : Option Addr) (n : Nat) (T : List TRow) : Prop := Rd w 1 A n (T.map TRow.v) ∧ ∀ r ∈ T, RowOk k w r
theorem RowOk.len {k : IntKind} {w : World} {r : TRow} (h : RowOk k w r) : r.zs.length = r.n := by have := h.1.1; simpa [intsV] using this
theorem RowOk.below {k : IntKind} {w w' : World} {r : TRow} (h : RowOk k w r) {B : Nat} (hB : w.heap.size ≤ B) (hb : Below B w w') : RowOk k w' r := ⟨h.1.below hB hb, h.2⟩
theorem Tab.len {k : IntKind} {w : World} {A : Option Addr} {n : Nat} {T : List TRow} (h : Tab k w A n T) : T.length = n := by have := h.1.1; simpa using this
theorem Tab.below {k : IntKind} {w w' : World} {A : Option Addr} {n : Nat} {T : List TRow} (h : Tab k w A n T) {B : Nat} (hB : w.heap.size ≤ B) (hb : Below B w w') : Tab k w' A n T :=
  ⟨h.1.below hB hb, fun r hr => (h.2 r hr).below hB hb⟩
/-- its k-th row, in the walk's words -/
theorem Tab.at_ {kk : IntKind} {w : World} {A : Option Addr} {n k : Nat} {T : List TRow} (h : Tab kk w A n T) (hk : k < n) :
    ∃ (hl : k < T.length) (ad : Addr), A = some ad ∧ ad.block < w.heap.size ∧ w.cell? (ad.add k) = some (.slice T[k].A T[k].n T[k].c) ∧ RowOk kk w T[k] := by
  have hl : k < T.length := by rw [h.len]; exact hk
  obtain ⟨ad, e, hb, hc⟩ := h.1.at1 (x := T[k].v) hk (by simp [hl])
  exact ⟨hl, ad, e, hb, hc, h.2 _ (List.getElem_mem hl)⟩
theorem list1 {k : IntKind} : ∀ {L : List (List Value)}, (∀ vs ∈ L, All2 [IsI k] vs) → ∃ T : List Int, L.flatten = intsV k T ∧ ∀ t ∈ T, (Lit.int k t).wf = true
  | [], _ => ⟨[], rfl, by simp⟩
  | vs :: L, h => by
    obtain ⟨T, hT, hw⟩ := list1 (L := L) fun z hz => h z (by simp [hz])
    have h0 := h vs (by simp)
    cases h0 with | cons a h1 => cases h1 with | nil =>
      obtain ⟨n0, rfl, w0⟩ := a
      exact ⟨n0 :: T, by simp [hT, intsV], by intro t ht; simp at ht; rcases ht with rfl | ht; exact w0; exact hw t ht⟩
theorem row_of {k : IntKind} {w : World} {A : Option Addr} {len cap : Nat} (h : IsSl w [IsI k] A len cap) : ∃ zs, RowOk k w ⟨A, len, cap, zs⟩ := by
  obtain ⟨L, h1, h2, h3⟩ := h.list (by simp)
  obtain ⟨T, hT, hw⟩ := list1 h2
  rw [hT] at h3
  exact ⟨T, h3, by have := h.1; have := h.2.1; show len ≤ maxLen; omega, hw⟩
theorem list_rows {k : IntKind} {w : World} : ∀ {L : List (List Value)}, (∀ vs ∈ L, All2 [IsS w [IsI k]] vs) → ∃ T : List TRow, L.flatten = T.map TRow.v ∧ ∀ t ∈ T, RowOk k w t
  | [], _ => ⟨[], rfl, by simp⟩
  | vs :: L, h => by
    obtain ⟨T, hT, hw⟩ := list_rows (L := L) fun z hz => h z (by simp [hz])
    have h0 := h vs (by simp)
    cases h0 with | cons a h1 => cases h1 with | nil =>
      obtain ⟨A, l, c, rfl, hs⟩ := a
      obtain ⟨zs, hz⟩ := row_of hs
      exact ⟨⟨A, l, c, zs⟩ :: T, by simp [hT, TRow.v], by intro t ht; simp at ht; rcases ht with rfl | ht; exact hz; exact hw t ht⟩
theorem tab_of {k : IntKind} {w : World} {A : Option Addr} {len cap : Nat} (h : IsSl w [IsS w [IsI k]] A len cap) : ∃ T, Tab k w A len T := by
  obtain ⟨L, h1, h2, h3⟩ := h.list (by simp)
  obtain ⟨T, hT, hw⟩ := list_rows h2
  rw [hT] at h3
  exact ⟨T, h3, hw⟩
theorem any_take {α : Type} {p : α → Bool} {T : List α} {k : Nat} (h : k < T.length) (h1 : (T.take k).any p = false) (h2 : p T[k] = false) : (T.take (k + 1)).any p = false := by
  rw [List.take_succ_eq_append_getElem h, List.any_append, h1]; simp [h2]
theorem any_at {α : Type} {p : α → Bool} {T : List α} {k : Nat} (h : k < T.length) (h2 : p T[k] = true) : T.any p = true := List.any_eq_true.2 ⟨_, List.getElem_mem h, h2⟩
end Lw
