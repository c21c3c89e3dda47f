/- walsh.fly: sums and differences, or others, of all pairs that differ by one bit; plain: what they come to. -/
import Derived.Test.YteeicpfjmahmeaaDoorRegS
import Derived.Test.YteeicpfjmahmeaaDoorApp
namespace Lw
open Go Go.RowKit
def flyP (pr : Int → Int → Int × Int) (k : Nat) (g : Nat → Int) (i : Nat) : Int := if i / 2 ^ k % 2 = 1 then (pr (g (i - 2 ^ k)) (g i)).2 else (pr (g i) (g (i + 2 ^ k))).1
/-- in the midst of a round -/
def flyM (pr : Int → Int → Int × Int) (k x : Nat) (g : Nat → Int) (i : Nat) : Int := if (if i / 2 ^ k % 2 = 1 then i - 2 ^ k else i) < x then flyP pr k g i else g i
def itr (pr : Int → Int → Int × Int) (g : Nat → Int) : Nat → Nat → Int
  | 0 => g
  | k + 1 => flyP pr k (itr pr g k)
def rowF (N : Nat) (g : Nat → Int) : List Int := (List.range N).map g
theorem rowF_length {N : Nat} {g : Nat → Int} : (rowF N g).length = N := by simp [rowF]
theorem rowF_get {N i : Nat} {g : Nat → Int} (h : i < N) : (rowF N g)[i]? = some (g i) := by simp [rowF, h]
theorem rowF_set {N x : Nat} {g : Nat → Int} {v : Int} : (rowF N g).set x v = rowF N fun i => if i = x then v else g i := by
  apply List.ext_getElem
  · simp [rowF]
  · intro i h1 h2
    simp only [rowF, List.getElem_set, List.getElem_map, List.getElem_range]
    by_cases h : x = i
    · subst h; simp
    · rw [if_neg h, if_neg (fun e => h e.symm)]
theorem rowF_congr {N : Nat} {g h : Nat → Int} (e : ∀ i, i < N → g i = h i) : rowF N g = rowF N h := by
  apply List.map_congr_left
  intro i hi
  exact e i (List.mem_range.1 hi)
theorem bit_set : ∀ k, k < 5 → ∀ i, i < 32 → i / 2 ^ k % 2 = 1 → (i - 2 ^ k) / 2 ^ k % 2 = 0 ∧ 2 ^ k ≤ i := by decide
theorem bit_clr : ∀ k, k < 5 → ∀ i, i < 32 → i / 2 ^ k % 2 = 0 → (i + 2 ^ k) / 2 ^ k % 2 = 1 ∧ i + 2 ^ k < 32 := by decide
theorem bit_or : ∀ k, k < 5 → ∀ i, i < 32 → i ||| 2 ^ k = if i / 2 ^ k % 2 = 1 then i else i + 2 ^ k := by decide
theorem bit_in : ∀ n, n < 6 → ∀ k, k < n → ∀ i, i < 2 ^ n → i / 2 ^ k % 2 = 0 → i + 2 ^ k < 2 ^ n := by decide
theorem pow_32 : ∀ n, n < 6 → 2 ^ n ≤ 32 ∧ 0 < 2 ^ n := by decide
theorem or_bits : ∀ j, j < 5 → ∀ i, i < 32 → bits BinOp.or IntKind.i64 ((i : Nat) : Int) (IntKind.i64.wrap (2 ^ j)) = ((if i / 2 ^ j % 2 = 1 then i else i + 2 ^ j : Nat) : Int) := by decide
theorem flyM_zero {pr : Int → Int → Int × Int} {k : Nat} {g : Nat → Int} : flyM pr k 0 g = g := by
  funext i; unfold flyM; rw [if_neg (by omega)]
theorem flyM_end {pr : Int → Int → Int × Int} {k N : Nat} {g : Nat → Int} : rowF N (flyM pr k N g) = rowF N (flyP pr k g) :=
  rowF_congr fun i hi => by
    have := Nat.sub_le i (2 ^ k)
    unfold flyM; rw [if_pos (by split <;> omega)]
theorem flyM_skip {pr : Int → Int → Int × Int} {k x N : Nat} {g : Nat → Int} (hk : k < 5) (hN : N ≤ 32) (hx : x / 2 ^ k % 2 = 1) : rowF N (flyM pr k (x + 1) g) = rowF N (flyM pr k x g) :=
  rowF_congr fun i hi => by
    have h1 := bit_set k hk i (by omega)
    unfold flyM
    have : ((if i / 2 ^ k % 2 = 1 then i - 2 ^ k else i) < x + 1) ↔ ((if i / 2 ^ k % 2 = 1 then i - 2 ^ k else i) < x) := by
      split
      · rename_i h
        have h2 := (h1 h).1
        constructor
        · intro h3
          rcases Nat.lt_or_ge (i - 2 ^ k) x with h4 | h4
          · exact h4
          · have : i - 2 ^ k = x := by omega
            rw [this] at h2; omega
        · omega
      · rename_i h
        constructor
        · intro h3
          rcases Nat.lt_or_ge i x with h4 | h4
          · exact h4
          · have : i = x := by omega
            rw [this] at h; omega
        · omega
    simp only [this]
theorem flyM_at {pr : Int → Int → Int × Int} {k x : Nat} {g : Nat → Int} (hk : k < 5) (hx : x < 32) (hb : x / 2 ^ k % 2 = 0) : flyM pr k x g x = g x ∧ flyM pr k x g (x + 2 ^ k) = g (x + 2 ^ k) := by
  have h1 := bit_clr k hk x hx hb
  unfold flyM
  constructor
  · rw [if_neg (by rw [if_neg (by omega)]; omega)]
  · rw [if_neg (by rw [if_pos h1.1]; omega)]
theorem flyM_step {pr : Int → Int → Int × Int} {k x N : Nat} {g : Nat → Int} (hk : k < 5) (hN : N ≤ 32) (hx : x < 32) (hb : x / 2 ^ k % 2 = 0) :
    ((rowF N (flyM pr k x g)).set x (pr (g x) (g (x + 2 ^ k))).1).set (x + 2 ^ k) (pr (g x) (g (x + 2 ^ k))).2 = rowF N (flyM pr k (x + 1) g) := by
  rw [rowF_set, rowF_set]
  refine rowF_congr fun i hi => ?_
  have h1 := bit_clr k hk x hx hb
  have h2 := bit_set k hk i (by omega)
  have hp : 0 < 2 ^ k := Nat.two_pow_pos k
  by_cases c1 : i = x + 2 ^ k
  · rw [if_pos c1]
    subst c1
    unfold flyM
    rw [if_pos (by rw [if_pos h1.1]; omega)]
    unfold flyP
    rw [if_pos h1.1, Nat.add_sub_cancel]
  · rw [if_neg c1]
    by_cases c2 : i = x
    · rw [if_pos c2]
      subst c2
      unfold flyM
      rw [if_pos (by rw [if_neg (by omega)]; omega)]
      unfold flyP
      rw [if_neg (by omega)]
    · rw [if_neg c2]
      unfold flyM
      have : ((if i / 2 ^ k % 2 = 1 then i - 2 ^ k else i) < x + 1) ↔ ((if i / 2 ^ k % 2 = 1 then i - 2 ^ k else i) < x) := by
        split
        · rename_i h
          have := h2 h
          omega
        · omega
      simp only [this]
end Lw
set_option linter.unusedVariables false
set_option linter.unusedSimpArgs false
namespace Go.Proofs.YteeicpfjmahmeaaDoor
open Go.RowKit
theorem elInts : Lw.El Tryd.prog 35 3 (.int .i64 0) 1 8 := Lw.El.mk' Tryd.underlying35 (by kernel_rfl) rfl (by decide) (by decide)
end Go.Proofs.YteeicpfjmahmeaaDoor
