/- Cycles of a permutation of small numbers, and how great the least common multiple of their lengths can be (plain). -/
import Derived.Test.YteeicpfjmahmeaaCyc
namespace Lw
def itf (f : Nat → Nat) (x : Nat) : Nat → Nat
  | 0 => x
  | i + 1 => f (itf f x i)
theorem itf_add (f : Nat → Nat) (x i : Nat) : ∀ j, itf f (itf f x i) j = itf f x (i + j)
  | 0 => rfl
  | j + 1 => by show f _ = f _; rw [itf_add f x i j]; rfl
theorem itf_lt {f : Nat → Nat} {N : Nat} (hf : ∀ x, x < N → f x < N) {x : Nat} (hx : x < N) : ∀ i, itf f x i < N
  | 0 => hx
  | i + 1 => hf _ (itf_lt hf hx i)
def IsPer (f : Nat → Nat) (x k : Nat) : Prop := 1 ≤ k ∧ itf f x k = x ∧ ∀ j, 1 ≤ j → j < k → itf f x j ≠ x
def Perm (f : Nat → Nat) (N : Nat) : Prop := (∀ x, x < N → f x < N) ∧ ∀ x y, x < N → y < N → f x = f y → x = y
theorem per_first {f : Nat → Nat} {N : Nat} (h : Perm f N) {x i j : Nat} (hx : x < N) (e : FirstRep (itf f x) i j) : i = 0 := by
  obtain ⟨h1, h2, h3⟩ := e
  rcases i with _ | i
  · rfl
  · rcases j with _ | j
    · omega
    · exact absurd (h.2 _ _ (itf_lt h.1 hx i) (itf_lt h.1 hx j) h2) (h3 i j (by omega) (by omega))
theorem ex_per {f : Nat → Nat} {N : Nat} (h : Perm f N) {x : Nat} (hx : x < N) : ∃ k, k ≤ N ∧ IsPer f x k ∧ ∀ a b, a < b → b < k → itf f x a ≠ itf f x b := by
  obtain ⟨i, j, hj, e⟩ := ex_first (itf f x) N (itf_lt h.1 hx)
  have hi := per_first h hx e
  subst hi
  exact ⟨j, hj, ⟨e.1, e.2.1.symm, fun b h1 h2 h3 => e.2.2 0 b (by omega) h2 h3.symm⟩, e.2.2⟩
theorem per_unique {f : Nat → Nat} {x k l : Nat} (h : IsPer f x k) (h' : IsPer f x l) : k = l := by
  rcases Nat.lt_trichotomy k l with e | e | e
  · exact absurd h.2.1 (h'.2.2 k h.1 e)
  · exact e
  · exact absurd h'.2.1 (h.2.2 l h'.1 e)
open Classical in
noncomputable def per (f : Nat → Nat) (x : Nat) : Nat := if h : ∃ k, IsPer f x k then Classical.choose h else 1
theorem per_is {f : Nat → Nat} {N : Nat} (h : Perm f N) {x : Nat} (hx : x < N) : IsPer f x (per f x) ∧ per f x ≤ N ∧ ∀ a b, a < b → b < per f x → itf f x a ≠ itf f x b := by
  obtain ⟨k, h1, h2, h3⟩ := ex_per h hx
  have hex : ∃ k, IsPer f x k := ⟨k, h2⟩
  have e : per f x = k := by
    unfold per
    rw [dif_pos hex]
    exact per_unique (Classical.choose_spec hex) h2
  rw [e]
  exact ⟨h2, h1, h3⟩
theorem per_eq {f : Nat → Nat} {N : Nat} (h : Perm f N) {x k : Nat} (hx : x < N) (hk : IsPer f x k) : per f x = k := per_unique (per_is h hx).1 hk
theorem itf_mul {f : Nat → Nat} {x k : Nat} (h : itf f x k = x) : ∀ q, itf f x (q * k) = x
  | 0 => by simp [itf]
  | q + 1 => by rw [Nat.succ_mul, ← itf_add, itf_mul h q, h]
theorem itf_back {f : Nat → Nat} {x k : Nat} (h1 : 1 ≤ k) (h : itf f x k = x) (j : Nat) : ∃ m, itf f (itf f x j) m = x := by
  refine ⟨j * (k - 1), ?_⟩
  rw [itf_add, show j + j * (k - 1) = j * k by
    obtain ⟨c, rfl⟩ : ∃ c, k = c + 1 := ⟨k - 1, by omega⟩
    simp [Nat.mul_add, Nat.add_comm]]
  exact itf_mul h j
theorem itf_swap (f : Nat → Nat) (x i j : Nat) : itf f (itf f x i) j = itf f (itf f x j) i := by rw [itf_add, itf_add, Nat.add_comm]
/-- all of an orbit have the same period -/
theorem per_orbit {f : Nat → Nat} {N : Nat} (h : Perm f N) {x : Nat} (hx : x < N) (j : Nat) : per f (itf f x j) = per f x := by
  obtain ⟨h1, h2, h3⟩ := (per_is h hx).1
  refine per_eq h (itf_lt h.1 hx j) ⟨h1, ?_, fun i i1 i2 e => ?_⟩
  · rw [itf_swap, h2]
  · obtain ⟨m, hm⟩ := itf_back h1 h2 j
    apply h3 i i1 i2
    have this : itf f (itf f (itf f x j) i) m = itf f (itf f x j) m := by rw [e]
    rw [itf_swap, hm] at this
    exact this
/-- seen when x is at hand: an earlier one's orbit holds it -/
def SeenP (f : Nat → Nat) (x y : Nat) : Prop := ∃ x', x' < x ∧ ∃ i, itf f x' i = y
theorem seen_back {f : Nat → Nat} {N : Nat} (h : Perm f N) {x x0 : Nat} (hx : x < N) {j : Nat} (hs : SeenP f x0 (itf f x j)) : SeenP f x0 x := by
  obtain ⟨x', h1, i, h2⟩ := hs
  obtain ⟨k1, k2, _⟩ := (per_is h hx).1
  obtain ⟨m, hm⟩ := itf_back k1 k2 j
  exact ⟨x', h1, i + m, by rw [← itf_add, h2, hm]⟩
theorem seen_next {f : Nat → Nat} {N : Nat} (h : Perm f N) {x y : Nat} (hx : x < N) : SeenP f (x + 1) y ↔ SeenP f x y ∨ ∃ i, i < per f x ∧ itf f x i = y := by
  obtain ⟨k1, k2, _⟩ := (per_is h hx).1
  constructor
  · rintro ⟨x', h1, i, h2⟩
    by_cases e : x' = x
    · subst e
      refine .inr ⟨i % per f x', Nat.mod_lt _ k1, ?_⟩
      rw [← h2]
      conv => rhs; rw [← Nat.div_add_mod i (per f x'), Nat.mul_comm, ← itf_add, itf_mul k2]
    · exact .inl ⟨x', by omega, i, h2⟩
  · rintro (⟨x', h1, h2⟩ | ⟨i, _, h2⟩)
    · exact ⟨x', by omega, h2⟩
    · exact ⟨x, by omega, i, h2⟩
/-- what is seen after j more -/
def SeenJ (f : Nat → Nat) (x j y : Nat) : Prop := SeenP f x y ∨ ∃ i, i < j ∧ itf f x i = y
theorem seenJ_zero (f : Nat → Nat) (x y : Nat) : SeenJ f x 0 y ↔ SeenP f x y := ⟨fun h => h.elim id (fun ⟨i, h, _⟩ => by omega), .inl⟩
theorem seenJ_next {f : Nat → Nat} {x j y : Nat} : SeenJ f x (j + 1) y ↔ SeenJ f x j y ∨ y = itf f x j := by
  unfold SeenJ
  constructor
  · rintro (h | ⟨i, h1, h2⟩)
    · exact .inl (.inl h)
    · by_cases e : i = j
      · subst e; exact .inr h2.symm
      · exact .inl (.inr ⟨i, by omega, h2⟩)
  · rintro ((h | ⟨i, h1, h2⟩) | h)
    · exact .inl h
    · exact .inr ⟨i, by omega, h2⟩
    · exact .inr ⟨j, by omega, h.symm⟩
/-- the next one has not been seen, as long as the cycle isn't closed -/
theorem seenJ_no {f : Nat → Nat} {N : Nat} (h : Perm f N) {x j : Nat} (hx : x < N) (hs : ¬ SeenP f x x) (hj : j < per f x) : ¬ SeenJ f x j (itf f x j) := by
  rintro (h1 | ⟨i, h1, h2⟩)
  · exact hs (seen_back h hx h1)
  · exact (per_is h hx).2.2 i j h1 hj h2
theorem seenJ_end {f : Nat → Nat} {N : Nat} (h : Perm f N) {x : Nat} (hx : x < N) : SeenJ f x (per f x) (itf f x (per f x)) := by
  obtain ⟨k1, k2, _⟩ := (per_is h hx).1
  rw [k2]
  exact .inr ⟨0, k1, rfl⟩
theorem seenJ_full {f : Nat → Nat} {N : Nat} (h : Perm f N) {x y : Nat} (hx : x < N) : SeenJ f x (per f x) y ↔ SeenP f (x + 1) y := (seen_next h hx).symm
theorem seen_skip {f : Nat → Nat} {N : Nat} (h : Perm f N) {x y : Nat} (hx : x < N) (hs : SeenP f x x) : SeenP f (x + 1) y ↔ SeenP f x y := by
  rw [seen_next h hx]
  refine ⟨fun hh => hh.elim id fun ⟨i, _, h2⟩ => ?_, .inl⟩
  obtain ⟨x', h3, i', h4⟩ := hs
  exact ⟨x', h3, i' + i, by rw [← itf_add, h4, h2]⟩
/-- the least common multiple of the periods of the first x -/
noncomputable def ordN (f : Nat → Nat) : Nat → Nat
  | 0 => 1
  | x + 1 => Nat.lcm (ordN f x) (per f x)
theorem per_dvd (f : Nat → Nat) : ∀ {x x' : Nat}, x' < x → per f x' ∣ ordN f x
  | 0, _, h => by omega
  | x + 1, x', h => by
    by_cases e : x' = x
    · subst e; exact Nat.dvd_lcm_right _ _
    · exact Nat.dvd_trans (per_dvd f (by omega)) (Nat.dvd_lcm_left _ _)
theorem ordN_pos {f : Nat → Nat} {N : Nat} (h : Perm f N) : ∀ {x}, x ≤ N → 0 < ordN f x
  | 0, _ => Nat.one_pos
  | x + 1, hx => Nat.lcm_pos (ordN_pos h (by omega)) (per_is h (by omega)).1.1
theorem ordN_skip {f : Nat → Nat} {N : Nat} (h : Perm f N) {x : Nat} (hx : x < N) (hs : SeenP f x x) : ordN f (x + 1) = ordN f x := by
  obtain ⟨x', h1, i, h2⟩ := hs
  have e := per_orbit h (Nat.lt_trans h1 hx) i
  rw [h2] at e
  show Nat.lcm _ _ = _
  rw [e]
  exact Nat.lcm_eq_left (per_dvd f h1)
/-- the reference's and the program's way to it -/
theorem lcm_way {L k : Nat} (hk : 0 < k) : L / Nat.gcd (L % k) k * k = Nat.lcm L k := by
  have e : Nat.gcd (L % k) k = Nat.gcd L k := by rw [Nat.gcd_comm L k, Nat.gcd_rec k L]
  rw [e]
  unfold Nat.lcm
  exact (Nat.div_mul_right_comm (Nat.gcd_dvd_left L k) k).symm ▸ rfl
/-! how great it can be -/
def prd (D : List Nat) : Nat := (D.map fun s => s / Nat.gcd s 6).foldr (· * ·) 1
def tS (s : Nat) : Nat := Nat.log2 ((s / Nat.gcd s 6) ^ 25) + 1 - 4 * s
theorem tS_le (s : Nat) : (s / Nat.gcd s 6) ^ 25 ≤ 2 ^ (tS s + 4 * s) := by
  have h1 : (s / Nat.gcd s 6) ^ 25 < 2 ^ (Nat.log2 ((s / Nat.gcd s 6) ^ 25) + 1) := Nat.lt_log2_self
  refine Nat.le_trans (Nat.le_of_lt h1) (Nat.pow_le_pow_right (by decide) ?_)
  unfold tS; omega
theorem prd_le : ∀ D : List Nat, prd D ^ 25 ≤ 2 ^ ((D.map tS).sum + 4 * D.sum)
  | [] => by decide
  | s :: D => by
    have h1 := tS_le s
    have h2 := prd_le D
    show (s / Nat.gcd s 6 * prd D) ^ 25 ≤ _
    rw [Nat.mul_pow]
    refine Nat.le_trans (Nat.mul_le_mul h1 h2) ?_
    rw [← Nat.pow_add]
    refine Nat.pow_le_pow_right (by decide) ?_
    simp only [List.map_cons, List.sum_cons]; omega
theorem sum_sub (t : Nat → Nat) : ∀ {l1 l2 : List Nat}, l1.Nodup → (∀ x ∈ l1, x ∈ l2) → (l1.map t).sum ≤ (l2.map t).sum
  | [], _, _, _ => Nat.zero_le _
  | a :: r, l2, h, hs => by
    have ha : a ∈ l2 := hs a (by simp)
    have h1 := sum_sub t (l1 := r) (l2 := l2.erase a) (List.nodup_cons.1 h).2 (fun x hx => (List.mem_erase_of_ne (by rintro rfl; exact (List.nodup_cons.1 h).1 hx)).2 (hs x (by simp [hx])))
    have h2 := ((List.perm_cons_erase ha).map t).sum_nat
    simp only [List.map_cons, List.sum_cons] at h2 ⊢
    omega
theorem tS_all : ((List.range 257).map tS).sum ≤ 461 := by decide +kernel
theorem pw2 {a b : Nat} (h : a ≤ b) : 2 ^ a ≤ 2 ^ b := Nat.pow_le_pow_right (by decide) h
theorem pw25 {a b c d e : Nat} (h : a ≤ 2 ^ c) (h' : b ≤ 2 ^ d) (hc : c + d ≤ e * 25) : a * b ≤ (2 ^ e) ^ 25 := by
  rw [← Nat.pow_mul]
  refine Nat.le_trans (Nat.mul_le_mul h h') ?_
  rw [← Nat.pow_add]
  exact pw2 hc
theorem prd_bound {D : List Nat} (hd : D.Nodup) (h : ∀ s ∈ D, s ≤ 256) (hs : D.sum ≤ 256) : 6 * prd D ≤ 2 ^ 62 := by
  have h1 := prd_le D
  have h2 := sum_sub tS hd (l2 := List.range 257) (fun x hx => List.mem_range.2 (by have := h x hx; omega))
  have h3 := tS_all
  have h4 : (6 * prd D) ^ 25 ≤ (2 ^ 62) ^ 25 := by
    rw [Nat.mul_pow]
    exact pw25 (show 6 ^ 25 ≤ 2 ^ 65 by decide) h1 (by omega)
  rcases Nat.lt_or_ge (2 ^ 62) (6 * prd D) with h5 | h5
  · exact absurd h4 (Nat.not_le.2 (Nat.pow_lt_pow_left h5 (by decide)))
  · exact h5
theorem prd_pos : ∀ {D : List Nat}, (∀ s ∈ D, 1 ≤ s) → 0 < prd D
  | [], _ => Nat.one_pos
  | s :: D, h => Nat.mul_pos (Nat.div_pos (Nat.le_of_dvd (h s (by simp)) (Nat.gcd_dvd_left s 6)) (Nat.gcd_pos_of_pos_left _ (h s (by simp)))) (prd_pos fun s hs => h s (by simp [hs]))
theorem six_dvd (s : Nat) : s ∣ 6 * (s / Nat.gcd s 6) := by
  obtain ⟨a, ha⟩ := Nat.gcd_dvd_left s 6
  obtain ⟨b, hb⟩ := Nat.gcd_dvd_right s 6
  have hg : 0 < Nat.gcd s 6 := Nat.gcd_pos_of_pos_right _ (by decide)
  generalize Nat.gcd s 6 = g at *
  subst ha
  rw [Nat.mul_div_cancel_left a hg, hb]
  exact ⟨b, by simp [Nat.mul_assoc, Nat.mul_comm, Nat.mul_left_comm]⟩
theorem ord_inv {f : Nat → Nat} {N : Nat} (h : Perm f N) : ∀ x, x ≤ N → ∃ D E : List Nat, D.Nodup ∧ (∀ s ∈ D, 1 ≤ s ∧ s ≤ N ∧ s ∣ ordN f x) ∧ E.Nodup ∧ (∀ y ∈ E, y < N ∧ per f y ∈ D) ∧ E.length = D.sum ∧ ordN f x ∣ 6 * prd D
  | 0, _ => ⟨[], [], by simp, by simp, by simp, by simp, rfl, ⟨6, by simp [ordN, prd]⟩⟩
  | x + 1, hx => by
    obtain ⟨D, E, h1, h2, h3, h4, h5, h6⟩ := ord_inv h x (by omega)
    obtain ⟨⟨k1, k2, _⟩, k3, k4⟩ := per_is h (show x < N by omega)
    by_cases hd : per f x ∣ ordN f x
    · have e : ordN f (x + 1) = ordN f x := Nat.lcm_eq_left hd
      rw [e]
      exact ⟨D, E, h1, h2, h3, h4, h5, h6⟩
    · refine ⟨per f x :: D, (List.range (per f x)).map (itf f x) ++ E, List.nodup_cons.2 ⟨fun hm => hd (h2 _ hm).2.2, h1⟩, ?_, ?_, ?_, ?_, ?_⟩
      · intro s hs
        rcases List.mem_cons.1 hs with rfl | hs
        · exact ⟨k1, k3, Nat.dvd_lcm_right _ _⟩
        · obtain ⟨a, b, c⟩ := h2 s hs
          exact ⟨a, b, Nat.dvd_trans c (Nat.dvd_lcm_left _ _)⟩
      · refine List.nodup_append.2 ⟨?_, h3, ?_⟩
        · refine List.pairwise_map.2 (List.Pairwise.imp_of_mem (R := (· < ·)) ?_ List.pairwise_lt_range)
          intro a b ha hb hab
          exact k4 a b hab (List.mem_range.1 hb)
        · intro y hy z hz e
          subst e
          obtain ⟨i, _, rfl⟩ := List.mem_map.1 hy
          have := (h4 _ hz).2
          rw [per_orbit h (by omega)] at this
          exact hd (h2 _ this).2.2
      · intro y hy
        rcases List.mem_append.1 hy with hy | hy
        · obtain ⟨i, _, rfl⟩ := List.mem_map.1 hy
          refine ⟨itf_lt h.1 (by omega) i, ?_⟩
          rw [per_orbit h (by omega)]
          simp
        · exact ⟨(h4 y hy).1, List.mem_cons_of_mem _ (h4 y hy).2⟩
      · simp [h5]
      · refine Nat.lcm_dvd ?_ ?_
        · refine Nat.dvd_trans h6 ⟨per f x / Nat.gcd (per f x) 6, ?_⟩
          show 6 * (_ * prd D) = _
          simp [Nat.mul_assoc, Nat.mul_comm, Nat.mul_left_comm]
        · refine Nat.dvd_trans (six_dvd (per f x)) ⟨prd D, ?_⟩
          show 6 * (_ * prd D) = _
          simp [Nat.mul_assoc]
theorem ord_le {f : Nat → Nat} (h : Perm f 256) {x : Nat} (hx : x ≤ 256) : ordN f x ≤ 4611686018427387904 := by
  obtain ⟨D, E, h1, h2, h3, h4, h5, h6⟩ := ord_inv h x hx
  have hE : E.length ≤ 256 := by
    have := nodup_len (k := List.range 256) h3 (fun y hy => List.mem_range.2 (h4 y hy).1)
    simpa using this
  have hb := prd_bound h1 (fun s hs => (h2 s hs).2.1) (by omega)
  have hp : 0 < 6 * prd D := Nat.mul_pos (by decide) (prd_pos fun s hs => (h2 s hs).1)
  have := Nat.le_of_dvd hp h6
  have e : (2 : Nat) ^ 62 = 4611686018427387904 := by decide
  omega
end Lw
