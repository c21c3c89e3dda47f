/- Xiao and Massey, plain: the waves of few bits are 0 exactly if few variables tell nothing. -/
import Derived.Test.YteeicpfjmahmeaaDoorWas
namespace Lw
open Go Go.RowKit
theorem sumT_mul {m : Nat} {f : Nat → Int} (c : Int) : sumT m (fun t => c * f t) = c * sumT m f := by
  induction m with
  | zero => exact (Int.mul_zero c).symm
  | succ k ih =>
    show sumT k (fun t => c * f t) + c * f k = c * (sumT k f + f k)
    rw [ih, Int.mul_add]
theorem sumT_two {m : Nat} {f g : Nat → Int} : sumT m (fun t => f t + g t) = sumT m f + sumT m g := by
  induction m with
  | zero => rfl
  | succ k ih =>
    show sumT k (fun t => f t + g t) + (f k + g k) = (sumT k f + f k) + (sumT k g + g k)
    rw [ih]; omega
theorem sumT_none {m : Nat} {f : Nat → Int} (h : ∀ t, t < m → f t = 0) : sumT m f = 0 := by
  induction m with
  | zero => rfl
  | succ k ih =>
    show sumT k f + f k = 0
    rw [ih fun t ht => h t (by omega), h k (by omega)]; rfl
theorem sumT_swap {m : Nat} {a : Nat → Nat → Int} : ∀ n, sumT m (fun i => sumT n (fun j => a i j)) = sumT n (fun j => sumT m (fun i => a i j))
  | 0 => sumT_none fun _ _ => rfl
  | n + 1 => by
    show sumT m (fun i => sumT n (fun j => a i j) + a i n) = sumT n (fun j => sumT m (fun i => a i j)) + sumT m (fun i => a i n)
    rw [sumT_two, sumT_swap n]
theorem sumT_pick {m c : Nat} {f : Nat → Int} (hc : c < m) (h : ∀ t, t < m → t ≠ c → f t = 0) : sumT m f = f c := by
  induction m with
  | zero => omega
  | succ k ih =>
    show sumT k f + f k = f c
    by_cases e : c = k
    · subst e; rw [sumT_none fun t ht => h t (by omega) (by omega), Int.zero_add]
    · rw [ih (by omega) fun t ht => h t (by omega), h k (by omega) (fun h => e h.symm), Int.add_zero]
theorem sgn_mul : ∀ u, u < 32 → ∀ v, v < 32 → ∀ x, x < 32 → sgn u v * sgn u x = sgn u (v ^^^ x) := by decide +kernel
theorem xor_in : ∀ s, s < 32 → ∀ v, v < 32 → ∀ x, x < 32 → v &&& s = v → (((v ^^^ x) &&& s == 0) = (x &&& s == v)) ∧ v ^^^ x < 32 := by decide +kernel
theorem sgn_sub : ∀ s, s < 32 → ∀ d, d < 32 → sumT 32 (fun u => if u &&& s = u then sgn u d else 0) = if d &&& s = 0 then 2 ^ onesF 6 s else 0 := by decide +kernel
theorem sgn_comm (u v : Nat) : sgn u v = sgn v u := by unfold sgn; rw [Nat.and_comm]
theorem sgn_all : ∀ n, n < 6 → ∀ u, u < 2 ^ n → 0 < u → sumT (2 ^ n) (sgn u) = 0 := by decide +kernel
theorem ones_sub : ∀ s, s < 32 → ∀ u, u < 32 → u &&& s = u → onesF 6 u ≤ onesF 6 s ∧ (u = 0 ∨ 1 ≤ onesF 6 u) := by decide +kernel
theorem ones_up_b : ∀ n, n < 6 → ∀ k, k < n + 1 → ∀ u, u < 2 ^ n → onesF 6 u ≤ k → ((List.range (2 ^ n)).any fun s => u &&& s == u && onesF 6 s == k) = true := by decide +kernel
theorem ones_up (n : Nat) (hn : n < 6) (k : Nat) (hk : k < n + 1) (u : Nat) (hu : u < 2 ^ n) (h : onesF 6 u ≤ k) : ∃ s, s < 2 ^ n ∧ u &&& s = u ∧ onesF 6 s = k := by
  obtain ⟨s, hs, e⟩ := List.any_eq_true.1 (ones_up_b n hn k hk u hu h)
  rw [Bool.and_eq_true, beq_iff_eq, beq_iff_eq] at e
  exact ⟨s, List.mem_range.1 hs, e.1, e.2⟩
/-- how many of those with the values v on the set s -/
def someT (n : Nat) (f : Int) (s v : Nat) : Int := sumT (2 ^ n) fun x => if x &&& s = v then bitF f x else 0
def allT (n : Nat) (f : Int) : Int := sumT (2 ^ n) (bitF f)
def wavT (n : Nat) (f : Int) (u : Nat) : Int := sumT (2 ^ n) fun x => sgn u x * bitF f x
theorem wave_wavT {n : Nat} {f : Int} (hn : n < 6) {u : Nat} (hu : u < 2 ^ n) (h0 : 0 < u) : waveR n f u = -2 * wavT n f u := by
  unfold waveR wavT
  have e : sumT (2 ^ n) (refT f u) = sumT (2 ^ n) fun x => sgn u x + -2 * (sgn u x * bitF f x) := sumT_congr fun x _ => by
    rw [refT_eq]; unfold wavG; rw [Int.mul_sub, Int.mul_one]
    have : sgn u x * (2 * bitF f x) = 2 * (sgn u x * bitF f x) := by rw [Int.mul_left_comm]
    omega
  have e2 : sumT (2 ^ n) (fun x => sgn u x) = 0 := sgn_all n hn u hu h0
  rw [e, sumT_two, sumT_mul, e2, Int.zero_add]
theorem wavT_zero {n : Nat} {f : Int} : wavT n f 0 = allT n f := by
  unfold wavT allT
  exact sumT_congr fun x _ => by unfold sgn; rw [Nat.zero_and]; exact Int.one_mul _
theorem some_sum {n : Nat} {f : Int} (hn : n < 6) {s v : Nat} (hs : s < 32) (hv : v < 32) (h : v &&& s = v) :
    2 ^ onesF 6 s * someT n f s v = sumT 32 fun u => if u &&& s = u then sgn u v * wavT n f u else 0 := by
  have N32 := pow_32 n hn
  have e1 : (sumT 32 fun u => if u &&& s = u then sgn u v * wavT n f u else 0) = sumT 32 fun u => sumT (2 ^ n) fun x => bitF f x * (if u &&& s = u then sgn u (v ^^^ x) else 0) := sumT_congr fun u hu => by
    split
    · unfold wavT
      rw [← sumT_mul]
      exact sumT_congr fun x hx => by rw [← sgn_mul u hu v hv x (by omega), ← Int.mul_assoc, Int.mul_comm (bitF f x)]
    · exact (sumT_none fun x _ => Int.mul_zero _).symm
  rw [e1, sumT_swap]
  unfold someT
  rw [← sumT_mul]
  refine sumT_congr fun x hx => ?_
  obtain ⟨h1, h2⟩ := xor_in s hs v hv x (by omega) h
  rw [sumT_mul, sgn_sub s hs _ h2]
  rw [Bool.eq_iff_iff] at h1
  simp only [beq_iff_eq] at h1
  by_cases c : x &&& s = v
  · rw [if_pos c, if_pos (h1.2 c), Int.mul_comm]
  · rw [if_neg c, if_neg (fun e => c (h1.1 e)), Int.mul_zero, Int.mul_zero]
theorem wav_sum {n : Nat} {f : Int} (hn : n < 6) {s u : Nat} (hs : s < 32) (h : u &&& s = u) :
    wavT n f u = sumT 32 fun v => if v &&& s = v then sgn u v * someT n f s v else 0 := by
  have N32 := pow_32 n hn
  have e1 : (sumT 32 fun v => if v &&& s = v then sgn u v * someT n f s v else 0) = sumT 32 fun v => sumT (2 ^ n) fun x => if x &&& s = v then sgn u v * bitF f x else 0 := sumT_congr fun v hv => by
    split
    · unfold someT
      rw [← sumT_mul]
      exact sumT_congr fun x _ => by
        split
        · rfl
        · exact Int.mul_zero _
    · rename_i c
      refine (sumT_none fun x _ => if_neg fun e => c ?_).symm
      rw [← e, Nat.and_assoc, Nat.and_self]
  rw [e1, sumT_swap]
  unfold wavT
  refine sumT_congr fun x hx => ?_
  have hx2 : x &&& s < 32 := by have : x &&& s ≤ x := Nat.and_le_left; omega
  rw [sumT_pick (c := x &&& s) hx2 fun t _ ht => if_neg fun e => ht e.symm, if_pos rfl]
  have : sgn u (x &&& s) = sgn u x := by
    unfold sgn
    rw [show u &&& (x &&& s) = u &&& x by rw [Nat.and_comm x s, ← Nat.and_assoc, h]]
  rw [this]
/-- what the program asks, what the reference asks -/
def immP (n : Nat) (f : Int) (k : Nat) : Prop := ∀ u, u < 2 ^ n → 1 ≤ onesF 6 u → onesF 6 u ≤ k → waveR n f u = 0
def immR (n : Nat) (f : Int) (k : Nat) : Prop := ∀ s, s < 2 ^ n → onesF 6 s = k → ∀ v, v ≤ s → v &&& s = v → someT n f s v * 2 ^ k = allT n f
theorem ones_pos : ∀ u, u < 32 → (1 ≤ onesF 6 u ↔ 0 < u) := by decide
theorem xiao_massey {n : Nat} {f : Int} {k : Nat} (hn : n < 6) (hk : k ≤ n) : immP n f k ↔ immR n f k := by
  have N32 := pow_32 n hn
  constructor
  · intro H s hs hk2 v hv h
    have h1 := some_sum (f := f) hn (s := s) (v := v) (by omega) (by omega) h
    rw [hk2] at h1
    rw [Int.mul_comm, h1, sumT_pick (c := 0) (by omega)]
    · rw [if_pos (Nat.zero_and s), wavT_zero]
      have : sgn 0 v = 1 := by unfold sgn; rw [Nat.zero_and]; rfl
      rw [this, Int.one_mul]
    · intro u hu hu0
      split
      · rename_i c
        have h2 := ones_sub s (by omega) u hu c
        have h3 : u ≤ s := by have : u &&& s ≤ s := Nat.and_le_right; omega
        have h4 := H u (by omega) (by omega) (by omega)
        rw [wave_wavT hn (by omega) (by omega)] at h4
        have h5 : wavT n f u = 0 := by omega
        rw [h5, Int.mul_zero]
      · rfl
  · intro H u hu h1 h2
    obtain ⟨s, hs, hus, hsk⟩ := ones_up n hn k (by omega) u hu h2
    have hu0 : 0 < u := (ones_pos u (by omega)).1 h1
    rw [wave_wavT hn hu hu0]
    have e := wav_sum (f := f) hn (s := s) (u := u) (by omega) hus
    have e2 : 2 ^ k * wavT n f u = 0 := by
      rw [e, ← sumT_mul]
      have e3 : (sumT 32 fun v => 2 ^ k * if v &&& s = v then sgn u v * someT n f s v else 0) = sumT 32 fun v => allT n f * if v &&& s = v then sgn v u else 0 := sumT_congr fun v hv => by
        split
        · rename_i c
          have hvs : v ≤ s := by have : v &&& s ≤ s := Nat.and_le_right; omega
          rw [← H s hs hsk v hvs c, sgn_comm v u]
          rw [Int.mul_left_comm, Int.mul_comm (2 ^ k) (someT n f s v), Int.mul_comm]
        · rw [Int.mul_zero, Int.mul_zero]
      rw [e3, sumT_mul, sgn_sub s (by omega) u (by omega), if_neg (by rw [hus]; omega), Int.mul_zero]
    have hp : (2 : Int) ^ k ≠ 0 := Int.ne_of_gt (Int.pow_pos (by omega))
    rcases Int.mul_eq_zero.1 e2 with h | h
    · exact absurd h hp
    · rw [h]; rfl
end Lw
