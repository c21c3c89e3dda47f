/- The reference's Bit, Ones, FunctionCheck, Waves; what the rounds of walsh.fly come to. -/
import Derived.Test.YteeicpfjmahmeaaDoorWav
namespace Lw
open Go Go.RowKit
def onesF : Nat → Nat → Nat
  | 0, _ => 0
  | k + 1, x => x % 2 + onesF k (x / 2)
theorem ones_step : ∀ x, x < 64 → onesF 6 x = x % 2 + onesF 6 (x / 2) := by decide
theorem ones_le : ∀ x, x < 64 → onesF 6 x ≤ 6 := by decide
def sgn (i t : Nat) : Int := if onesF 6 (i &&& t) % 2 = 0 then 1 else -1
def sumT : Nat → (Nat → Int) → Int
  | 0, _ => 0
  | m + 1, f => sumT m f + f m
theorem sumT_congr {m : Nat} {f g : Nat → Int} (h : ∀ t, t < m → f t = g t) : sumT m f = sumT m g := by
  induction m with
  | zero => rfl
  | succ m ih => unfold sumT; rw [ih fun t ht => h t (by omega), h m (by omega)]
theorem sumT_add {m m' : Nat} {f : Nat → Int} : sumT (m + m') f = sumT m f + sumT m' fun t => f (m + t) := by
  induction m' with
  | zero => simp [sumT]
  | succ k ih =>
    show sumT (m + k) f + f (m + k) = sumT m f + (sumT k (fun t => f (m + t)) + f (m + k))
    rw [ih]; omega
theorem sumT_neg {m : Nat} {f : Nat → Int} : sumT m (fun t => -f t) = -sumT m f := by
  induction m with
  | zero => rfl
  | succ k ih =>
    show sumT k (fun t => -f t) + -f k = -(sumT k f + f k)
    rw [ih]; omega
theorem wav_one : ∀ k, k < 5 → ∀ i, i < 32 → i / 2 ^ k % 2 = 1 → (i - 2 ^ k) / 2 ^ k * 2 ^ k = i / 2 ^ (k + 1) * 2 ^ (k + 1) ∧ i / 2 ^ k * 2 ^ k = i / 2 ^ (k + 1) * 2 ^ (k + 1) + 2 ^ k ∧ ∀ t, t < 2 ^ k → sgn (i - 2 ^ k) t = sgn i t ∧ sgn i (2 ^ k + t) = -sgn i t := by decide
theorem wav_zero : ∀ k, k < 5 → ∀ i, i < 32 → i / 2 ^ k % 2 = 0 → (i + 2 ^ k) / 2 ^ k * 2 ^ k = i / 2 ^ (k + 1) * 2 ^ (k + 1) + 2 ^ k ∧ i / 2 ^ k * 2 ^ k = i / 2 ^ (k + 1) * 2 ^ (k + 1) ∧ ∀ t, t < 2 ^ k → sgn (i + 2 ^ k) t = sgn i t ∧ sgn i (2 ^ k + t) = sgn i t := by decide
theorem itr_sum {g : Nat → Int} : ∀ k, k < 6 → ∀ i, i < 32 → itr prW g k i = sumT (2 ^ k) fun t => sgn i t * g (i / 2 ^ k * 2 ^ k + t)
  | 0, _, i, _ => by
    have : sgn i 0 = 1 := by unfold sgn; rw [Nat.and_zero]; rfl
    show g i = 0 + sgn i 0 * g (i / 1 * 1 + 0)
    rw [this]; simp
  | k + 1, hk, i, hi => by
    show flyP prW k (itr prW g k) i = _
    unfold flyP
    rw [show (2 : Nat) ^ (k + 1) = 2 ^ k + 2 ^ k by rw [Nat.pow_succ]; omega, sumT_add]
    have e2 : (2 : Nat) ^ k + 2 ^ k = 2 ^ (k + 1) := by rw [Nat.pow_succ]; omega
    rw [e2]
    split
    · rename_i hb
      obtain ⟨h1, h2, h3⟩ := wav_one k (by omega) i hi hb
      have hb2 := bit_set k (by omega) i hi hb
      show itr prW g k (i - 2 ^ k) - itr prW g k i = _
      rw [itr_sum k (by omega) i hi, itr_sum k (by omega) (i - 2 ^ k) (by have := Nat.sub_le i (2 ^ k); omega), h1, h2, Int.sub_eq_add_neg, ← sumT_neg]
      congr 1
      · exact sumT_congr fun t ht => by rw [(h3 t ht).1]
      · exact sumT_congr fun t ht => by rw [(h3 t ht).2, Int.neg_mul, Nat.add_assoc]
    · rename_i hb
      have hb : i / 2 ^ k % 2 = 0 := by omega
      obtain ⟨h1, h2, h3⟩ := wav_zero k (by omega) i hi hb
      have hb2 := bit_clr k (by omega) i hi hb
      show itr prW g k i + itr prW g k (i + 2 ^ k) = _
      rw [itr_sum k (by omega) i hi, itr_sum k (by omega) (i + 2 ^ k) (by omega), h1, h2]
      congr 1
      exact sumT_congr fun t ht => by rw [(h3 t ht).1, (h3 t ht).2, Nat.add_assoc]
/-- a term of the reference's sum -/
def refT (f : Int) (u t : Nat) : Int := if (bitF f t + (onesF 6 (u &&& t) : Nat)) % 2 = 0 then 1 else -1
theorem refT_eq (f : Int) (u t : Nat) : refT f u t = sgn u t * wavG f t := by
  have := bitF_bd f t
  unfold refT sgn wavG
  rcases (by omega : bitF f t = 0 ∨ bitF f t = 1) with h | h <;> rw [h]
  · by_cases c : onesF 6 (u &&& t) % 2 = 0
    · rw [if_pos (by omega), if_pos c]; rfl
    · rw [if_neg (by omega), if_neg c]; rfl
  · by_cases c : onesF 6 (u &&& t) % 2 = 0
    · rw [if_neg (by omega), if_pos c]; rfl
    · rw [if_pos (by omega), if_neg c]; rfl
def waveR (n : Nat) (f : Int) (u : Nat) : Int := sumT (2 ^ n) (refT f u)
theorem wave_eq {n : Nat} {f : Int} (hn : n < 6) : rowF (2 ^ n) (itr prW (wavG f) n) = rowF (2 ^ n) (waveR n f) :=
  rowF_congr fun u hu => by
    have := pow_32 n hn
    rw [itr_sum n hn u (by omega), Nat.div_eq_of_lt hu]
    unfold waveR
    exact sumT_congr fun t _ => by rw [refT_eq, Nat.zero_mul, Nat.zero_add]
theorem sumT_bd {f : Nat → Int} (h : ∀ t, -1 ≤ f t ∧ f t ≤ 1) : ∀ m : Nat, -(m : Int) ≤ sumT m f ∧ sumT m f ≤ m
  | 0 => ⟨Int.le_refl _, Int.le_refl _⟩
  | m + 1 => by have := sumT_bd h m; have := h m; unfold sumT; omega
theorem refT_bd (f : Int) (u t : Nat) : -1 ≤ refT f u t ∧ refT f u t ≤ 1 := by unfold refT; split <;> omega
theorem and_i64 : ∀ j, j < 32 → ∀ i, i < 32 → bits BinOp.and IntKind.i64 ((i : Nat) : Int) ((j : Nat) : Int) = ((i &&& j : Nat) : Int) := by decide
theorem shl_u32 : ∀ x, x < 32 → IntKind.u32.wrap (2 ^ x) = 2 ^ x := by decide
theorem intsV_snoc' (k : IntKind) (a : List Int) (x : Int) : intsV k (a ++ [x]) = intsV k a ++ [.int k x] := by simp [intsV]
theorem rowF_succ {N : Nat} {g : Nat → Int} : rowF (N + 1) g = rowF N g ++ [g N] := by unfold rowF; rw [List.range_succ, List.map_append, List.map_singleton]
end Lw
set_option linter.unusedVariables false
set_option linter.unusedSimpArgs false
namespace Go.Proofs.YteeicpfjmahmeaaDoor
open Go.RowKit
theorem ref_Ones (x : Nat) (w : World) (hx : x < 64) :
    Calls Tryd.prog 13 #[.int .i64 (x : Int)] w fun e w' => e = .returned (.int .i64 ((Lw.onesF 6 x : Nat) : Int)) ∧ w = w' := by
  have ST := Lib.hid Lw.ones_step
  have LE := Lib.hid Lw.ones_le
  go_enter Tryd.func13, Tryd.ntmps13
  go_wp2
  go_loop [0, 3] (fun y n => ∃ a b : Nat, y = .int .i64 (a : Int) ∧ n = .int .i64 (b : Int) ∧ a ≤ x ∧ Hid (b + Lw.onesF 6 a = Lw.onesF 6 x)) (fun y _ => (intOf y).toNat)
  case atStart => exact ⟨x, 0, rfl, rfl, Nat.le_refl _, by unfold Hid; omega⟩
  case round =>
    obtain ⟨a, b, rfl, rfl, ha, H⟩ := hrel
    rcases Nat.eq_zero_or_pos a with h | h
    · subst h
      have H2 : Hid (b = Lw.onesF 6 x) := by have := H.out; rw [show Lw.onesF 6 0 = 0 from rfl] at this; exact this
      clear H
      go_wp2
      go_ret
      exact ⟨by rw [H2.out]; rfl, rfl⟩
    · have S := ST.out a (by omega)
      have L := LE.out x hx
      have H1 := H.out
      have hb : b ≤ 6 := by omega
      have e1 : ((a : Int).tmod 2) = ((a % 2 : Nat) : Int) := by rw [Int.tmod_eq_emod_of_nonneg (by omega)]; omega
      have e2 : ((a : Int).tdiv 2) = ((a / 2 : Nat) : Int) := by rw [Int.tdiv_eq_ediv_of_nonneg (by omega)]; omega
      have H2 : Hid (b + a % 2 + Lw.onesF 6 (a / 2) = Lw.onesF 6 x) := by unfold Hid; omega
      clear S H H1 L
      go_wp2
      go_round
      case rel => exact ⟨a / 2, b + a % 2, by go_num, by go_num, by omega, H2⟩
      case measure => simp [intOf]; omega
theorem ref_Bit (f : Int) (x : Nat) (w : World) (f0 : 0 ≤ f) (f1 : f < 4294967296) (hx : x < 32) :
    Calls Tryd.prog 12 #[.int .u32 f, .int .i64 (x : Int)] w fun e w' => e = .returned (.int .i64 (Lw.bitF f x)) ∧ w = w' := by
  have E : f / 2 ^ x % 2 = Lw.bitF f x := rfl
  obtain ⟨b1, b2⟩ := Lw.bitF_bd f x
  have SH := Lw.shl_u32 x hx
  have P : (0 : Int) < 2 ^ x := Int.pow_pos (by omega)
  have P0 : ¬ (2 : Int) ^ x = 0 := by omega
  have T : f.tdiv (2 ^ x) = f / 2 ^ x := Int.tdiv_eq_ediv_of_nonneg f0
  have Q : 0 ≤ f / 2 ^ x := Int.ediv_nonneg f0 (by omega)
  have T2 : (f / 2 ^ x).tmod 2 = f / 2 ^ x % 2 := Int.tmod_eq_emod_of_nonneg Q
  rcases (by omega : Lw.bitF f x = 0 ∨ Lw.bitF f x = 1) with h | h
  · rw [h] at E ⊢
    have D : (f / 2 ^ x % 2 == 1) = false := by rw [E]; rfl
    go_enter Tryd.func12, Tryd.ntmps12
    go_wp2
    go_ret
    exact ⟨rfl, rfl⟩
  · rw [h] at E ⊢
    have D : (f / 2 ^ x % 2 == 1) = true := by rw [E]; rfl
    go_enter Tryd.func12, Tryd.ntmps12
    go_wp2
    go_ret
    exact ⟨rfl, rfl⟩
theorem ref_FunctionCheck (n : Int) (f : Int) (w : World) (f0 : 0 ≤ f) (f1 : f < 4294967296) :
    Calls Tryd.prog 5 #[.int .i64 n, .int .u32 f] w fun e w' => e = .returned (.bool (decide (Lw.okF n f))) ∧ w = w' := by
  by_cases h1 : n < 0
  · have D : decide (Lw.okF n f) = false := decide_eq_false fun h => by have := h.1; omega
    rw [D]
    go_enter Tryd.func5, Tryd.ntmps5
    go_wp2
    go_ret
    exact ⟨rfl, rfl⟩
  by_cases h2 : 5 < n
  · have D : decide (Lw.okF n f) = false := decide_eq_false fun h => by have := h.2.1; omega
    rw [D]
    go_enter Tryd.func5, Tryd.ntmps5
    go_wp2
    go_ret
    exact ⟨rfl, rfl⟩
  rcases (by omega : n = 0 ∨ n = 1 ∨ n = 2 ∨ n = 3 ∨ n = 4 ∨ n = 5) with h | h | h | h | h | h
  · subst h
    have D : decide (Lw.okF 0 f) = decide (f < 2) := by
      refine decide_eq_decide.2 ⟨fun h => by have := h.2.2; simpa using this, fun h => ⟨by omega, by omega, by simpa using h⟩⟩
    rw [D]
    go_enter Tryd.func5, Tryd.ntmps5
    go_wp2
    go_ret
    refine ⟨?_, rfl⟩
    simp
  · subst h
    have D : decide (Lw.okF 1 f) = decide (f < 4) := by
      refine decide_eq_decide.2 ⟨fun h => by have := h.2.2; simpa using this, fun h => ⟨by omega, by omega, by simpa using h⟩⟩
    rw [D]
    go_enter Tryd.func5, Tryd.ntmps5
    go_wp2
    go_ret
    refine ⟨?_, rfl⟩
    simp
  · subst h
    have D : decide (Lw.okF 2 f) = decide (f < 16) := by
      refine decide_eq_decide.2 ⟨fun h => by have := h.2.2; simpa using this, fun h => ⟨by omega, by omega, by simpa using h⟩⟩
    rw [D]
    go_enter Tryd.func5, Tryd.ntmps5
    go_wp2
    go_ret
    refine ⟨?_, rfl⟩
    simp
  · subst h
    have D : decide (Lw.okF 3 f) = decide (f < 256) := by
      refine decide_eq_decide.2 ⟨fun h => by have := h.2.2; simpa using this, fun h => ⟨by omega, by omega, by simpa using h⟩⟩
    rw [D]
    go_enter Tryd.func5, Tryd.ntmps5
    go_wp2
    go_ret
    refine ⟨?_, rfl⟩
    simp
  · subst h
    have D : decide (Lw.okF 4 f) = decide (f < 65536) := by
      refine decide_eq_decide.2 ⟨fun h => by have := h.2.2; simpa using this, fun h => ⟨by omega, by omega, by simpa using h⟩⟩
    rw [D]
    go_enter Tryd.func5, Tryd.ntmps5
    go_wp2
    go_ret
    refine ⟨?_, rfl⟩
    simp
  · subst h
    have D : decide (Lw.okF 5 f) = decide (f < 4294967296) := by
      refine decide_eq_decide.2 ⟨fun h => by have := h.2.2; simpa using this, fun h => ⟨by omega, by omega, by simpa using h⟩⟩
    rw [D]
    go_enter Tryd.func5, Tryd.ntmps5
    go_wp2
    go_ret
    refine ⟨?_, rfl⟩
    simp
end Go.Proofs.YteeicpfjmahmeaaDoor
