/- Bits of words: parities, and how math/bits counts (plain). -/
import Derived.Test.YtnlbnadjolfjpaaWk
namespace Lw
/-- whether an odd number of the first n is true -/
def xorT : Nat → (Nat → Bool) → Bool
  | 0, _ => false
  | n + 1, f => xorT n f ^^ f n
theorem xorT_congr {f g : Nat → Bool} : ∀ {n : Nat}, (∀ k, k < n → f k = g k) → xorT n f = xorT n g
  | 0, _ => rfl
  | n + 1, h => by unfold xorT; rw [xorT_congr (n := n) fun k hk => h k (by omega), h n (by omega)]
theorem xorT_add (f : Nat → Bool) (m : Nat) : ∀ n : Nat, xorT (m + n) f = (xorT m f ^^ xorT n fun k => f (m + k))
  | 0 => by simp [xorT]
  | n + 1 => by
    show (xorT (m + n) f ^^ f (m + n)) = _
    rw [xorT_add f m n]
    show _ = (xorT m f ^^ (xorT n (fun k => f (m + k)) ^^ f (m + n)))
    rw [Bool.xor_assoc]
theorem xorT_false {f : Nat → Bool} : ∀ {n : Nat}, (∀ k, k < n → f k = false) → xorT n f = false
  | 0, _ => rfl
  | n + 1, h => by unfold xorT; rw [xorT_false (n := n) fun k hk => h k (by omega), h n (by omega)]; rfl
theorem xorT_more {f : Nat → Bool} {m n : Nat} (hmn : m ≤ n) (h : ∀ k, m ≤ k → k < n → f k = false) : xorT n f = xorT m f := by
  obtain ⟨d, rfl⟩ : ∃ d, n = m + d := ⟨n - m, by omega⟩
  rw [xorT_add, xorT_false (n := d) fun k hk => h _ (by omega) (by omega), Bool.xor_false]
theorem xorT_xor (f g : Nat → Bool) : ∀ n : Nat, xorT n (fun k => f k ^^ g k) = (xorT n f ^^ xorT n g)
  | 0 => rfl
  | n + 1 => by
    show (xorT n (fun k => f k ^^ g k) ^^ (f n ^^ g n)) = ((xorT n f ^^ f n) ^^ (xorT n g ^^ g n))
    rw [xorT_xor f g n]
    cases xorT n f <;> cases xorT n g <;> cases f n <;> cases g n <;> rfl
/-- whether an odd number of bits is set -/
def oddN (x : Nat) : Bool := xorT 64 x.testBit
theorem tb (a y j : Nat) (ha : a < 256) : (a + 256 * y).testBit j = if j < 8 then a.testBit j else y.testBit (j - 8) := by
  rw [Nat.add_comm]
  exact Nat.testBit_two_pow_mul_add y (i := 8) ha j
theorem and_dig (a c y M : Nat) (ha : a < 256) (hc : c < 256) : (a + 256 * y) &&& (c + 256 * M) = (a &&& c) + 256 * (y &&& M) := by
  apply Nat.eq_of_testBit_eq
  intro j
  rw [Nat.testBit_and, tb _ _ _ ha, tb _ _ _ hc, tb _ _ _ (Nat.lt_of_le_of_lt Nat.and_le_left ha)]
  split <;> simp [Nat.testBit_and]
theorem shr_dig (s a c y M : Nat) (ha : a < 256) (hc : c * 2 ^ s < 256) (hs : s ≤ 8) : (a + 256 * y) / 2 ^ s &&& (c + 256 * M) = (a / 2 ^ s &&& c) + 256 * (y / 2 ^ s &&& M) := by
  have hc2 : c < 256 := Nat.lt_of_le_of_lt (Nat.le_mul_of_pos_right c (Nat.two_pow_pos s)) hc
  have ha2 : a / 2 ^ s < 256 := Nat.lt_of_le_of_lt (Nat.div_le_self _ _) ha
  apply Nat.eq_of_testBit_eq
  intro j
  rw [Nat.testBit_and, Nat.testBit_div_two_pow, tb _ _ _ ha, tb _ _ _ hc2, tb _ _ _ (Nat.lt_of_le_of_lt Nat.and_le_left ha2)]
  by_cases h8 : j < 8
  · rw [if_pos h8, if_pos h8, Nat.testBit_and, Nat.testBit_div_two_pow]
    by_cases h : j + s < 8
    · rw [if_pos h]
    · have : c.testBit j = false := by
        apply Nat.testBit_lt_two_pow
        rcases Nat.lt_or_ge c (2 ^ j) with h1 | h1
        · exact h1
        · exfalso
          have h2 : 2 ^ j * 2 ^ s ≤ c * 2 ^ s := Nat.mul_le_mul_right _ h1
          rw [← Nat.pow_add] at h2
          have h3 : 2 ^ 8 ≤ 2 ^ (j + s) := Nat.pow_le_pow_right (by omega) (by omega)
          omega
      rw [this, Bool.and_false, Bool.and_false]
  · rw [if_neg h8, if_neg h8, if_neg (by omega), Nat.testBit_and, Nat.testBit_div_two_pow, show j + s - 8 = j - 8 + s by omega]
theorem digs (x : Nat) (hx : x < 18446744073709551616) : ∃ a b c d e f g h : Nat, (a < 256 ∧ b < 256 ∧ c < 256 ∧ d < 256) ∧ (e < 256 ∧ f < 256 ∧ g < 256 ∧ h < 256) ∧ x = a + 256 * (b + 256 * (c + 256 * (d + 256 * (e + 256 * (f + 256 * (g + 256 * (h + 256 * 0))))))) := by
  refine ⟨x % 256, x / 256 % 256, x / 65536 % 256, x / 16777216 % 256, x / 4294967296 % 256, x / 1099511627776 % 256, x / 281474976710656 % 256, x / 72057594037927936 % 256, ⟨?_, ?_, ?_, ?_⟩, ⟨?_, ?_, ?_, ?_⟩, ?_⟩ <;> omega
def sw1 (x : Nat) : Nat := (x / 2 &&& 6148914691236517205) + (x &&& 6148914691236517205)
def sw2 (x : Nat) : Nat := (x / 4 &&& 3689348814741910323) + (x &&& 3689348814741910323)
def g1 (a : Nat) : Nat := (a / 2 &&& 85) + (a &&& 85)
def g2 (a : Nat) : Nat := (a / 4 &&& 51) + (a &&& 51)
theorem g_facts : ∀ a, a < 256 → g1 a < 256 ∧ g2 (g1 a) % 16 ≤ 4 ∧ g2 (g1 a) / 16 ≤ 4 ∧ (decide ((g2 (g1 a) % 16 + g2 (g1 a) / 16) % 2 = 1) = xorT 8 a.testBit) := by decide +kernel
theorem sw1_digs (a b c d e f g h : Nat) (h1 : a < 256 ∧ b < 256 ∧ c < 256 ∧ d < 256) (h2 : e < 256 ∧ f < 256 ∧ g < 256 ∧ h < 256) :
    sw1 (a + 256 * (b + 256 * (c + 256 * (d + 256 * (e + 256 * (f + 256 * (g + 256 * (h + 256 * 0)))))))) = g1 a + 256 * (g1 b + 256 * (g1 c + 256 * (g1 d + 256 * (g1 e + 256 * (g1 f + 256 * (g1 g + 256 * (g1 h + 256 * 0))))))) := by
  obtain ⟨ha, hb, hc, hd⟩ := h1
  obtain ⟨he, hf, hg, hh⟩ := h2
  unfold sw1
  rw [show (6148914691236517205 : Nat) = 85 + 256 * (85 + 256 * (85 + 256 * (85 + 256 * (85 + 256 * (85 + 256 * (85 + 256 * (85 + 256 * 0))))))) from rfl]
  have S := fun a y M h => shr_dig 1 a 85 y M h (by omega) (by omega)
  have A := fun a y M h => and_dig a 85 y M h (by omega)
  simp only [show (2 : Nat) ^ 1 = 2 from rfl] at S
  rw [S _ _ _ ha, S _ _ _ hb, S _ _ _ hc, S _ _ _ hd, S _ _ _ he, S _ _ _ hf, S _ _ _ hg, S _ _ _ hh, A _ _ _ ha, A _ _ _ hb, A _ _ _ hc, A _ _ _ hd, A _ _ _ he, A _ _ _ hf, A _ _ _ hg, A _ _ _ hh]
  unfold g1
  generalize (a / 2 &&& 85) = x1; generalize (b / 2 &&& 85) = x2; generalize (c / 2 &&& 85) = x3; generalize (d / 2 &&& 85) = x4; generalize (e / 2 &&& 85) = x5; generalize (f / 2 &&& 85) = x6; generalize (g / 2 &&& 85) = x7; generalize (h / 2 &&& 85) = x8
  simp only [Nat.zero_div, Nat.zero_and]
  omega
theorem sw2_digs (a b c d e f g h : Nat) (h1 : a < 256 ∧ b < 256 ∧ c < 256 ∧ d < 256) (h2 : e < 256 ∧ f < 256 ∧ g < 256 ∧ h < 256) :
    sw2 (a + 256 * (b + 256 * (c + 256 * (d + 256 * (e + 256 * (f + 256 * (g + 256 * (h + 256 * 0)))))))) = g2 a + 256 * (g2 b + 256 * (g2 c + 256 * (g2 d + 256 * (g2 e + 256 * (g2 f + 256 * (g2 g + 256 * (g2 h + 256 * 0))))))) := by
  obtain ⟨ha, hb, hc, hd⟩ := h1
  obtain ⟨he, hf, hg, hh⟩ := h2
  unfold sw2
  rw [show (3689348814741910323 : Nat) = 51 + 256 * (51 + 256 * (51 + 256 * (51 + 256 * (51 + 256 * (51 + 256 * (51 + 256 * (51 + 256 * 0))))))) from rfl]
  have S := fun a y M h => shr_dig 2 a 51 y M h (by omega) (by omega)
  have A := fun a y M h => and_dig a 51 y M h (by omega)
  simp only [show (2 : Nat) ^ 2 = 4 from rfl] at S
  rw [S _ _ _ ha, S _ _ _ hb, S _ _ _ hc, S _ _ _ hd, S _ _ _ he, S _ _ _ hf, S _ _ _ hg, S _ _ _ hh, A _ _ _ ha, A _ _ _ hb, A _ _ _ hc, A _ _ _ hd, A _ _ _ he, A _ _ _ hf, A _ _ _ hg, A _ _ _ hh]
  unfold g2
  generalize (a / 4 &&& 51) = x1; generalize (b / 4 &&& 51) = x2; generalize (c / 4 &&& 51) = x3; generalize (d / 4 &&& 51) = x4; generalize (e / 4 &&& 51) = x5; generalize (f / 4 &&& 51) = x6; generalize (g / 4 &&& 51) = x7; generalize (h / 4 &&& 51) = x8
  simp only [Nat.zero_div, Nat.zero_and]
  omega
def nib (x : Nat) : Nat := (x / 16 + x) &&& 1085102592571150095
theorem g_facts' (a : Nat) (h : a < 256) : g1 a < 256 ∧ ∃ p q, p ≤ 4 ∧ q ≤ 4 ∧ g2 (g1 a) = 16 * q + p ∧ decide ((q + p) % 2 = 1) = xorT 8 a.testBit := by
  obtain ⟨h1, h2, h3, h4⟩ := g_facts a h
  exact ⟨h1, _, _, h2, h3, by omega, by rw [Nat.add_comm]; exact h4⟩
theorem nib_digs (a0 a1 b0 b1 c0 c1 d0 d1 e0 e1 f0 f1 g0 g1 h0 h1 : Nat) (a2 : a0 ≤ 4) (a3 : a1 ≤ 4) (b2 : b0 ≤ 4) (b3 : b1 ≤ 4) (c2 : c0 ≤ 4) (c3 : c1 ≤ 4) (d2 : d0 ≤ 4) (d3 : d1 ≤ 4) (e2 : e0 ≤ 4) (e3 : e1 ≤ 4) (f2 : f0 ≤ 4) (f3 : f1 ≤ 4) (g2 : g0 ≤ 4) (g3 : g1 ≤ 4) (h2 : h0 ≤ 4) (h3 : h1 ≤ 4) :
    nib (16 * a1 + a0 + 256 * (16 * b1 + b0 + 256 * (16 * c1 + c0 + 256 * (16 * d1 + d0 + 256 * (16 * e1 + e0 + 256 * (16 * f1 + f0 + 256 * (16 * g1 + g0 + 256 * (16 * h1 + h0 + 256 * 0)))))))) = (a1 + a0) + 256 * ((b1 + b0) + 256 * ((c1 + c0) + 256 * ((d1 + d0) + 256 * ((e1 + e0) + 256 * ((f1 + f0) + 256 * ((g1 + g0) + 256 * ((h1 + h0) + 256 * 0))))))) := by
  unfold nib
  have D : ∀ p q Y : Nat, p ≤ 4 → (16 * q + p + 256 * Y) / 16 = q + 16 * Y := by intro p q Y h; omega
  rw [D _ _ _ a2]
  have E2 : a1 + 16 * (16 * b1 + b0 + 256 * (16 * c1 + c0 + 256 * (16 * d1 + d0 + 256 * (16 * e1 + e0 + 256 * (16 * f1 + f0 + 256 * (16 * g1 + g0 + 256 * (16 * h1 + h0 + 256 * 0))))))) + (16 * a1 + a0 + 256 * (16 * b1 + b0 + 256 * (16 * c1 + c0 + 256 * (16 * d1 + d0 + 256 * (16 * e1 + e0 + 256 * (16 * f1 + f0 + 256 * (16 * g1 + g0 + 256 * (16 * h1 + h0 + 256 * 0))))))))
      = (16 * (a1 + b0) + (a1 + a0)) + 256 * ((16 * (b1 + c0) + (b1 + b0)) + 256 * ((16 * (c1 + d0) + (c1 + c0)) + 256 * ((16 * (d1 + e0) + (d1 + d0)) + 256 * ((16 * (e1 + f0) + (e1 + e0)) + 256 * ((16 * (f1 + g0) + (f1 + f0)) + 256 * ((16 * (g1 + h0) + (g1 + g0)) + 256 * ((16 * h1 + (h1 + h0)) + 256 * 0))))))) := by
    have Q : ∀ a1 a0 b1 b0 Y X : Nat, a1 + 16 * (16 * b1 + b0 + 256 * Y) + (16 * a1 + a0 + 256 * X) = (16 * (a1 + b0) + (a1 + a0)) + 256 * (b1 + 16 * Y + X) := by intro a1 a0 b1 b0 Y X; omega
    rw [Q, Q, Q, Q, Q, Q, Q]
    have L : h1 + 16 * 0 + (16 * h1 + h0 + 256 * 0) = 16 * h1 + (h1 + h0) + 256 * 0 := by omega
    rw [L]
  rw [E2, show (1085102592571150095 : Nat) = 15 + 256 * (15 + 256 * (15 + 256 * (15 + 256 * (15 + 256 * (15 + 256 * (15 + 256 * (15 + 256 * 0))))))) from rfl]
  clear E2 D
  have A := fun x y Y M (h : y ≤ 8) (hx : x ≤ 8) => and_dig (16 * x + y) 15 Y M (by omega) (by omega)
  rw [A _ _ _ _ (by omega) (by omega), A _ _ _ _ (by omega) (by omega), A _ _ _ _ (by omega) (by omega), A _ _ _ _ (by omega) (by omega), A _ _ _ _ (by omega) (by omega), A _ _ _ _ (by omega) (by omega), A _ _ _ _ (by omega) (by omega), A _ _ _ _ (by omega) (by omega)]
  have m : ∀ x y : Nat, y ≤ 8 → 16 * x + y &&& 15 = y := fun x y h => by rw [show (16 * x + y &&& 15) = (16 * x + y) % 16 from Nat.and_two_pow_sub_one_eq_mod _ 4]; omega
  rw [m _ (a1 + a0) (by omega), m _ (b1 + b0) (by omega), m _ (c1 + c0) (by omega), m _ (d1 + d0) (by omega), m _ (e1 + e0) (by omega), m _ (f1 + f0) (by omega), m _ (g1 + g0) (by omega), m _ (h1 + h0) (by omega), Nat.zero_and]
theorem fold_M : ∀ a b c d e f g h : Nat, a < 256 → b < 256 → c < 256 → d < 256 → e < 256 → f < 256 → g < 256 → h < 256 → (a + 256 * (b + 256 * (c + 256 * (d + 256 * (e + 256 * (f + 256 * (g + 256 * (h + 256 * 0)))))))) % 18446744073709551616 = a + 256 * (b + 256 * (c + 256 * (d + 256 * (e + 256 * (f + 256 * (g + 256 * (h + 256 * 0))))))) := by
    intro a b c d e f g h ha hb hc hd he hf hg hh
    have s7 : h + 256 * 0 ≤ 255 := by omega
    generalize h + 256 * 0 = t7 at *
    have s6 : g + 256 * t7 ≤ 65535 := by omega
    generalize g + 256 * t7 = t6 at *
    have s5 : f + 256 * t6 ≤ 16777215 := by omega
    generalize f + 256 * t6 = t5 at *
    have s4 : e + 256 * t5 ≤ 4294967295 := by omega
    generalize e + 256 * t5 = t4 at *
    have s3 : d + 256 * t4 ≤ 1099511627775 := by omega
    generalize d + 256 * t4 = t3 at *
    have s2 : c + 256 * t3 ≤ 281474976710655 := by omega
    generalize c + 256 * t3 = t2 at *
    have s1 : b + 256 * t2 ≤ 72057594037927935 := by omega
    generalize b + 256 * t2 = t1 at *
    exact Nat.mod_eq_of_lt (by omega)
theorem fold_D1 : ∀ x Y : Nat, x < 256 → (x + 256 * Y) / 256 = Y := by intro x Y h; omega
theorem fold_D2 : ∀ x x' Y : Nat, x < 256 → x' < 256 → (x + 256 * (x' + 256 * Y)) / 65536 = Y := by intro x x' Y h h'; omega
theorem fold_D4 : ∀ x x' x2 x3 Y : Nat, x < 256 → x' < 256 → x2 < 256 → x3 < 256 → (x + 256 * (x' + 256 * (x2 + 256 * (x3 + 256 * Y)))) / 4294967296 = Y := by intro x x' x2 x3 Y h h' i i'; omega
theorem fold_P : ∀ x y X Y : Nat, (x + 256 * X) + (y + 256 * Y) = (x + y) + 256 * (X + Y) := by intro x y X Y; omega
theorem fold_L : ∀ x Y : Nat, x < 128 → (x + 256 * Y) % 128 = x := by intro x Y h; omega
theorem fold8 (A B C D E F G H z u v : Nat) (bA : A ≤ 8) (bB : B ≤ 8) (bC : C ≤ 8) (bD : D ≤ 8) (bE : E ≤ 8) (bF : F ≤ 8) (bG : G ≤ 8) (bH : H ≤ 8) (y : Nat) (hy : y = A + 256 * (B + 256 * (C + 256 * (D + 256 * (E + 256 * (F + 256 * (G + 256 * (H + 256 * 0))))))))
    (h2 : z = (y + y / 256) % 18446744073709551616) (h3 : u = (z + z / 65536) % 18446744073709551616) (h4 : v = (u + u / 4294967296) % 18446744073709551616) : v % 128 = A + B + C + D + E + F + G + H := by
  have e2 : y / 256 = B + 256 * (C + 256 * (D + 256 * (E + 256 * (F + 256 * (G + 256 * (H + 256 * (0 + 256 * 0))))))) := by rw [hy, fold_D1 _ _ (by clear h2 h3 h4 hy; omega)]
  rw [e2, hy, fold_P, fold_P, fold_P, fold_P, fold_P, fold_P, fold_P, fold_P, fold_M _ _ _  _ _ _ _ _ (by clear h2 h3 h4 hy; omega) (by clear h2 h3 h4 hy; omega) (by clear h2 h3 h4 hy; omega) (by clear h2 h3 h4 hy; omega) (by clear h2 h3 h4 hy; omega) (by clear h2 h3 h4 hy; omega) (by clear h2 h3 h4 hy; omega) (by clear h2 h3 h4 hy; omega)] at h2
  have e3 : z / 65536 = C + D + 256 * (D + E + 256 * (E + F + 256 * (F + G + 256 * (G + H + 256 * (H + 0 + 256 * (0 + 256 * (0 + 256 * 0))))))) := by rw [h2, fold_D2 _ _ _ (by clear h2 h3 h4 hy; omega) (by clear h2 h3 h4 hy; omega)]
  rw [e3, h2, fold_P, fold_P, fold_P, fold_P, fold_P, fold_P, fold_P, fold_P, fold_M _ _ _  _ _ _ _ _ (by clear h2 h3 h4 hy; omega) (by clear h2 h3 h4 hy; omega) (by clear h2 h3 h4 hy; omega) (by clear h2 h3 h4 hy; omega) (by clear h2 h3 h4 hy; omega) (by clear h2 h3 h4 hy; omega) (by clear h2 h3 h4 hy; omega) (by clear h2 h3 h4 hy; omega)] at h3
  have e4 : u / 4294967296 = E + F + (G + H) + 256 * (F + G + (H + 0) + 256 * (G + H + 0 + 256 * (H + 0 + 0 + 256 * (0 + 256 * (0 + 256 * (0 + 256 * (0 + 256 * 0))))))) := by rw [h3, fold_D4 _ _ _ _ _ (by clear h2 h3 h4 hy; omega) (by clear h2 h3 h4 hy; omega) (by clear h2 h3 h4 hy; omega) (by clear h2 h3 h4 hy; omega)]
  rw [e4, h3, fold_P, fold_P, fold_P, fold_P, fold_P, fold_P, fold_P, fold_P, fold_M _ _ _  _ _ _ _ _ (by clear h2 h3 h4 hy; omega) (by clear h2 h3 h4 hy; omega) (by clear h2 h3 h4 hy; omega) (by clear h2 h3 h4 hy; omega) (by clear h2 h3 h4 hy; omega) (by clear h2 h3 h4 hy; omega) (by clear h2 h3 h4 hy; omega) (by clear h2 h3 h4 hy; omega)] at h4
  rw [h4, fold_L _ _ (by clear h2 h3 h4 hy e2 e3 e4; omega)]
  clear h2 h3 h4 hy e2 e3 e4
  omega
/-- how math/bits counts the bits of a word -/
theorem swar_odd (x y z u v : Nat) (hx : x < 18446744073709551616) (hy1 : y = nib (sw2 (sw1 x))) (hy2 : z = (y + y / 256) % 18446744073709551616) (hy3 : u = (z + z / 65536) % 18446744073709551616) (hy4 : v = (u + u / 4294967296) % 18446744073709551616) : v % 128 ≤ 64 ∧ decide (v % 128 % 2 = 1) = oddN x := by
  obtain ⟨a, b, c, d, e, f, g, h, hA, hE, rfl⟩ := digs x hx
  obtain ⟨ha, hb, hc, hd⟩ := hA
  obtain ⟨he, hf, hg, hh⟩ := hE
  obtain ⟨pa, a0, a1, qa, ra, ea, ta⟩ := g_facts' a ha
  obtain ⟨pb, b0, b1, qb, rb, eb, tb⟩ := g_facts' b hb
  obtain ⟨pc, c0, c1, qc, rc, ec, tc⟩ := g_facts' c hc
  obtain ⟨pd, d0, d1, qd, rd, ed, td⟩ := g_facts' d hd
  obtain ⟨pe, e0, e1, qe, re, ee, te⟩ := g_facts' e he
  obtain ⟨pf, f0, f1, qf, rf, ef, tf⟩ := g_facts' f hf
  obtain ⟨pg, g0, g1, qg, rg, eg, tg⟩ := g_facts' g hg
  obtain ⟨ph, h0, h1, qh, rh, eh, th⟩ := g_facts' h hh
  rw [sw1_digs a b c d e f g h ⟨ha, hb, hc, hd⟩ ⟨he, hf, hg, hh⟩, sw2_digs _ _ _ _ _ _ _ _ ⟨pa, pb, pc, pd⟩ ⟨pe, pf, pg, ph⟩, ea, eb, ec, ed, ee, ef, eg, eh, nib_digs _ _ _ _ _ _ _ _ _ _ _ _ _ _ _ _ qa ra qb rb qc rc qd rd qe re qf rf qg rg qh rh] at hy1
  have O : oddN (a + 256 * (b + 256 * (c + 256 * (d + 256 * (e + 256 * (f + 256 * (g + 256 * (h + 256 * 0)))))))) = (xorT 8 a.testBit ^^ (xorT 8 b.testBit ^^ (xorT 8 c.testBit ^^ (xorT 8 d.testBit ^^ (xorT 8 e.testBit ^^ (xorT 8 f.testBit ^^ (xorT 8 g.testBit ^^ xorT 8 h.testBit))))))) := by
    have S : ∀ n a y, a < 256 → xorT (8 + n) (a + 256 * y).testBit = (xorT 8 a.testBit ^^ xorT n y.testBit) := by
      intro n a y ha
      rw [xorT_add]
      congr 1
      · exact xorT_congr fun k hk => by rw [Lw.tb _ _ _ ha, if_pos hk]
      · exact xorT_congr fun k _ => by rw [Lw.tb _ _ _ ha, if_neg (by omega), show 8 + k - 8 = k by omega]
    unfold oddN
    rw [show (64 : Nat) = 8 + (8 + (8 + (8 + (8 + (8 + (8 + (8 + 0))))))) from rfl, S _ _ _ ha, S _ _ _ hb, S _ _ _ hc, S _ _ _ hd, S _ _ _ he, S _ _ _ hf, S _ _ _ hg, S _ _ _ hh]
    simp [xorT]
  rw [O, ← ta, ← tb, ← tc, ← td, ← te, ← tf, ← tg, ← th]
  clear O ta tb tc td te tf tg th pa pb pc pd pe pf pg ph ha hb hc hd he hf hg hh ea eb ec ed ee ef eg eh hx
  obtain ⟨A, eA⟩ : ∃ A, a1 + a0 = A := ⟨_, rfl⟩
  obtain ⟨B, eB⟩ : ∃ A, b1 + b0 = A := ⟨_, rfl⟩
  obtain ⟨C, eC⟩ : ∃ A, c1 + c0 = A := ⟨_, rfl⟩
  obtain ⟨D, eD⟩ : ∃ A, d1 + d0 = A := ⟨_, rfl⟩
  obtain ⟨E, eE⟩ : ∃ A, e1 + e0 = A := ⟨_, rfl⟩
  obtain ⟨F, eF⟩ : ∃ A, f1 + f0 = A := ⟨_, rfl⟩
  obtain ⟨G, eG⟩ : ∃ A, g1 + g0 = A := ⟨_, rfl⟩
  obtain ⟨H, eH⟩ : ∃ A, h1 + h0 = A := ⟨_, rfl⟩
  have bA : A ≤ 8 := eA ▸ Nat.add_le_add ra qa
  have bB : B ≤ 8 := eB ▸ Nat.add_le_add rb qb
  have bC : C ≤ 8 := eC ▸ Nat.add_le_add rc qc
  have bD : D ≤ 8 := eD ▸ Nat.add_le_add rd qd
  have bE : E ≤ 8 := eE ▸ Nat.add_le_add re qe
  have bF : F ≤ 8 := eF ▸ Nat.add_le_add rf qf
  have bG : G ≤ 8 := eG ▸ Nat.add_le_add rg qg
  have bH : H ≤ 8 := eH ▸ Nat.add_le_add rh qh
  rw [eA, eB, eC, eD, eE, eF, eG, eH] at hy1
  rw [eA, eB, eC, eD, eE, eF, eG, eH]
  clear eA eB eC eD eE eF eG eH qa ra qb rb qc rc qd rd qe re qf rf qg rg qh rh
  have v2 := fold8 A B C D E F G H z u v bA bB bC bD bE bF bG bH y hy1 hy2 hy3 hy4
  clear hy1 hy2 hy3 hy4
  rw [v2]
  clear v2
  refine ⟨by omega, ?_⟩
  have X : ∀ m n : Nat, (decide (m % 2 = 1) ^^ decide (n % 2 = 1)) = decide ((m + n) % 2 = 1) := by
    intro m n
    rcases Nat.mod_two_eq_zero_or_one m with h | h <;> rcases Nat.mod_two_eq_zero_or_one n with h' | h' <;> simp [h, h', Nat.add_mod]
  simp only [X]
  congr 2
  omega
end Lw
