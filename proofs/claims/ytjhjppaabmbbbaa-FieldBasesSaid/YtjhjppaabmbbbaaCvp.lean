/- Sequences with Cauchy's product; what is the same modulo a prime and a polynomial (plain). -/
import Derived.Test.YtjhjppaabmbbbaaJac
namespace Lw
/-- Cauchy's product -/
def cv : Nat → (Nat → Int) → (Nat → Int) → Int
  | 0, a, b => a 0 * b 0
  | n + 1, a, b => a 0 * b (n + 1) + cv n (fun i => a (i + 1)) b
theorem cv_zero_l (b : Nat → Int) : ∀ n (a : Nat → Int), (∀ i, a i = 0) → cv n a b = 0
  | 0, a, h => by show a 0 * b 0 = 0; rw [h]; omega
  | n + 1, a, h => by show a 0 * b (n + 1) + cv n _ b = 0; rw [h, cv_zero_l b n _ (fun i => h (i + 1))]; omega
theorem cv_add_l (b : Nat → Int) : ∀ n (a c : Nat → Int), cv n (fun i => a i + c i) b = cv n a b + cv n c b
  | 0, a, c => by show (a 0 + c 0) * b 0 = _ + _; rw [Int.add_mul]; rfl
  | n + 1, a, c => by
    show (a 0 + c 0) * b (n + 1) + cv n (fun i => a (i + 1) + c (i + 1)) b = (a 0 * b (n + 1) + cv n _ b) + (c 0 * b (n + 1) + cv n _ b)
    rw [cv_add_l b n (fun i => a (i + 1)) (fun i => c (i + 1)), Int.add_mul]; omega
theorem cv_mul_l (k : Int) (b : Nat → Int) : ∀ n (a : Nat → Int), cv n (fun i => k * a i) b = k * cv n a b
  | 0, a => by show k * a 0 * b 0 = k * (a 0 * b 0); rw [Int.mul_assoc]
  | n + 1, a => by
    show k * a 0 * b (n + 1) + cv n (fun i => k * a (i + 1)) b = k * (a 0 * b (n + 1) + cv n _ b)
    rw [cv_mul_l k b n (fun i => a (i + 1)), Int.mul_assoc, Int.mul_add]
theorem cv_right (b : Nat → Int) : ∀ n (a : Nat → Int), cv (n + 1) a b = cv n a (fun i => b (i + 1)) + a (n + 1) * b 0
  | 0, a => by show a 0 * b 1 + a 1 * b 0 = a 0 * b 1 + a 1 * b 0; rfl
  | n + 1, a => by
    show a 0 * b (n + 2) + cv (n + 1) (fun i => a (i + 1)) b = (a 0 * b (n + 2) + cv n (fun i => a (i + 1)) (fun i => b (i + 1))) + a (n + 2) * b 0
    rw [cv_right b n (fun i => a (i + 1)), show n + 1 + 1 = n + 2 from rfl]; omega
theorem cv_comm : ∀ n (a b : Nat → Int), cv n a b = cv n b a
  | 0, a, b => by show a 0 * b 0 = b 0 * a 0; rw [Int.mul_comm]
  | n + 1, a, b => by
    rw [cv_right a n b]
    show a 0 * b (n + 1) + cv n (fun i => a (i + 1)) b = _
    rw [cv_comm n (fun i => a (i + 1)) b, Int.mul_comm]; omega
theorem cv_add_r (n : Nat) (a b c : Nat → Int) : cv n a (fun i => b i + c i) = cv n a b + cv n a c := by
  rw [cv_comm, cv_add_l, cv_comm n b, cv_comm n c]
theorem cv_mul_r (n : Nat) (k : Int) (a b : Nat → Int) : cv n a (fun i => k * b i) = k * cv n a b := by
  rw [cv_comm, cv_mul_l, cv_comm n b]
theorem cv_assoc (c : Nat → Int) : ∀ n (a b : Nat → Int), cv n (fun i => cv i a b) c = cv n a (fun i => cv i b c)
  | 0, a, b => by show a 0 * b 0 * c 0 = a 0 * (b 0 * c 0); rw [Int.mul_assoc]
  | n + 1, a, b => by
    show a 0 * b 0 * c (n + 1) + cv n (fun i => a 0 * b (i + 1) + cv i (fun j => a (j + 1)) b) c = a 0 * (b 0 * c (n + 1) + cv n (fun i => b (i + 1)) c) + cv n (fun i => a (i + 1)) (fun i => cv i b c)
    rw [cv_add_l, cv_mul_l, cv_assoc c n (fun i => a (i + 1)) b, Int.mul_add, Int.mul_assoc]; omega
theorem cv_neg_l (n : Nat) (a b : Nat → Int) : cv n (fun i => -a i) b = -cv n a b := by
  have := cv_mul_l (-1) b n a
  rw [show (fun i => -1 * a i) = fun i => -a i from funext fun i => by omega] at this
  rw [this]; omega
theorem cv_sub_l (n : Nat) (a c b : Nat → Int) : cv n (fun i => a i - c i) b = cv n a b - cv n c b := by
  have := cv_add_l b n a (fun i => -c i)
  rw [cv_neg_l] at this
  rw [show (fun i => a i - c i) = fun i => a i + -c i from funext fun i => by omega, this]; omega
theorem cv_sub_r (n : Nat) (a b c : Nat → Int) : cv n a (fun i => b i - c i) = cv n a b - cv n a c := by
  rw [cv_comm, cv_sub_l, cv_comm n b, cv_comm n c]
theorem cv_dvd {p : Int} (b : Nat → Int) : ∀ n (a : Nat → Int), (∀ i, i ≤ n → p ∣ a i) → p ∣ cv n a b
  | 0, a, h => Int.dvd_mul_of_dvd_left (h 0 (Nat.le_refl _))
  | n + 1, a, h => Int.dvd_add (Int.dvd_mul_of_dvd_left (h 0 (Nat.zero_le _))) (cv_dvd b n _ (fun i hi => h (i + 1) (by omega)))
/-- from some place on all 0 -/
def Fs (N : Nat) (a : Nat → Int) : Prop := ∀ i, N ≤ i → a i = 0
theorem Fs.mono {N M : Nat} {a : Nat → Int} (h : Fs N a) (hm : N ≤ M) : Fs M a := fun i hi => h i (by omega)
theorem Fs.zero : Fs 0 (fun _ => 0) := fun _ _ => rfl
theorem Fs.add {N M : Nat} {a b : Nat → Int} (h : Fs N a) (h' : Fs M b) : Fs (N + M) (fun i => a i + b i) := fun i hi => by show a i + b i = 0; rw [h i (by omega), h' i (by omega)]; rfl
theorem Fs.sub {N M : Nat} {a b : Nat → Int} (h : Fs N a) (h' : Fs M b) : Fs (N + M) (fun i => a i - b i) := fun i hi => by show a i - b i = 0; rw [h i (by omega), h' i (by omega)]; rfl
theorem Fs.sub' {N : Nat} {a b : Nat → Int} (h : Fs N a) (h' : Fs N b) : Fs N (fun i => a i - b i) := fun i hi => by show a i - b i = 0; rw [h i hi, h' i hi]; rfl
theorem Fs.scale {N : Nat} {a : Nat → Int} (h : Fs N a) (k : Int) : Fs N (fun i => k * a i) := fun i hi => by show k * a i = 0; rw [h i hi]; omega
theorem cv_far {b : Nat → Int} {M : Nat} (hb : Fs M b) : ∀ n N (a : Nat → Int), Fs N a → N + M ≤ n + 1 → cv n a b = 0
  | 0, N, a, ha, h => by
    show a 0 * b 0 = 0
    rcases Nat.eq_zero_or_pos N with h0 | h0
    · rw [ha 0 (by omega)]; omega
    · rw [hb 0 (by omega)]; omega
  | n + 1, N, a, ha, h => by
    rcases Nat.eq_zero_or_pos N with h0 | h0
    · exact cv_zero_l b (n + 1) a (fun i => ha i (by omega))
    · show a 0 * b (n + 1) + cv n (fun i => a (i + 1)) b = 0
      rw [hb (n + 1) (by omega), cv_far hb n (N - 1) _ (fun i hi => ha (i + 1) (by omega)) (by omega)]; omega
theorem Fs.cv {N M : Nat} {a b : Nat → Int} (h : Fs N a) (h' : Fs M b) : Fs (N + M) (fun i => cv i a b) := fun i hi => cv_far h' i N a h (by omega)
theorem cv_top {b : Nat → Int} {M : Nat} (hb : Fs (M + 1) b) : ∀ N (a : Nat → Int), Fs (N + 1) a → Lw.cv (N + M) a b = a N * b M
  | 0, a, ha => by
    rw [Nat.zero_add]
    cases M with
    | zero => rfl
    | succ M =>
      show a 0 * b (M + 1) + Lw.cv M (fun i => a (i + 1)) b = _
      rw [cv_zero_l b M _ (fun i => ha (i + 1) (by omega))]; omega
  | N + 1, a, ha => by
    rw [show N + 1 + M = (N + M) + 1 by omega]
    show a 0 * b (N + M + 1) + Lw.cv (N + M) (fun i => a (i + 1)) b = _
    rw [hb _ (by omega), cv_top hb N _ (fun i hi => ha (i + 1) (by omega))]; omega
/-- one place -/
def mono (k : Nat) (c : Int) : Nat → Int := fun i => if i = k then c else 0
theorem mono_fs (k : Nat) (c : Int) : Fs (k + 1) (mono k c) := fun i hi => if_neg (by omega)
theorem cv_mono (b : Nat → Int) (c : Int) : ∀ n k, cv n (mono k c) b = c * (if k ≤ n then b (n - k) else 0)
  | 0, 0 => rfl
  | 0, k + 1 => by show (if 0 = k + 1 then c else 0) * b 0 = _; rw [if_neg (by omega), if_neg (by omega)]; omega
  | n + 1, 0 => by
    show (if 0 = 0 then c else 0) * b (n + 1) + cv n (fun i => mono 0 c (i + 1)) b = _
    rw [if_pos rfl, if_pos (Nat.zero_le _), cv_zero_l b n (fun i => mono 0 c (i + 1)) (fun i => if_neg (by omega))]; simp
  | n + 1, k + 1 => by
    show (if 0 = k + 1 then c else 0) * b (n + 1) + cv n (fun i => mono (k + 1) c (i + 1)) b = _
    rw [if_neg (by omega), show (fun i => mono (k + 1) c (i + 1)) = mono k c from funext fun i => by unfold mono; simp, cv_mono b c n k]
    by_cases h : k ≤ n
    · rw [if_pos h, if_pos (by omega), show n + 1 - (k + 1) = n - k by omega]; omega
    · rw [if_neg h, if_neg (by omega)]; omega
def one1' : Nat → Int := mono 0 1
theorem cv_one (n : Nat) (b : Nat → Int) : cv n one1' b = b n := by
  unfold one1'; rw [cv_mono, if_pos (Nat.zero_le _), Nat.sub_zero, Int.one_mul]
/-- b divided by a, whose top may be inverted -/
theorem fs_div {p : Int} {a : Nat → Int} {m : Nat} (ha : Fs (m + 1) a) {u : Int} (hu : p ∣ u * a m - 1) : ∀ N (b : Nat → Int), Fs N b → ∃ q r M, Fs M q ∧ Fs m r ∧ ∀ i, p ∣ b i - cv i q a - r i
  | N, b, hb => by
    by_cases h : N ≤ m
    · exact ⟨fun _ => 0, b, 0, Fs.zero, hb.mono h, fun i => by rw [cv_zero_l a i _ (fun _ => rfl)]; exact ⟨0, by omega⟩⟩
    · obtain ⟨N', rfl⟩ : ∃ n, N = n + 1 := ⟨N - 1, by omega⟩
      let b' : Nat → Int := fun i => if i < N' then b i - u * b N' * (if N' - m ≤ i then a (i - (N' - m)) else 0) else 0
      obtain ⟨q, r, M, hq, hr, hd⟩ := fs_div ha hu N' b' (fun i hi => if_neg (by omega))
      refine ⟨fun i => q i + mono (N' - m) (u * b N') i, r, M + (N' - m + 1), hq.add (mono_fs _ _), hr, fun i => ?_⟩
      rw [cv_add_l, cv_mono]
      have h2 := hd i
      by_cases hi : i < N'
      · have e : b' i = b i - u * b N' * (if N' - m ≤ i then a (i - (N' - m)) else 0) := if_pos hi
        rw [e] at h2
        obtain ⟨z, hz⟩ := h2
        exact ⟨z, by omega⟩
      · have e : b' i = 0 := if_neg hi
        rw [e] at h2
        by_cases hi2 : i = N'
        · subst hi2
          rw [if_pos (by omega), show i - (i - m) = m by omega]
          obtain ⟨z, hz⟩ := h2
          obtain ⟨y, hy⟩ := hu
          refine ⟨z - y * b i, ?_⟩
          have : u * b i * a m = b i * (u * a m - 1) + b i := by grind
          rw [this, hy]
          have h3 : p * (z - y * b i) = p * z - b i * (p * y) := by grind
          rw [h3, ← hz]; omega
        · rw [hb i (by omega)]
          have : (if i - (i - m) ≤ i then a (i - (i - m)) else 0) = a m ∨ True := .inr trivial
          have e2 : (if N' - m ≤ i then a (i - (N' - m)) else 0) = 0 := by
            split
            · exact ha _ (by omega)
            · rfl
          rw [e2]
          obtain ⟨z, hz⟩ := h2
          exact ⟨z, by omega⟩
/-- nothing short is a multiple -/
theorem fs_rest {p : Int} {f : Nat → Int} {d : Nat} (hf : Fs (d + 1) f) (hc : ∀ x, p ∣ x * f d → p ∣ x) : ∀ N (q r : Nat → Int), Fs N q → Fs d r → (∀ i, p ∣ r i - cv i q f) → (∀ i, p ∣ q i) ∧ ∀ i, p ∣ r i
  | 0, q, r, hq, hr, h => ⟨fun i => by rw [hq i (by omega)]; exact ⟨0, by omega⟩, fun i => by
      have h1 := h i
      rw [cv_zero_l f i q (fun j => hq j (by omega))] at h1
      simpa using h1⟩
  | N + 1, q, r, hq, hr, h => by
    have h1 := h (N + d)
    rw [hr _ (by omega), cv_top hf N q hq] at h1
    have h2 := hc (q N) (by obtain ⟨z, hz⟩ := h1; exact ⟨-z, by rw [Int.mul_neg]; omega⟩)
    have e : ∀ i, cv i q f = cv i (fun j => if j < N then q j else 0) f + cv i (mono N (q N)) f := fun i => by
      rw [← cv_add_l]
      congr 1
      funext j
      unfold mono
      by_cases h3 : j < N
      · rw [if_pos h3, if_neg (by omega)]; omega
      · by_cases h4 : j = N
        · rw [if_neg h3, if_pos h4, h4]; omega
        · rw [if_neg h3, if_neg h4, hq j (by omega)]; rfl
    obtain ⟨h3, h4⟩ := fs_rest hf hc N (fun j => if j < N then q j else 0) r (fun i hi => if_neg (by omega)) hr (fun i => by
      have h5 := h i
      rw [e i] at h5
      have h6 : p ∣ cv i (mono N (q N)) f := cv_dvd f i _ (fun j _ => by
        unfold mono; split
        · exact h2
        · exact ⟨0, by omega⟩)
      obtain ⟨y, hy⟩ := h5
      obtain ⟨z, hz⟩ := h6
      exact ⟨y + z, by rw [Int.mul_add, ← hy, ← hz]; omega⟩)
    refine ⟨fun i => ?_, h4⟩
    by_cases hi : i < N
    · have := h3 i; rwa [if_pos hi] at this
    · by_cases h5 : i = N
      · rw [h5]; exact h2
      · rw [hq i (by omega)]; exact ⟨0, by omega⟩
/-- the same modulo p and f -/
def Eqf (p : Int) (f a b : Nat → Int) : Prop := ∃ q N, Fs N q ∧ ∀ i, p ∣ a i - b i - cv i q f
theorem Eqf.of_mod {p : Int} {f a b : Nat → Int} (h : ∀ i, p ∣ a i - b i) : Eqf p f a b := ⟨fun _ => 0, 0, Fs.zero, fun i => by rw [cv_zero_l f i _ (fun _ => rfl)]; simpa using h i⟩
theorem Eqf.refl (p : Int) (f a : Nat → Int) : Eqf p f a a := .of_mod fun i => ⟨0, by omega⟩
theorem Eqf.symm {p : Int} {f a b : Nat → Int} (h : Eqf p f a b) : Eqf p f b a := by
  obtain ⟨q, N, hq, h⟩ := h
  refine ⟨fun i => -q i, N, fun i hi => by show -q i = 0; rw [hq i hi]; rfl, fun i => ?_⟩
  rw [cv_neg_l]
  obtain ⟨z, hz⟩ := h i
  exact ⟨-z, by rw [Int.mul_neg, ← hz]; omega⟩
theorem Eqf.trans {p : Int} {f a b c : Nat → Int} (h : Eqf p f a b) (h' : Eqf p f b c) : Eqf p f a c := by
  obtain ⟨q, N, hq, h⟩ := h
  obtain ⟨q', N', hq', h'⟩ := h'
  refine ⟨_, _, hq.add hq', fun i => ?_⟩
  rw [cv_add_l]
  obtain ⟨z, hz⟩ := h i
  obtain ⟨y, hy⟩ := h' i
  exact ⟨z + y, by rw [Int.mul_add, ← hz, ← hy]; omega⟩
theorem Eqf.add {p : Int} {f a b c d : Nat → Int} (h : Eqf p f a b) (h' : Eqf p f c d) : Eqf p f (fun i => a i + c i) (fun i => b i + d i) := by
  obtain ⟨q, N, hq, h⟩ := h
  obtain ⟨q', N', hq', h'⟩ := h'
  refine ⟨_, _, hq.add hq', fun i => ?_⟩
  rw [cv_add_l]
  obtain ⟨z, hz⟩ := h i
  obtain ⟨y, hy⟩ := h' i
  exact ⟨z + y, by rw [Int.mul_add, ← hz, ← hy]; show a i + c i - (b i + d i) - _ = _; omega⟩
theorem Eqf.sub {p : Int} {f a b c d : Nat → Int} (h : Eqf p f a b) (h' : Eqf p f c d) : Eqf p f (fun i => a i - c i) (fun i => b i - d i) := by
  obtain ⟨q, N, hq, h⟩ := h
  obtain ⟨q', N', hq', h'⟩ := h'
  refine ⟨_, _, hq.sub hq', fun i => ?_⟩
  rw [cv_sub_l]
  obtain ⟨z, hz⟩ := h i
  obtain ⟨y, hy⟩ := h' i
  exact ⟨z - y, by rw [Int.mul_sub, ← hz, ← hy]; show a i - c i - (b i - d i) - _ = _; omega⟩
theorem Eqf.mul_r {p : Int} {f a b c : Nat → Int} {M : Nat} (hc : Fs M c) (h : Eqf p f a b) : Eqf p f (fun i => cv i a c) (fun i => cv i b c) := by
  obtain ⟨q, N, hq, h⟩ := h
  refine ⟨fun i => cv i q c, _, hq.cv hc, fun i => ?_⟩
  have e : cv i (fun j => cv j q c) f = cv i (fun j => cv j q f) c := by
    rw [cv_assoc, cv_assoc]; congr 1; funext j; exact cv_comm j c f
  rw [e, ← cv_sub_l, ← cv_sub_l]
  exact cv_dvd c i _ (fun j _ => h j)
theorem Eqf.mul {p : Int} {f a b c d : Nat → Int} {M N : Nat} (hc : Fs M c) (hb : Fs N b) (h : Eqf p f a b) (h' : Eqf p f c d) : Eqf p f (fun i => cv i a c) (fun i => cv i b d) := by
  refine (h.mul_r hc).trans ?_
  have := h'.mul_r hb
  rw [show (fun i => cv i c b) = fun i => cv i b c from funext fun i => cv_comm i c b, show (fun i => cv i d b) = fun i => cv i b d from funext fun i => cv_comm i d b] at this
  exact this
end Lw
