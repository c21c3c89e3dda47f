/-
  Plain lemmas on powers and remainders of integers. No program is in sight.
  Plain lemmas on prime factors of natural numbers: the least factor, how often a factor divides, the list of factors.
  Plain lemmas: a polynomial has no more roots by a prime than its degree.
  Plain lemmas on the greatest common divisor: Euclid's steps with signs, and by halves and differences.
  Plain lemmas: powers of members of a group of prime order, with exponents by that order.
  Plain lemmas: what two commitments, and two answers, tell.
-/
set_option linter.unusedVariables false
set_option linter.unusedSimpArgs false
namespace Lw
theorem emod_bd (a m : Int) (hm : 0 < m) : 0 ≤ a % m ∧ a % m < m := ⟨Int.emod_nonneg _ (by omega), Int.emod_lt_of_pos _ hm⟩
theorem tmod_bd (a m : Int) (hm : 0 < m) : -m < a.tmod m ∧ a.tmod m < m := by
  refine ⟨?_, Int.tmod_lt_of_pos _ hm⟩
  have h := Int.tmod_lt_of_pos (-a) hm
  rw [Int.neg_tmod] at h
  omega
theorem tmod_emod (a m : Int) : a.tmod m % m = a % m := by
  have h := Int.mul_tdiv_add_tmod a m
  conv => rhs; rw [← h]
  rw [Int.mul_add_emod_self_left]
theorem mod_prog (a m : Int) (hm : 0 < m) : (a.tmod m + m) % m = a % m := by
  rw [Int.add_emod_right, tmod_emod]
theorem mod_ref_neg (a m : Int) (hm : 0 < m) (h : a.tmod m < 0) : a.tmod m + m = a % m := by
  have h1 := tmod_bd a m hm
  rw [← mod_prog a m hm, Int.emod_eq_of_lt (by omega) (by omega)]
theorem mod_ref_pos (a m : Int) (hm : 0 < m) (h : ¬ a.tmod m < 0) : a.tmod m = a % m := by
  have h1 := tmod_bd a m hm
  rw [← tmod_emod a m, Int.emod_eq_of_lt (by omega) (by omega)]

/-- What is left of a power. -/
def pw (a k m : Int) : Int := a ^ k.toNat % m
theorem pw_bd (a k m : Int) (hm : 0 < m) : 0 ≤ pw a k m ∧ pw a k m < m := emod_bd _ _ hm
theorem pw_zero (a m : Int) : pw a 0 m = 1 % m := by simp [pw]
theorem pw_add (a : Int) (i j m : Int) (hi : 0 ≤ i) (hj : 0 ≤ j) : pw a (i + j) m = pw a i m * pw a j m % m := by
  unfold pw
  rw [show (i + j).toNat = i.toNat + j.toNat from by omega, Int.pow_add, Int.mul_emod]
theorem pw_one (a m : Int) : pw a 1 m = a % m := by
  unfold pw; rw [show (1 : Int).toNat = 1 from rfl, show a ^ 1 = a from by rw [Int.pow_succ]; simp]
theorem pw_even (a k m : Int) (hk : 0 ≤ k) (h : ¬ k % 2 = 1) : pw a k m = pw a (k / 2) m * pw a (k / 2) m % m := by
  rw [← pw_add a _ _ m (by omega) (by omega), show k / 2 + k / 2 = k from by omega]
theorem pw_odd (a k m : Int) (hk : 0 ≤ k) (h : k % 2 = 1) : pw a k m = pw a (k / 2) m * pw a (k / 2) m % m * (a % m) % m := by
  have e := pw_add a (k / 2 + k / 2) 1 m (by omega) (by omega)
  rw [pw_one, show k / 2 + k / 2 + 1 = k from by omega] at e
  rw [← pw_add a _ _ m (by omega) (by omega), e]
theorem pw_emod (a k m : Int) : pw (a % m) k m = pw a k m := by
  unfold pw
  generalize k.toNat = n
  induction n with
  | zero => simp
  | succ n ih => rw [Int.pow_succ, Int.pow_succ, Int.mul_emod, ih, Int.emod_emod, ← Int.mul_emod]
/-- The loop of the program's power: x times the power that is left. -/
theorem pw_step_odd (x a k m : Int) (hk : 0 < k) (h : k % 2 = 1) : (x * a % m) * (a * a % m) ^ (k / 2).toNat % m = x * a ^ k.toNat % m := by
  have e : (a * a % m) ^ (k / 2).toNat % m = (a * a) ^ (k / 2).toNat % m := pw_emod (a * a) (k / 2) m
  rw [Int.mul_emod, e, Int.emod_emod, ← Int.mul_emod]
  have h2 : a ^ k.toNat = a * (a * a) ^ (k / 2).toNat := by
    rw [show k.toNat = (k / 2).toNat + (k / 2).toNat + 1 from by omega, Int.pow_succ, Int.pow_add, Int.mul_pow]
    rw [Int.mul_comm]
  rw [h2, Int.mul_assoc]
theorem pw_step_even (x a k m : Int) (hk : 0 < k) (h : ¬ k % 2 = 1) : x * (a * a % m) ^ (k / 2).toNat % m = x * a ^ k.toNat % m := by
  have e : (a * a % m) ^ (k / 2).toNat % m = (a * a) ^ (k / 2).toNat % m := pw_emod (a * a) (k / 2) m
  rw [Int.mul_emod, e, ← Int.mul_emod]
  have h2 : a ^ k.toNat = (a * a) ^ (k / 2).toNat := by
    rw [show k.toNat = (k / 2).toNat + (k / 2).toNat from by omega, Int.pow_add, Int.mul_pow]
  rw [h2]
theorem mul_bd (a b m : Int) (ha : 0 ≤ a) (ha' : a < m) (hb : 0 ≤ b) (hb' : b < m) : 0 ≤ a * b ∧ a * b < m * m := by
  refine ⟨Int.mul_nonneg ha hb, ?_⟩
  have h1 : a * b ≤ a * m := Int.mul_le_mul_of_nonneg_left (by omega) ha
  have h2 : a * m < m * m := Int.mul_lt_mul_of_pos_right ha' (by omega)
  omega
theorem mul_bd' (a b B : Int) (ha : 0 ≤ a) (ha' : a ≤ B) (hb : 0 ≤ b) (hb' : b ≤ B) : 0 ≤ a * b ∧ a * b ≤ B * B := by
  refine ⟨Int.mul_nonneg ha hb, ?_⟩
  exact Int.mul_le_mul ha' hb' hb (by omega)
end Lw
set_option linter.unusedVariables false
set_option linter.unusedSimpArgs false
namespace Lw
/-- the least divisor from 2 on -/
def minFac (n : Nat) : Nat := ((List.range' 2 (n - 1)).find? (fun d => decide (n % d = 0))).getD n
theorem minFac_spec {n : Nat} (h : 2 ≤ n) : 2 ≤ minFac n ∧ minFac n ∣ n ∧ ∀ d, 2 ≤ d → d ∣ n → minFac n ≤ d := by
  unfold minFac
  cases hf : (List.range' 2 (n - 1)).find? (fun d => decide (n % d = 0)) with
  | none =>
    have := List.find?_eq_none.1 hf n (by simp; omega)
    simp at this
  | some d =>
    have h1 := List.find?_some hf
    have h2 := List.mem_of_find?_eq_some hf
    simp at h1 h2
    refine ⟨by simp; omega, Nat.dvd_of_mod_eq_zero (by simpa using h1), fun e he hd => ?_⟩
    simp only [Option.getD_some]
    rw [List.find?_eq_some_iff_append] at hf
    obtain ⟨_, as, bs, hab, hno⟩ := hf
    by_cases hle : d ≤ e
    · exact hle
    · exfalso
      have hen : e ≤ n := Nat.le_of_dvd (by omega) hd
      have hmem : e ∈ List.range' 2 (n - 1) := by simp; omega
      have hs : (List.range' 2 (n - 1)).Pairwise (· < ·) := List.pairwise_lt_range'
      rw [hab] at hmem hs
      rcases List.mem_append.1 hmem with hm | hm
      · have := hno e hm
        simp [Nat.mod_eq_zero_of_dvd hd] at this
      · rcases List.mem_cons.1 hm with rfl | hm
        · omega
        · have := (List.pairwise_append.1 hs).2.1
          have := (List.pairwise_cons.1 this).1 e hm
          omega
theorem minFac_le {n d : Nat} (h : 2 ≤ n) (hd : 2 ≤ d) (hdn : d ∣ n) : minFac n ≤ d := (minFac_spec h).2.2 d hd hdn
theorem minFac_eq {n p : Nat} (h : 2 ≤ n) (hp : 2 ≤ p) (hpn : p ∣ n) (hl : ∀ d, 2 ≤ d → d ∣ n → p ≤ d) : minFac n = p := by
  obtain ⟨h1, h2, h3⟩ := minFac_spec h
  have := h3 p hp hpn
  have := hl _ h1 h2
  omega
/-- a number with no divisor from 2 to its root on is its own least divisor -/
theorem minFac_self {n p : Nat} (h : 2 ≤ n) (hl : ∀ d, 2 ≤ d → d ∣ n → p ≤ d) (hp : n < p * p) : minFac n = n := by
  obtain ⟨h1, ⟨e, he⟩, h3⟩ := minFac_spec h
  have hm := hl _ h1 ⟨e, he⟩
  by_cases h2 : 2 ≤ e
  · exfalso
    have h4 := hl e h2 ⟨minFac n, by rw [Nat.mul_comm]; exact he⟩
    have : p * p ≤ minFac n * e := Nat.mul_le_mul hm h4
    omega
  · have : e ≠ 0 := by intro e0; rw [e0] at he; omega
    have : e = 1 := by omega
    rw [this] at he
    omega
def Prime (p : Nat) : Prop := 2 ≤ p ∧ minFac p = p
instance (p : Nat) : Decidable (Prime p) := inferInstanceAs (Decidable (_ ∧ _))
theorem Prime.dvd {p d : Nat} (h : Prime p) (hd : d ∣ p) : d = 1 ∨ d = p := by
  by_cases h2 : 2 ≤ d
  · have := minFac_le h.1 h2 hd
    rw [h.2] at this
    have := Nat.le_of_dvd (by have := h.1; omega) hd
    omega
  · have : d ≠ 0 := by intro e; subst e; have := Nat.zero_dvd.1 hd; have := h.1; omega
    omega
theorem Prime.of {p : Nat} (h : 2 ≤ p) (hd : ∀ d, d ∣ p → d = 1 ∨ d = p) : Prime p := by
  refine ⟨h, minFac_eq h h (Nat.dvd_refl _) fun d h2 hdp => ?_⟩
  rcases hd d hdp with e | e <;> omega
theorem minFac_prime {n : Nat} (h : 2 ≤ n) : Prime (minFac n) := by
  obtain ⟨h1, h2, h3⟩ := minFac_spec h
  refine ⟨h1, minFac_eq h1 h1 (Nat.dvd_refl _) fun d hd hdm => h3 d hd (Nat.dvd_trans hdm h2)⟩
theorem Prime.coprime {p a : Nat} (h : Prime p) (hn : ¬ p ∣ a) : Nat.gcd p a = 1 := by
  rcases h.dvd (Nat.gcd_dvd_left p a) with e | e
  · exact e
  · exact absurd (e ▸ Nat.gcd_dvd_right p a) hn
theorem Prime.dvd_mul {p a b : Nat} (h : Prime p) (hd : p ∣ a * b) : p ∣ a ∨ p ∣ b := by
  by_cases ha : p ∣ a
  · exact .inl ha
  · exact .inr (Nat.Coprime.dvd_of_dvd_mul_left (h.coprime ha) hd)
theorem Prime.dvd_pow {p a : Nat} (h : Prime p) : ∀ {k : Nat}, p ∣ a ^ k → p ∣ a
  | 0, hd => by
    simp at hd
    have := h.1
    omega
  | k + 1, hd => by
    rw [Nat.pow_succ] at hd
    rcases h.dvd_mul hd with e | e
    · exact h.dvd_pow e
    · exact e
/-- how often p divides n; and what is left -/
def vp (p n : Nat) : Nat := if h : 2 ≤ p ∧ 0 < n ∧ n % p = 0 then vp p (n / p) + 1 else 0
termination_by n
decreasing_by exact Nat.div_lt_self h.2.1 h.1
def strip (p n : Nat) : Nat := if h : 2 ≤ p ∧ 0 < n ∧ n % p = 0 then strip p (n / p) else n
termination_by n
decreasing_by exact Nat.div_lt_self h.2.1 h.1
theorem vp_yes {p n : Nat} (hp : 2 ≤ p) (hn : 0 < n) (h : n % p = 0) : vp p n = vp p (n / p) + 1 := by rw [vp, dif_pos ⟨hp, hn, h⟩]
theorem vp_no {p n : Nat} (h : ¬ n % p = 0) : vp p n = 0 := by rw [vp, dif_neg (fun e => h e.2.2)]
theorem strip_yes {p n : Nat} (hp : 2 ≤ p) (hn : 0 < n) (h : n % p = 0) : strip p n = strip p (n / p) := by rw [strip, dif_pos ⟨hp, hn, h⟩]
theorem strip_no {p n : Nat} (h : ¬ n % p = 0) : strip p n = n := by rw [strip, dif_neg (fun e => h e.2.2)]
theorem strip_spec (p : Nat) (hp : 2 ≤ p) : ∀ n : Nat, 0 < n → n = p ^ vp p n * strip p n ∧ 0 < strip p n ∧ ¬ strip p n % p = 0 := by
  intro n
  induction n using Nat.strongRecOn with
  | ind n ih =>
    intro hn
    by_cases h : n % p = 0
    · have hlt : n / p < n := Nat.div_lt_self hn hp
      have hpos : 0 < n / p := Nat.div_pos (Nat.le_of_dvd hn (Nat.dvd_of_mod_eq_zero h)) (by omega)
      obtain ⟨h1, h2, h3⟩ := ih _ hlt hpos
      rw [vp_yes hp hn h, strip_yes hp hn h]
      refine ⟨?_, h2, h3⟩
      have e : n = p * (n / p) := (Nat.mul_div_cancel' (Nat.dvd_of_mod_eq_zero h)).symm
      rw [Nat.pow_succ, Nat.mul_comm (p ^ _) p, Nat.mul_assoc, ← h1]
      exact e
    · rw [vp_no h, strip_no h]
      exact ⟨by simp, hn, h⟩
theorem strip_dvd {p n : Nat} (hp : 2 ≤ p) (hn : 0 < n) : strip p n ∣ n := ⟨p ^ vp p n, by rw [Nat.mul_comm]; exact (strip_spec p hp n hn).1⟩
theorem strip_lt {p n : Nat} (hp : 2 ≤ p) (hn : 0 < n) (h : n % p = 0) : strip p n < n := by
  rw [strip_yes hp hn h]
  have hpos : 0 < n / p := Nat.div_pos (Nat.le_of_dvd hn (Nat.dvd_of_mod_eq_zero h)) (by omega)
  have := Nat.le_of_dvd hpos (strip_dvd hp hpos)
  have := Nat.div_lt_self hn hp
  omega
theorem vp_pos {p n : Nat} (hp : 2 ≤ p) (hn : 0 < n) (h : n % p = 0) : 0 < vp p n := by rw [vp_yes hp hn h]; omega
/-- the prime factors, the least first, each with how often it divides -/
def fac (n : Nat) : List (Nat × Nat) := if h : 2 ≤ n then (minFac n, vp (minFac n) n) :: fac (strip (minFac n) n) else []
termination_by n
decreasing_by
  obtain ⟨h1, h2, _⟩ := minFac_spec h
  exact strip_lt h1 (by omega) (Nat.mod_eq_zero_of_dvd h2)
theorem fac_small {n : Nat} (h : n ≤ 1) : fac n = [] := by rw [fac, dif_neg (by omega)]
theorem fac_cons {n : Nat} (h : 2 ≤ n) : fac n = (minFac n, vp (minFac n) n) :: fac (strip (minFac n) n) := by rw [fac, dif_pos h]
theorem fac_step {n p : Nat} (h : 2 ≤ n) (hp : 2 ≤ p) (hpn : n % p = 0) (hl : ∀ d, 2 ≤ d → d ∣ n → p ≤ d) : fac n = (p, vp p n) :: fac (strip p n) := by
  rw [fac_cons h, minFac_eq h hp (Nat.dvd_of_mod_eq_zero hpn) hl]
/-- no divisor of n lies between 2 and p -/
def NoBelow (p n : Nat) : Prop := ∀ d, 2 ≤ d → d ∣ n → p ≤ d
theorem NoBelow.two (n : Nat) : NoBelow 2 n := fun d h _ => h
theorem NoBelow.next {p n : Nat} (h : NoBelow p n) (hn : ¬ n % p = 0) : NoBelow (p + 1) n := fun d h2 hd => by
  have := h d h2 hd
  by_cases e : d = p
  · subst e; exact absurd (Nat.mod_eq_zero_of_dvd hd) hn
  · omega
theorem NoBelow.of_dvd {p n m : Nat} (h : NoBelow p n) (hm : m ∣ n) : NoBelow p m := fun d h2 hd => h d h2 (Nat.dvd_trans hd hm)
theorem NoBelow.strip {p n : Nat} (h : NoBelow p n) (hp : 2 ≤ p) (hn : 0 < n) : NoBelow (p + 1) (strip p n) :=
  (h.of_dvd (strip_dvd hp hn)).next (strip_spec p hp n hn).2.2
end Lw
set_option linter.unusedVariables false
set_option linter.unusedSimpArgs false
namespace Lw
theorem Prime.dvd_mul_int {p : Nat} (hp : Prime p) {a b : Int} (h : (p : Int) ∣ a * b) : (p : Int) ∣ a ∨ (p : Int) ∣ b := by
  rw [Int.ofNat_dvd_left, Int.natAbs_mul] at h
  rw [Int.ofNat_dvd_left, Int.ofNat_dvd_left]
  exact hp.dvd_mul h
theorem Prime.not_dvd_one {p : Nat} (hp : Prime p) : ¬ (p : Int) ∣ 1 := by
  intro h
  rw [Int.ofNat_dvd_left] at h
  have := Nat.dvd_one.1 h
  have := hp.1
  omega
def ev : List Int → Int → Int
  | [], _ => 0
  | c :: cs, x => c + x * ev cs x
/-- the quotient by x - r -/
def qt : List Int → Int → List Int
  | [], _ => []
  | [_], _ => []
  | _ :: d :: cs, r => ev (d :: cs) r :: qt (d :: cs) r
theorem qt_length : ∀ (l : List Int) (r : Int), (qt l r).length = l.length - 1
  | [], _ => rfl
  | [_], _ => rfl
  | _ :: d :: cs, r => by simp only [qt, List.length_cons, qt_length (d :: cs) r]; omega
theorem qt_ev : ∀ (l : List Int) (r x : Int), ev l x - ev l r = (x - r) * ev (qt l r) x
  | [], _, _ => by simp [ev, qt]
  | [c], _, _ => by simp [ev, qt]
  | c :: d :: cs, r, x => by
    have ih := qt_ev (d :: cs) r x
    have e1 : ev (c :: d :: cs) x = c + x * ev (d :: cs) x := rfl
    have e2 : ev (c :: d :: cs) r = c + r * ev (d :: cs) r := rfl
    have e3 : ev (qt (c :: d :: cs) r) x = ev (d :: cs) r + x * ev (qt (d :: cs) r) x := rfl
    rw [e1, e2, e3]
    generalize ev (d :: cs) x = A at *
    generalize ev (d :: cs) r = B at *
    generalize ev (qt (d :: cs) r) x = C at *
    grind
def lastI : List Int → Int
  | [] => 0
  | [c] => c
  | _ :: d :: cs => lastI (d :: cs)
theorem qt_last : ∀ (l : List Int) (r : Int), 2 ≤ l.length → lastI (qt l r) = lastI l
  | [], _, h => by simp at h
  | [_], _, h => by simp at h
  | [c, d], r, _ => by simp [qt, lastI, ev]
  | c :: d :: e :: cs, r, _ => by
    have ih := qt_last (d :: e :: cs) r (by simp)
    have e1 : lastI (c :: d :: e :: cs) = lastI (d :: e :: cs) := rfl
    rw [e1, ← ih]
    rfl
/-- as many roots as numbers: the last number is 0 -/
theorem roots_last {p : Nat} (hp : Prime p) : ∀ (n : Nat) (l rs : List Int), l.length = n + 1 → n + 1 ≤ rs.length → rs.Pairwise (fun a b => ¬ (p : Int) ∣ b - a) → (∀ r, r ∈ rs → (p : Int) ∣ ev l r) → (p : Int) ∣ lastI l
  | 0, l, rs, hl, hr, _, hz => by
    match l, hl with
    | [c], _ =>
      match rs, hr with
      | r :: _, _ =>
        have := hz r (List.mem_cons_self ..)
        simpa [ev, lastI] using this
  | n + 1, l, rs, hl, hr, hd, hz => by
    match rs, hr with
    | r :: rs, hr =>
      have h0 := hz r (List.mem_cons_self ..)
      obtain ⟨hd1, hd2⟩ := List.pairwise_cons.1 hd
      have := roots_last hp n (qt l r) rs (by rw [qt_length, hl]; omega) (by simpa using hr) hd2 (fun s hs => by
        have h1 := hz s (List.mem_cons_of_mem _ hs)
        have h2 := Int.dvd_sub h1 h0
        rw [qt_ev] at h2
        rcases hp.dvd_mul_int h2 with h3 | h3
        · exact absurd h3 (hd1 s hs)
        · exact h3)
      rwa [qt_last l r (by omega)] at this
/-- x^n - 1, as a list -/
def powL (n : Nat) : List Int := -1 :: (List.replicate n 0 ++ [1])
theorem powL_ev (n : Nat) (x : Int) : ev (powL n) x = x ^ (n + 1) - 1 := by
  have h : ∀ n, ev (List.replicate n 0 ++ [1]) x = x ^ n := by
    intro n
    induction n with
    | zero => simp [ev]
    | succ n ih =>
      show (0 : Int) + x * ev (List.replicate n 0 ++ [1]) x = _
      rw [ih, Int.pow_succ, Int.mul_comm]; omega
  show -1 + x * ev (List.replicate n 0 ++ [1]) x = _
  rw [h, Int.pow_succ, Int.mul_comm]; omega
theorem powL_last (n : Nat) : lastI (powL n) = 1 := by
  have h : ∀ (l : List Int) (c : Int), lastI (c :: (l ++ [1])) = 1 := by
    intro l
    induction l with
    | nil => intro c; rfl
    | cons d l ih => intro c; exact ih d
  exact h _ _
/-- fewer than n + 1 different numbers have the n-th power 1 -/
theorem pow_roots {p : Nat} (hp : Prime p) (n : Nat) (hn : 0 < n) (rs : List Int) (hr : n + 1 ≤ rs.length) (hd : rs.Pairwise (fun a b => ¬ (p : Int) ∣ b - a)) (hz : ∀ r, r ∈ rs → (p : Int) ∣ r ^ n - 1) : False := by
  obtain ⟨m, rfl⟩ : ∃ m, n = m + 1 := ⟨n - 1, by omega⟩
  have := roots_last hp (m + 1) (powL m) rs (by simp [powL]) (by omega) hd (fun r h => by rw [powL_ev]; exact hz r h)
  rw [powL_last] at this
  exact hp.not_dvd_one this
end Lw
set_option linter.unusedVariables false
set_option linter.unusedSimpArgs false
namespace Lw
def gcdI (a b : Int) : Int := ((Int.gcd a b : Nat) : Int)
def absI (a : Int) : Int := ((a.natAbs : Nat) : Int)
theorem absI_pos {a : Int} (h : 0 ≤ a) : absI a = a := by unfold absI; omega
theorem absI_neg {a : Int} (h : a < 0) : absI a = -a := by unfold absI; omega
theorem absI_nonneg (a : Int) : 0 ≤ absI a := by unfold absI; omega
theorem gcdI_nonneg (a b : Int) : 0 ≤ gcdI a b := by unfold gcdI; omega
theorem gcdI_comm (a b : Int) : gcdI a b = gcdI b a := by unfold gcdI; rw [Int.gcd_comm]
theorem gcdI_abs (a b : Int) : gcdI (absI a) (absI b) = gcdI a b := by unfold gcdI absI; simp [Int.gcd]
theorem gcdI_zero_left (b : Int) : gcdI 0 b = absI b := by unfold gcdI absI; simp
theorem gcdI_zero_right (a : Int) : gcdI a 0 = absI a := by unfold gcdI absI; simp
theorem gcdI_self {a : Int} (h : 0 ≤ a) : gcdI a a = a := by unfold gcdI; simp; omega
theorem gcdI_dvd_left (a b : Int) : gcdI a b ∣ a := Int.gcd_dvd_left ..
theorem gcdI_dvd_right (a b : Int) : gcdI a b ∣ b := Int.gcd_dvd_right ..
theorem dvd_gcdI {d a b : Int} (ha : d ∣ a) (hb : d ∣ b) : d ∣ gcdI a b := Int.dvd_coe_gcd ha hb
theorem gcdI_pos {a b : Int} (h : a ≠ 0 ∨ b ≠ 0) : 0 < gcdI a b := by
  have h0 := gcdI_nonneg a b
  by_cases e : gcdI a b = 0
  · have ha := gcdI_dvd_left a b
    have hb := gcdI_dvd_right a b
    rw [e] at ha hb
    have := Int.zero_dvd.1 ha
    have := Int.zero_dvd.1 hb
    omega
  · omega
theorem gcdI_le {a b : Int} (h : 0 < a) : gcdI a b ≤ a := Int.le_of_dvd h (gcdI_dvd_left a b)
/-- a number that divides both, and that every other one divides, is it. -/
theorem gcdI_unique {a b d : Int} (h0 : 0 ≤ d) (ha : d ∣ a) (hb : d ∣ b) (h : ∀ c, c ∣ a → c ∣ b → c ∣ d) : gcdI a b = d := by
  have h1 := dvd_gcdI ha hb
  have h2 := h _ (gcdI_dvd_left a b) (gcdI_dvd_right a b)
  exact Int.dvd_antisymm (gcdI_nonneg _ _) h0 h2 h1
/-- Euclid's step. -/
theorem gcdI_step (a b q : Int) : gcdI b (a - q * b) = gcdI a b := by
  refine (gcdI_unique (gcdI_nonneg _ _) ?_ ?_ ?_).symm
  · have h1 := gcdI_dvd_left b (a - q * b)
    have h2 := gcdI_dvd_right b (a - q * b)
    have h3 := Int.dvd_add h2 (Int.dvd_mul_of_dvd_right (b := q) h1)
    rwa [show a - q * b + q * b = a from by omega] at h3
  · exact gcdI_dvd_left _ _
  · intro c hc1 hc2
    exact dvd_gcdI hc2 (Int.dvd_sub hc1 (Int.dvd_mul_of_dvd_right hc2))
theorem gcdI_sub (a b : Int) : gcdI (a - b) b = gcdI a b := by
  have h := gcdI_step a b 1
  rw [Int.one_mul, gcdI_comm] at h
  exact h
theorem gcdI_sub' (a b : Int) : gcdI a (b - a) = gcdI a b := by
  rw [gcdI_comm, gcdI_sub, gcdI_comm]
/-- a half of the one, where the other is odd -/
theorem gcdI_half (a b : Int) (ha : a % 2 = 0) (hb : ¬ b % 2 = 0) : gcdI (a / 2) b = gcdI a b := by
  refine gcdI_unique (gcdI_nonneg _ _) ?_ (gcdI_dvd_right _ _) ?_
  · have h1 := gcdI_dvd_left a b
    have h2 := gcdI_dvd_right a b
    have ho : ¬ gcdI a b % 2 = 0 := by
      intro h
      have : (2 : Int) ∣ b := Int.dvd_trans (Int.dvd_of_emod_eq_zero h) h2
      have := Int.emod_eq_zero_of_dvd this
      omega
    have h3 : gcdI a b ∣ 2 * (a / 2) := by rwa [show 2 * (a / 2) = a from by omega]
    have h4 : Int.gcd (gcdI a b) 2 ∣ 2 := by have := Int.gcd_dvd_right (gcdI a b) 2; exact Int.ofNat_dvd.1 this
    have h5 : Int.gcd (gcdI a b) 2 ≤ 2 := Nat.le_of_dvd (by omega) h4
    have h6 : Int.gcd (gcdI a b) 2 ≠ 2 := by
      intro e
      have := Int.gcd_dvd_left (gcdI a b) 2
      rw [e] at this
      have := Int.emod_eq_zero_of_dvd this
      omega
    have h7 : Int.gcd (gcdI a b) 2 ≠ 0 := by intro e; rw [e] at h4; omega
    have h8 := @Int.dvd_gcd_mul_iff_dvd_mul (gcdI a b) 2 (a / 2)
    rw [show Int.gcd (gcdI a b) 2 = 1 from by omega] at h8
    have h9 := h8.2 h3
    simpa using h9
  · intro c hc1 hc2
    refine dvd_gcdI ?_ hc2
    have := Int.dvd_mul_of_dvd_right (b := 2) hc1
    rwa [show 2 * (a / 2) = a from by omega] at this
theorem gcdI_half' (a b : Int) (ha : ¬ a % 2 = 0) (hb : b % 2 = 0) : gcdI a (b / 2) = gcdI a b := by
  rw [gcdI_comm, gcdI_half b a hb ha, gcdI_comm]
theorem gcdI_two (a b : Int) (ha : a % 2 = 0) (hb : b % 2 = 0) : gcdI (a / 2) (b / 2) * 2 = gcdI a b := by
  have h : gcdI a b = gcdI (2 * (a / 2)) (2 * (b / 2)) := by rw [show 2 * (a / 2) = a from by omega, show 2 * (b / 2) = b from by omega]
  rw [h]
  unfold gcdI
  rw [Int.gcd_mul_left]
  simp
  omega
end Lw
namespace Lw
/-- What Euclid's loop keeps: of a, b the last two numbers c, d with their factors x, n. -/
structure Euc (a b c d x n : Int) : Prop where
  gcd : gcdI c d = gcdI a b
  dx : b ∣ x * a - c
  dn : b ∣ n * a - d
  sum : absI x * absI d + absI n * absI c ≤ absI b
  bx : absI x ≤ absI b + 1
  bn : absI n ≤ absI b + 1
  bc : absI c ≤ absI a + absI b
  bd : absI d ≤ absI b
  sg : 0 ≤ a → 0 ≤ b → 0 ≤ c ∧ 0 ≤ d
theorem absI_mul (a b : Int) : absI (a * b) = absI a * absI b := by unfold absI; rw [Int.natAbs_mul]; simp
theorem absI_add_le (a b : Int) : absI (a + b) ≤ absI a + absI b := by unfold absI; omega
theorem absI_sub_le (a b : Int) : absI (a - b) ≤ absI a + absI b := by unfold absI; omega
theorem absI_le {a b : Int} (h : absI a ≤ b) : -b ≤ a ∧ a ≤ b := by unfold absI at h; omega
theorem absI_eq_zero {a : Int} (h : absI a = 0) : a = 0 := by unfold absI at h; omega
theorem Euc.start (a b : Int) : Euc a b a b 1 0 := by
  refine ⟨rfl, by simp, ⟨-1, by omega⟩, ?_, ?_, ?_, ?_, ?_, fun h1 h2 => ⟨h1, h2⟩⟩
  · simp [absI]
  · show absI 1 ≤ absI b + 1; unfold absI; omega
  · show absI 0 ≤ absI b + 1; unfold absI; omega
  · have := absI_nonneg b; omega
  · omega
/-- c divided by d, truncated: quotient and rest, without signs -/
theorem tdiv_abs (c d : Int) : absI c = absI (c.tdiv d) * absI d + absI (c - c.tdiv d * d) := by
  have h1 : c - c.tdiv d * d = c.tmod d := by
    have := Int.mul_tdiv_add_tmod c d
    have e : d * c.tdiv d = c.tdiv d * d := Int.mul_comm ..
    omega
  rw [h1]
  unfold absI
  rw [Int.natAbs_tdiv, Int.natAbs_tmod]
  have := Nat.div_add_mod c.natAbs d.natAbs
  rw [Nat.mul_comm] at this
  have e : ((c.natAbs / d.natAbs : Nat) : Int) * ((d.natAbs : Nat) : Int) = ((c.natAbs / d.natAbs * d.natAbs : Nat) : Int) := by simp
  show ((c.natAbs : Nat) : Int) = ((c.natAbs / d.natAbs : Nat) : Int) * ((d.natAbs : Nat) : Int) + ((c.natAbs % d.natAbs : Nat) : Int)
  rw [e]
  omega
theorem tdiv_rest_lt (c d : Int) (hd : d ≠ 0) : absI (c - c.tdiv d * d) < absI d := by
  have h1 : c - c.tdiv d * d = c.tmod d := by
    have := Int.mul_tdiv_add_tmod c d
    have e : d * c.tdiv d = c.tdiv d * d := Int.mul_comm ..
    omega
  rw [h1]
  unfold absI
  rw [Int.natAbs_tmod]
  have := Nat.mod_lt c.natAbs (y := d.natAbs) (by omega)
  omega
/-- the bounds of one step -/
theorem Euc.bounds {a b c d x n : Int} (h : Euc a b c d x n) (hd : d ≠ 0) :
    absI (c.tdiv d) ≤ absI c ∧ absI (c.tdiv d * d) ≤ absI c ∧ absI (c - c.tdiv d * d) < absI d ∧ absI (c.tdiv d * n) ≤ absI b ∧ absI (x - c.tdiv d * n) ≤ absI b + 1 := by
  have h0 := tdiv_abs c d
  have h1 := tdiv_rest_lt c d hd
  have q0 := absI_nonneg (c.tdiv d)
  have c0 := absI_nonneg c
  have d0 : 1 ≤ absI d := by have := absI_nonneg d; have : absI d ≠ 0 := fun e => hd (absI_eq_zero e); omega
  have r0 := absI_nonneg (c - c.tdiv d * d)
  have n0 := absI_nonneg n
  have x0 := absI_nonneg x
  have b1 : absI (c.tdiv d) ≤ absI (c.tdiv d) * absI d := by
    have := Int.mul_le_mul_of_nonneg_left d0 q0
    omega
  have xd : absI x ≤ absI x * absI d := by
    have := Int.mul_le_mul_of_nonneg_left d0 x0
    omega
  have hs := h.sum
  have nc0 : 0 ≤ absI n * absI c := Int.mul_nonneg n0 c0
  have hq : absI (c.tdiv d) * absI n * absI d ≤ absI n * absI c := by
    have e : absI n * (absI (c.tdiv d) * absI d) ≤ absI n * absI c := Int.mul_le_mul_of_nonneg_left (by omega) n0
    have e2 : absI (c.tdiv d) * absI n * absI d = absI n * (absI (c.tdiv d) * absI d) := by
      rw [Int.mul_comm (absI (c.tdiv d)) (absI n), Int.mul_assoc]
    omega
  have qn0 : 0 ≤ absI (c.tdiv d) * absI n := Int.mul_nonneg q0 n0
  have hq2 : absI (c.tdiv d) * absI n ≤ absI (c.tdiv d) * absI n * absI d := by
    have := Int.mul_le_mul_of_nonneg_left d0 qn0
    omega
  refine ⟨by omega, by rw [absI_mul]; omega, h1, by rw [absI_mul]; omega, ?_⟩
  have := absI_sub_le x (c.tdiv d * n)
  rw [absI_mul] at this
  omega
theorem Euc.step {a b c d x n : Int} (h : Euc a b c d x n) (hd : d ≠ 0) : Euc a b d (c - c.tdiv d * d) n (x - c.tdiv d * n) := by
  have hb := h.bounds hd
  have h0 := tdiv_abs c d
  have q0 := absI_nonneg (c.tdiv d)
  have n0 := absI_nonneg n
  have d0 := absI_nonneg d
  refine ⟨?_, h.dn, ?_, ?_, h.bn, hb.2.2.2.2, ?_, ?_, ?_⟩
  · rw [gcdI_step]; exact h.gcd
  · have e : (x - c.tdiv d * n) * a - (c - c.tdiv d * d) = (x * a - c) - c.tdiv d * (n * a - d) := by
      rw [Int.sub_mul, Int.mul_sub, Int.mul_assoc]; omega
    rw [e]
    exact Int.dvd_sub h.dx (Int.dvd_mul_of_dvd_right h.dn)
  · have h2 := absI_sub_le x (c.tdiv d * n)
    rw [absI_mul] at h2
    have h3 : absI (x - c.tdiv d * n) * absI d ≤ (absI x + absI (c.tdiv d) * absI n) * absI d := Int.mul_le_mul_of_nonneg_right h2 d0
    rw [Int.add_mul] at h3
    have h4 : absI (c.tdiv d) * absI n * absI d = absI n * (absI (c.tdiv d) * absI d) := by
      rw [Int.mul_comm (absI (c.tdiv d)) (absI n), Int.mul_assoc]
    have h5 : absI n * absI c = absI n * (absI (c.tdiv d) * absI d) + absI n * absI (c - c.tdiv d * d) := by
      rw [← Int.mul_add, ← h0]
    have hs := h.sum
    omega
  · have := h.bd; have := absI_nonneg a; omega
  · have := h.bd; omega
  · intro h1 h2
    obtain ⟨h3, h4⟩ := h.sg h1 h2
    refine ⟨h4, ?_⟩
    have e : c - c.tdiv d * d = c.tmod d := by
      have := Int.mul_tdiv_add_tmod c d
      have e : d * c.tdiv d = c.tdiv d * d := Int.mul_comm ..
      omega
    rw [e]
    exact Int.tmod_nonneg _ h3
/-- what the loop returns -/
def StepPost (a b g x : Int) : Prop := absI g = gcdI a b ∧ b ∣ x * a - g ∧ absI x ≤ absI b + 1 ∧ (0 ≤ a → 0 ≤ b → 0 ≤ g)
theorem Euc.done {a b c x n : Int} (h : Euc a b c 0 x n) : StepPost a b c x := ⟨by rw [← gcdI_zero_right, h.gcd], h.dx, h.bx, fun h1 h2 => (h.sg h1 h2).1⟩
theorem Euc.facts0 {a b c d x n : Int} (h : Euc a b c d x n) (ha : absI a ≤ 4294967296) (hb : absI b ≤ 4294967296) :
    (-8589934592 ≤ c ∧ c ≤ 8589934592) ∧ (-8589934592 ≤ d ∧ d ≤ 8589934592) ∧ (-8589934592 ≤ x ∧ x ≤ 8589934592) ∧ (-8589934592 ≤ n ∧ n ≤ 8589934592) := by
  have h1 := h.bc; have h2 := h.bd; have h3 := h.bx; have h4 := h.bn
  exact ⟨absI_le (by omega), absI_le (by omega), absI_le (by omega), absI_le (by omega)⟩
theorem Euc.facts {a b c d x n : Int} (h : Euc a b c d x n) (hd : d ≠ 0) (ha : absI a ≤ 4294967296) (hb : absI b ≤ 4294967296) :
    (-8589934592 ≤ c.tdiv d ∧ c.tdiv d ≤ 8589934592) ∧ (-8589934592 ≤ c.tdiv d * d ∧ c.tdiv d * d ≤ 8589934592) ∧ (-8589934592 ≤ c.tdiv d * n ∧ c.tdiv d * n ≤ 8589934592) := by
  have h1 := h.bc; have h2 := h.bd; have h3 := h.bx; have h4 := h.bn; have hh := h.bounds hd
  exact ⟨absI_le (by omega), absI_le (by omega), absI_le (by omega)⟩
theorem gcd_bd {a b g : Int} (h : absI g = gcdI a b) (ha : absI a ≤ 4294967296) (hb : absI b ≤ 4294967296) : -4294967296 ≤ g ∧ g ≤ 4294967296 := by
  have h1 : absI g ≤ 4294967296 := by
    rw [h]
    by_cases h0 : a = 0
    · subst h0; rw [gcdI_zero_left]; exact hb
    · have : gcdI a b ≤ absI a := by
        rw [← gcdI_abs]
        exact gcdI_le (by unfold absI; omega)
      omega
  exact absI_le h1

/-- The inverse of a number by a modulus: the least that makes 1 of it. -/
def invI (a m : Int) : Int := ((((List.range m.toNat).find? (fun (i : Nat) => decide ((i : Int) * a % m = 1 % m))).getD 0 : Nat) : Int)
theorem emod_of_dvd_sub {a b m : Int} (h : m ∣ a - b) : a % m = b % m := Int.emod_eq_emod_iff_emod_sub_eq_zero.2 (Int.emod_eq_zero_of_dvd h)
theorem mul_emod_left (i a m : Int) : i % m * a % m = i * a % m := by rw [Int.mul_emod, Int.emod_emod, ← Int.mul_emod]
theorem mul_emod_right (i a m : Int) : i * (a % m) % m = i * a % m := by rw [Int.mul_emod, Int.emod_emod, ← Int.mul_emod]
theorem inv_unique {a m i j : Int} (hi : 0 ≤ i) (hi' : i < m) (hj : 0 ≤ j) (hj' : j < m) (h1 : i * a % m = 1 % m) (h2 : j * a % m = 1 % m) : i = j := by
  have e1 : i * (j * a) % m = i % m := by
    rw [← mul_emod_right, h2, mul_emod_right, Int.mul_one]
  have e2 : i * (j * a) % m = j % m := by
    rw [show i * (j * a) = j * (i * a) from by rw [← Int.mul_assoc, Int.mul_comm i j, Int.mul_assoc], ← mul_emod_right, h1, mul_emod_right, Int.mul_one]
  rw [e1, Int.emod_eq_of_lt hi hi', Int.emod_eq_of_lt hj hj'] at e2
  exact e2
theorem invI_eq {a m i : Int} (hi : 0 ≤ i) (hi' : i < m) (h : i * a % m = 1 % m) : invI a m = i := by
  unfold invI
  cases hf : (List.range m.toNat).find? (fun (i : Nat) => decide ((i : Int) * a % m = 1 % m)) with
  | none =>
    have := List.find?_eq_none.1 hf i.toNat (by simp; omega)
    simp at this
    rw [Int.max_eq_left hi] at this
    exact absurd h this
  | some j =>
    have h1 := List.find?_some hf
    have h2 := List.mem_of_find?_eq_some hf
    simp at h1 h2
    simp only [Option.getD_some]
    exact inv_unique (by omega) (by omega) hi hi' h1 h
theorem invI_of_dvd {a m x : Int} (hm : 0 < m) (h : m ∣ x * (a % m) - 1) : invI a m = x % m := by
  obtain ⟨h1, h2⟩ := emod_bd x m hm
  refine invI_eq h1 h2 ?_
  rw [mul_emod_left, ← mul_emod_right]
  exact emod_of_dvd_sub h
theorem gcdI_emod (a m : Int) : gcdI (a % m) m = gcdI a m := by
  have h := gcdI_step a m (a / m)
  have e : a - a / m * m = a % m := by have := Int.emod_add_mul_ediv a m; have := Int.mul_comm (a / m) m; omega
  rw [e, gcdI_comm] at h
  exact h
/-- what Inverse tells: the code, and the number -/
def invE (a m : Int) : Int := if a < -2147483648 ∨ 2147483648 < a ∨ m < 1 ∨ 1048576 < m then 2 else if gcdI a m = 1 then 0 else 5
def invR (a m : Int) : Int := if invE a m = 0 then invI a m else 0
theorem invE_two {a m : Int} (h : a < -2147483648 ∨ 2147483648 < a ∨ m < 1 ∨ 1048576 < m) : invE a m = 2 ∧ invR a m = 0 := by unfold invR invE; simp [h]
theorem invE_five {a m : Int} (h : ¬ (a < -2147483648 ∨ 2147483648 < a ∨ m < 1 ∨ 1048576 < m)) (h2 : ¬ gcdI a m = 1) : invE a m = 5 ∧ invR a m = 0 := by unfold invR invE; simp [h, h2]
theorem invE_zero {a m : Int} (h : ¬ (a < -2147483648 ∨ 2147483648 < a ∨ m < 1 ∨ 1048576 < m)) (h2 : gcdI a m = 1) : invE a m = 0 ∧ invR a m = invI a m := by unfold invR invE; simp [h, h2]
theorem exists_step (a b : Int) : ∃ g x, StepPost a b g x := by
  have H : ∀ n : Nat, ∀ c d x y : Int, d.natAbs ≤ n → Euc a b c d x y → ∃ g x, StepPost a b g x := by
    intro n
    induction n with
    | zero =>
      intro c d x y hd h
      obtain rfl : d = 0 := by omega
      exact ⟨c, x, h.done⟩
    | succ n ih =>
      intro c d x y hd h
      by_cases h0 : d = 0
      · subst h0; exact ⟨c, x, h.done⟩
      · have h1 := tdiv_rest_lt c d h0
        unfold absI at h1
        exact ih _ _ _ _ (by omega) (h.step h0)
  exact H _ _ _ _ _ (Nat.le_refl _) (Euc.start a b)
theorem invI_spec {a m : Int} (hm : 0 < m) (h : gcdI a m = 1) : 0 ≤ invI a m ∧ invI a m < m ∧ invI a m * (a % m) % m = 1 % m := by
  obtain ⟨s1, s2⟩ := emod_bd a m hm
  obtain ⟨g, x, h1, h2, h3, h4⟩ := exists_step (a % m) m
  have hg := h4 s1 (by omega)
  rw [absI_pos hg, gcdI_emod, h] at h1
  rw [h1] at h2
  have e := invI_of_dvd hm h2
  obtain ⟨t1, t2⟩ := emod_bd x m hm
  rw [e]
  refine ⟨t1, t2, ?_⟩
  rw [mul_emod_left]
  exact emod_of_dvd_sub h2
theorem invI_mul {a m : Int} (hm : 0 < m) (h : gcdI a m = 1) : invI a m * a % m = 1 % m := by
  have := (invI_spec hm h).2.2
  rwa [mul_emod_right] at this
end Lw
set_option linter.unusedVariables false
set_option linter.unusedSimpArgs false
namespace Lw
theorem pw_mul (x y k m : Int) : pw (x * y) k m = pw x k m * pw y k m % m := by
  unfold pw; rw [Int.mul_pow, ← Int.mul_emod]
theorem pw_pw (x i k m : Int) (hi : 0 ≤ i) (hk : 0 ≤ k) : pw (pw x i m) k m = pw x (i * k) m := by
  have h : pw (pw x i m) k m = pw (x ^ i.toNat) k m := pw_emod (x ^ i.toNat) k m
  rw [h]
  unfold pw
  have e : (i * k).toNat = i.toNat * k.toNat := by
    obtain ⟨a, rfl⟩ := Int.eq_ofNat_of_zero_le hi
    obtain ⟨b, rfl⟩ := Int.eq_ofNat_of_zero_le hk
    rw [← Int.natCast_mul, Int.toNat_natCast, Int.toNat_natCast, Int.toNat_natCast]
  rw [e, Int.pow_mul]
theorem pw_self_emod (x k m : Int) (hm : 0 < m) : pw x k m % m = pw x k m := by unfold pw; rw [Int.emod_emod]
theorem one_pw (k m : Int) : pw 1 k m = 1 % m := by unfold pw; rw [Int.one_pow]
/-- g by the power i, of whatever i: g's power Q is 1 -/
def gp (P Q g i : Int) : Int := pw g (i % Q) P
section
variable {P Q : Int}
theorem gp_bd (hP : 0 < P) (g i : Int) : 0 ≤ gp P Q g i ∧ gp P Q g i < P := pw_bd _ _ _ hP
theorem pw_red {g : Int} (hP : 1 < P) (hQ : 0 < Q) (hg : pw g Q P = 1) : ∀ {k : Int}, 0 ≤ k → pw g k P = pw g (k % Q) P := by
  intro k hk
  have h1 : 0 ≤ k / Q := Int.ediv_nonneg hk (by omega)
  have h2 := Int.emod_nonneg k (by omega : Q ≠ 0)
  have e : k = Q * (k / Q) + k % Q := (Int.mul_ediv_add_emod k Q).symm
  have h3 : pw g (Q * (k / Q)) P = 1 := by
    rw [← pw_pw g Q (k / Q) P (by omega) h1, hg, one_pw, Int.emod_eq_of_lt (by omega) hP]
  conv => lhs; rw [e]
  rw [pw_add g _ _ P (Int.mul_nonneg (by omega) h1) h2, h3, Int.one_mul, pw_self_emod _ _ _ (by omega)]
theorem gp_of {g : Int} (hP : 1 < P) (hQ : 0 < Q) (hg : pw g Q P = 1) {k : Int} (hk : 0 ≤ k) : pw g k P = gp P Q g k := pw_red hP hQ hg hk
theorem gp_add {g : Int} (hP : 1 < P) (hQ : 0 < Q) (hg : pw g Q P = 1) (i j : Int) : gp P Q g (i + j) = gp P Q g i * gp P Q g j % P := by
  have h1 := Int.emod_nonneg i (by omega : Q ≠ 0)
  have h2 := Int.emod_nonneg j (by omega : Q ≠ 0)
  unfold gp
  rw [← pw_add g _ _ P h1 h2, pw_red hP hQ hg (by omega : 0 ≤ i % Q + j % Q), ← Int.add_emod]
theorem gp_zero (hP : 1 < P) (g : Int) : gp P Q g 0 = 1 := by
  unfold gp; rw [Int.zero_emod, pw_zero, Int.emod_eq_of_lt (by omega) hP]
theorem gp_self {g : Int} (hP : 1 < P) (g1 : 1 ≤ g) (g2 : g < P) (hg : pw g Q P = 1) (hQ : 0 < Q) {i : Int} (h : i % Q = 1 % Q) : gp P Q g i = g := by
  have : gp P Q g i = gp P Q g 1 := by unfold gp; rw [h]
  rw [this, ← gp_of hP hQ hg (by omega), pw_one, Int.emod_eq_of_lt (by omega) g2]
theorem gp_mod (g i : Int) : gp P Q g (i % Q) = gp P Q g i := by unfold gp; rw [Int.emod_emod]
theorem gp_congr (g : Int) {i j : Int} (h : i % Q = j % Q) : gp P Q g i = gp P Q g j := by unfold gp; rw [h]
theorem gp_gp {g : Int} (hP : 1 < P) (hQ : 0 < Q) (hg : pw g Q P = 1) (i j : Int) : gp P Q (gp P Q g i) j = gp P Q g (i * j) := by
  have h1 := Int.emod_nonneg i (by omega : Q ≠ 0)
  have h2 := Int.emod_nonneg j (by omega : Q ≠ 0)
  unfold gp
  rw [pw_pw g _ _ P h1 h2, pw_red hP hQ hg (Int.mul_nonneg h1 h2), ← Int.mul_emod]
theorem gp_mem {g : Int} (hP : 1 < P) (hQ : 0 < Q) (hg : pw g Q P = 1) (i : Int) : pw (gp P Q g i) Q P = 1 := by
  have h1 := Int.emod_nonneg i (by omega : Q ≠ 0)
  unfold gp
  rw [pw_pw g _ _ P h1 (by omega), Int.mul_comm, ← pw_pw g Q _ P (by omega) h1, hg, one_pw, Int.emod_eq_of_lt (by omega) hP]
theorem mem_mul {x y : Int} (hP : 1 < P) (hx : pw x Q P = 1) (hy : pw y Q P = 1) : pw (x * y % P) Q P = 1 := by
  rw [pw_emod, pw_mul, hx, hy, Int.one_mul, Int.emod_eq_of_lt (by omega) hP]
theorem mem_pos {z : Int} (hP : 1 < P) (hQ : 0 < Q) (h0 : 0 ≤ z) (h : pw z Q P = 1) : 1 ≤ z := by
  by_cases e : z = 0
  · subst e
    have : pw 0 Q P = 0 := by unfold pw; rw [Int.zero_pow (by omega), Int.zero_emod]
    omega
  · omega
theorem gp_mul_left {x y : Int} (hP : 1 < P) (i : Int) : gp P Q (x * y % P) i = gp P Q x i * gp P Q y i % P := by
  unfold gp; rw [pw_emod, pw_mul]
/-- what is cancelled -/
theorem gp_cancel {g x : Int} (hP : 1 < P) (hQ : 0 < Q) (hg : pw g Q P = 1) (i : Int) (x0 : 0 ≤ x) (x1 : x < P) : x * gp P Q g (-i) % P * gp P Q g i % P = x := by
  have h := gp_add hP hQ hg (-i) i
  rw [show -i + i = 0 by omega, gp_zero hP] at h
  rw [Int.mul_emod, Int.emod_emod, ← Int.mul_emod, Int.mul_assoc, Int.mul_emod, ← h, Int.mul_one, Int.emod_emod, Int.emod_eq_of_lt x0 x1]
/-- a member that is not 1 has the order Q -/
theorem gp_ne_one {g : Int} (hP : 1 < P) (hQ : Prime Q.toNat) (hg : pw g Q P = 1) (g2 : 2 ≤ g) (g3 : g < P) {i : Int} (h : gp P Q g i = 1) : i % Q = 0 := by
  have hQ0 : 0 < Q := by have := hQ.1; omega
  by_cases hi : i % Q = 0
  · exact hi
  · exfalso
    have hc : gcdI (i % Q) Q = 1 := by
      have h1 := Int.emod_nonneg i (by omega : Q ≠ 0)
      have h2 := Int.emod_lt_of_pos i hQ0
      have h3 : ¬ Q.toNat ∣ (i % Q).toNat := fun hd => by have := Nat.le_of_dvd (by omega) hd; omega
      have h4 := hQ.coprime h3
      unfold gcdI
      rw [Int.gcd, Int.natAbs_of_nonneg h1 |> fun e => (by omega : (i % Q).natAbs = (i % Q).toNat), (by omega : Q.natAbs = Q.toNat), Nat.gcd_comm, h4]; rfl
    obtain ⟨k1, k2, k3⟩ := invI_spec hQ0 hc
    have h5 : gp P Q (gp P Q g i) (invI (i % Q) Q) = gp P Q g (i * invI (i % Q) Q) := gp_gp hP hQ0 hg _ _
    rw [h] at h5
    have h6 : gp P Q 1 (invI (i % Q) Q) = 1 := by unfold gp; rw [one_pw, Int.emod_eq_of_lt (by omega) hP]
    rw [h6, gp_self hP (by omega) g3 hg hQ0 (by
      have e := k3
      rw [Int.emod_emod] at e
      rw [Int.mul_comm, ← mul_emod_right]
      exact e)] at h5
    omega
theorem prime_toNat {Q : Int} (h : Prime Q.toNat) : 0 < Q := by have := h.1; omega
/-- every member is a power of each that is not 1 -/
theorem gp_all {g x : Int} (hP : Prime P.toNat) (hQ : Prime Q.toNat) (hg : pw g Q P = 1) (g2 : 2 ≤ g) (g3 : g < P) (hx : pw x Q P = 1) (x0 : 0 ≤ x) (x1 : x < P) : ∃ i : Nat, (i : Int) < Q ∧ gp P Q g i = x := by
  refine Classical.byContradiction fun hn => ?_
  have hP1 : 1 < P := by have := hP.1; omega
  have hQ0 := prime_toNat hQ
  have hPe : ((P.toNat : Nat) : Int) = P := Int.toNat_of_nonneg (by omega)
  have key : ∀ a b : Int, 0 ≤ a → a < P → 0 ≤ b → b < P → ((P.toNat : Nat) : Int) ∣ b - a → a = b := by
    intro a b a0 a1 b0 b1 hd
    rw [hPe] at hd
    have := emod_of_dvd_sub hd
    rw [Int.emod_eq_of_lt b0 b1, Int.emod_eq_of_lt a0 a1] at this
    exact this.symm
  refine pow_roots hP Q.toNat (by omega) (x :: (List.range Q.toNat).map fun (i : Nat) => gp P Q g (i : Int)) (by simp) ?_ ?_
  · refine List.pairwise_cons.2 ⟨fun y hy => ?_, ?_⟩
    · obtain ⟨i, hi, rfl⟩ := List.mem_map.1 hy
      intro hd
      have hb := gp_bd (Q := Q) (by omega : 0 < P) g (i : Int)
      have hi := List.mem_range.1 hi
      exact hn ⟨i, by omega, (key x _ x0 x1 hb.1 hb.2 hd).symm⟩
    · rw [List.pairwise_map]
      refine List.Pairwise.imp_of_mem ?_ (List.pairwise_lt_range (n := Q.toNat))
      intro i j hi hj hlt hd
      have hi := List.mem_range.1 hi
      have hj := List.mem_range.1 hj
      have bi := gp_bd (Q := Q) (by omega : 0 < P) g (i : Int)
      have bj := gp_bd (Q := Q) (by omega : 0 < P) g (j : Int)
      have e := key _ _ bi.1 bi.2 bj.1 bj.2 hd
      have h1 : gp P Q g ((j : Int) - (i : Int)) = 1 := by
        have h2 := gp_add hP1 hQ0 hg (j : Int) (-(i : Int))
        have h3 := gp_add hP1 hQ0 hg (i : Int) (-(i : Int))
        rw [show (i : Int) + -(i : Int) = 0 by omega, gp_zero hP1, e] at h3
        rw [show (j : Int) - (i : Int) = (j : Int) + -(i : Int) by omega, h2]
        exact h3.symm
      have h2 := gp_ne_one hP1 hQ hg g2 g3 h1
      rw [Int.emod_eq_of_lt (by omega) (by omega)] at h2
      omega
  · intro r hr
    have fin : ∀ z : Int, pw z Q P = 1 → ((P.toNat : Nat) : Int) ∣ z ^ Q.toNat - 1 := by
      intro z hz
      rw [hPe]
      refine Int.dvd_of_emod_eq_zero ?_
      rw [Int.sub_emod]
      have : z ^ Q.toNat % P = 1 := hz
      rw [this, Int.emod_eq_of_lt (by omega) hP1]; simp
    rcases List.mem_cons.1 hr with rfl | hr
    · exact fin _ hx
    · obtain ⟨i, _, rfl⟩ := List.mem_map.1 hr
      exact fin _ (gp_mem hP1 hQ0 hg _)
end
end Lw
set_option linter.unusedVariables false
set_option linter.unusedSimpArgs false
namespace Lw
theorem mul4 (a b c d m : Int) : (a * b % m) * (c * d % m) % m = (a * c % m) * (b * d % m) % m := by
  rw [← Int.mul_emod, ← Int.mul_emod]
  congr 1
  rw [Int.mul_assoc, Int.mul_assoc]
  congr 1
  rw [← Int.mul_assoc, ← Int.mul_assoc, Int.mul_comm b c]
theorem prime_gcd {Q d : Int} (hQ : Prime Q.toNat) (h1 : 0 < d) (h2 : d < Q) : gcdI d Q = 1 := by
  have h3 : ¬ Q.toNat ∣ d.toNat := fun hd => by have := Nat.le_of_dvd (by omega) hd; omega
  have h4 := hQ.coprime h3
  unfold gcdI
  rw [Int.gcd, (by omega : d.natAbs = d.toNat), (by omega : Q.natAbs = Q.toNat), Nat.gcd_comm, h4]; rfl
section
variable {P Q G H : Int}
theorem brk0 (hP : 1 < P) (hQ : 0 < Q) (hG : pw G Q P = 1) (hH : pw H Q P = 1) {m r n s : Int} (h : gp P Q G m * gp P Q H r % P = gp P Q G n * gp P Q H s % P) : gp P Q G (m - n) = gp P Q H (s - r) := by
  have e1 := mul4 (gp P Q G m) (gp P Q H r) (gp P Q G (-n)) (gp P Q H (-r)) P
  have e2 := mul4 (gp P Q G n) (gp P Q H s) (gp P Q G (-n)) (gp P Q H (-r)) P
  rw [h] at e1
  rw [e1] at e2
  rw [← gp_add hP hQ hG, ← gp_add hP hQ hG, ← gp_add hP hQ hH, ← gp_add hP hQ hH] at e2
  rw [show r + -r = 0 by omega, show n + -n = 0 by omega, gp_zero hP, gp_zero hP, Int.mul_one, Int.one_mul] at e2
  have b1 := gp_bd (Q := Q) (by omega : 0 < P) G (m + -n)
  have b2 := gp_bd (Q := Q) (by omega : 0 < P) H (s + -r)
  rw [Int.emod_eq_of_lt b1.1 b1.2, Int.emod_eq_of_lt b2.1 b2.2] at e2
  exact e2
/-- from G by u is H by v: G by u / v is H -/
theorem quot (hP : 1 < P) (hQ : Prime Q.toNat) (hG : pw G Q P = 1) (hH : pw H Q P = 1) (H1 : 1 ≤ H) (H2 : H < P) {u v : Int} (h : gp P Q G u = gp P Q H v) (hv : ¬ v % Q = 0) :
    gcdI (v % Q) Q = 1 ∧ 0 ≤ u % Q * invI (v % Q) Q % Q ∧ u % Q * invI (v % Q) Q % Q < Q ∧ pw G (u % Q * invI (v % Q) Q % Q) P = H := by
  have hQ0 := prime_toNat hQ
  have v1 := Int.emod_nonneg v (by omega : Q ≠ 0)
  have v2 := Int.emod_lt_of_pos v hQ0
  have hg := prime_gcd hQ (by omega : 0 < v % Q) v2
  obtain ⟨k1, k2, k3⟩ := invI_spec hQ0 hg
  have b := emod_bd (u % Q * invI (v % Q) Q) Q hQ0
  refine ⟨hg, b.1, b.2, ?_⟩
  rw [gp_of hP hQ0 hG b.1, gp_mod, gp_congr G (j := u * invI (v % Q) Q) (mul_emod_left _ _ _), ← gp_gp hP hQ0 hG, h, gp_gp hP hQ0 hH]
  refine gp_self hP H1 H2 hH hQ0 ?_
  rw [Int.emod_emod] at k3
  rw [Int.mul_comm, ← mul_emod_right]
  exact k3
theorem brk (hP : 1 < P) (hQ : Prime Q.toNat) (hG : pw G Q P = 1) (hH : pw H Q P = 1) (G1 : 2 ≤ G) (G2 : G < P) (H1 : 2 ≤ H) (H2 : H < P) {m r n s : Int} (m1 : 0 ≤ m) (m2 : m < Q) (r1 : 0 ≤ r) (r2 : r < Q) (n1 : 0 ≤ n) (n2 : n < Q) (s1 : 0 ≤ s) (s2 : s < Q)
    (hne : ¬ (m = n ∧ r = s)) (h : pw G m P * pw H r P % P = pw G n P * pw H s P % P) :
    gcdI ((s - r) % Q) Q = 1 ∧ 0 ≤ (m - n) % Q * invI ((s - r) % Q) Q % Q ∧ (m - n) % Q * invI ((s - r) % Q) Q % Q < Q ∧ pw G ((m - n) % Q * invI ((s - r) % Q) Q % Q) P = H := by
  have hQ0 := prime_toNat hQ
  rw [gp_of hP hQ0 hG m1, gp_of hP hQ0 hH r1, gp_of hP hQ0 hG n1, gp_of hP hQ0 hH s1] at h
  have e := brk0 hP hQ0 hG hH h
  refine quot hP hQ hG hH (by omega) H2 e fun hv => hne ?_
  have z : ∀ d : Int, -Q < d → d < Q → d % Q = 0 → d = 0 := fun d d1 d2 hd => by
    by_cases h0 : 0 ≤ d
    · rw [Int.emod_eq_of_lt h0 d2] at hd; exact hd
    · have : d % Q = d + Q := by rw [← Int.add_emod_right, Int.emod_eq_of_lt (by omega) (by omega)]
      omega
  have hs := z _ (by omega) (by omega) hv
  have hu : gp P Q G (m - n) = 1 := by rw [e, hs, gp_zero hP]
  have hm := z _ (by omega) (by omega) (gp_ne_one hP hQ hG G1 G2 hu)
  omega
/-- two answers -/
theorem two_answers (hP : 1 < P) (hQ : 0 < Q) (hG : pw G Q P = 1) {F y : Int} (hF : pw F Q P = 1) (F1 : 1 ≤ F) (F2 : F < P) (hy : pw y Q P = 1) {a k b l : Int} (a1 : 0 ≤ a) (k1 : 0 ≤ k) (b1 : 0 ≤ b) (l1 : 0 ≤ l)
    (h1 : pw G a P = F * pw y k P % P) (h2 : pw G b P = F * pw y l P % P) : gp P Q G (a - b) = gp P Q y (k - l) := by
  rw [gp_of hP hQ hG a1, gp_of hP hQ hy k1] at h1
  rw [gp_of hP hQ hG b1, gp_of hP hQ hy l1] at h2
  have h3 : gp P Q G (-b) = gp P Q F (-1) * gp P Q y (-l) % P := by
    have := gp_gp hP hQ hG b (-1)
    rw [show b * -1 = -b by omega] at this
    rw [← this, h2, gp_mul_left hP, gp_gp hP hQ hy, show l * -1 = -l by omega]
  have h4 : gp P Q F 1 = F := gp_self hP F1 F2 hF hQ rfl
  have e := gp_add hP hQ hG a (-b)
  have h5 : F * gp P Q y k % P = gp P Q F 1 * gp P Q y k % P := by rw [h4]
  rw [h1, h3, h5, mul4, ← gp_add hP hQ hF, ← gp_add hP hQ hy, show (1 : Int) + -1 = 0 by omega, gp_zero hP, Int.one_mul] at e
  have c := gp_bd (Q := Q) (by omega : 0 < P) y (k + -l)
  rw [Int.emod_eq_of_lt c.1 c.2] at e
  exact e
end
end Lw
