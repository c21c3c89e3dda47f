/- Values of polynomials by a prime: sums, products, how many roots; what goes through points, by Newton's way and by Lagrange's (plain). -/
import Derived.Test.YtlgegdmnbhoepaaPlv
import Derived.Test.YtlgegdmnbhoepaaPlo
namespace Lw
def sumC (f : Nat → Int) (x : Int) : Nat → Int
  | 0 => 0
  | k + 1 => sumC f x k + f k * x ^ k
theorem sumI_C (zs : List Int) (x : Int) : ∀ k, sumI zs x k = sumC (fun i => zs.getD i 0) x k
  | 0 => rfl
  | k + 1 => by show sumI zs x k + _ = sumC _ x k + _; rw [sumI_C zs x k]
theorem sumC_long {f : Nat → Int} {x : Int} {k : Nat} (h : ∀ i, k ≤ i → f i = 0) : ∀ t, sumC f x (k + t) = sumC f x k
  | 0 => rfl
  | t + 1 => by show sumC f x (k + t) + f (k + t) * _ = _; rw [sumC_long h t, h (k + t) (by omega)]; simp
theorem eval_C {zs : List Int} {x : Int} {N : Nat} (h : zs.length ≤ N) : evalI zs x = sumC (fun i => zs.getD i 0) x N := by
  obtain ⟨t, rfl⟩ : ∃ t, N = zs.length + t := ⟨N - zs.length, by omega⟩
  rw [sumC_long (fun i hi => getD_out hi) t, ← sumI_C, sumI_all]
theorem sumC_mod {f g : Nat → Int} {p x : Int} (h : ∀ i, f i % p = g i % p) : ∀ k, sumC f x k % p = sumC g x k % p
  | 0 => rfl
  | k + 1 => by
    show (sumC f x k + f k * x ^ k) % p = (sumC g x k + g k * x ^ k) % p
    rw [Int.add_emod, sumC_mod h k, Int.mul_emod, h k, ← Int.mul_emod, ← Int.add_emod]
theorem sumC_lin (f g : Nat → Int) (κ x : Int) : ∀ k, sumC (fun i => f i + κ * g i) x k = sumC f x k + κ * sumC g x k
  | 0 => by simp [sumC]
  | k + 1 => by
    show sumC (fun i => f i + κ * g i) x k + (f k + κ * g k) * x ^ k = sumC f x k + f k * x ^ k + κ * (sumC g x k + g k * x ^ k)
    rw [sumC_lin f g κ x k]; grind
theorem sumC_shift (g : Nat → Int) (x : Int) (u : Nat) : ∀ k, sumC (fun i => if u ≤ i then g (i - u) else 0) x (u + k) = x ^ u * sumC g x k
  | 0 => by
    have : ∀ v, v ≤ u → sumC (fun i => if u ≤ i then g (i - u) else 0) x v = 0 := by
      intro v
      induction v with
      | zero => intro _; rfl
      | succ v ih => intro hv; show sumC _ x v + (if u ≤ v then _ else _) * _ = 0; rw [ih (by omega), if_neg (by omega)]; simp
    rw [Nat.add_zero, this u (Nat.le_refl _)]; simp [sumC]
  | k + 1 => by
    show sumC _ x (u + k) + (if u ≤ u + k then g (u + k - u) else 0) * x ^ (u + k) = x ^ u * (sumC g x k + g k * x ^ k)
    rw [sumC_shift g x u k, if_pos (by omega), show u + k - u = k by omega, Int.pow_add]; grind
theorem eval_plus (p : Int) (a b : List Int) (κ : Int) (u : Nat) (x : Int) : evalI (plusL p a b κ u) x % p = (evalI a x + κ * (x ^ u * evalI b x)) % p := by
  have hl := plusL_len (p := p) (a := a) (b := b) (κ := κ) (u := u)
  rw [eval_C (N := u + (a.length + b.length)) (by omega), eval_C (zs := a) (N := u + (a.length + b.length)) (by omega), eval_C (zs := b) (N := a.length + b.length) (by omega), ← sumC_shift, ← sumC_lin]
  refine sumC_mod (fun i => ?_) _
  rw [plusL_getD]
  unfold plusV
  rw [Int.emod_emod_of_dvd _ (Int.dvd_refl p)]
theorem eval_timesK (p : Int) (a b : List Int) (x : Int) : ∀ k, evalI (timesK p a b k) x % p = (sumC (fun i => a.getD i 0) x k * evalI b x) % p
  | 0 => by simp [timesK, evalI, sumC]
  | k + 1 => by
    show evalI (plusL p (timesK p a b k) b (a.getD k 0) k) x % p = ((sumC _ x k + a.getD k 0 * x ^ k) * evalI b x) % p
    rw [eval_plus, Int.add_emod, eval_timesK p a b x k, ← Int.add_emod]
    congr 1; grind
theorem eval_times (p : Int) (a b : List Int) (x : Int) : evalI (timesK p a b a.length) x % p = (evalI a x * evalI b x) % p := by
  rw [eval_timesK, eval_C (zs := a) (Nat.le_refl _)]
theorem eval_trim (l : List Int) (x : Int) : evalI (trimL l) x = evalI l x := by
  rw [eval_C (trim_len l), eval_C (zs := l) (Nat.le_refl _)]
  congr 1; funext i; exact trim_getD l i
theorem times_short {p : Int} {a b : List Int} : ∀ k, (timesK p a b k).length ≤ b.length + k - 1
  | 0 => Nat.zero_le _
  | k + 1 => by
    have h1 := plusL_len (p := p) (a := timesK p a b k) (b := b) (κ := a.getD k 0) (u := k)
    have h2 := times_short (p := p) (a := a) (b := b) k
    show (plusL p (timesK p a b k) b (a.getD k 0) k).length ≤ _
    omega
theorem eval_two (c k x : Int) : evalI [c, k] x = k * x + c := by simp [evalI]
theorem pri_mul {P a b : Int} (hp : primeB P = true) (h : (a * b) % P = 0) : a % P = 0 ∨ b % P = 0 := by
  have hp' : Prime P.toNat := by simpa [primeB] using hp
  have h2 := hp'.1
  have h3 : P.toNat ∣ a.natAbs * b.natAbs := by
    rw [← Int.natAbs_mul]
    have := Int.natAbs_dvd_natAbs.2 (Int.dvd_of_emod_eq_zero h)
    rwa [show P.natAbs = P.toNat by omega] at this
  rcases hp'.dvd_mul h3 with h4 | h4
  · exact .inl (Int.emod_eq_zero_of_dvd (Int.natAbs_dvd_natAbs.1 (by rwa [show P.natAbs = P.toNat by omega])))
  · exact .inr (Int.emod_eq_zero_of_dvd (Int.natAbs_dvd_natAbs.1 (by rwa [show P.natAbs = P.toNat by omega])))
/-! a polynomial has no more roots than places -/
def quo (c : Int) : List Int → List Int
  | [] => []
  | _ :: M => match M with
    | [] => []
    | _ :: _ => evalI M c :: quo c M
theorem quo_len (c : Int) : ∀ L, (quo c L).length = L.length - 1
  | [] => rfl
  | [_] => rfl
  | _ :: b :: M => by
    show (quo c (b :: M)).length + 1 = _
    rw [quo_len c (b :: M)]; simp
theorem eval_cons (a : Int) (M : List Int) (x : Int) : evalI (a :: M) x = evalI M x * x + a := rfl
theorem quo_eval (c x : Int) : ∀ L, evalI L x = (x - c) * evalI (quo c L) x + evalI L c
  | [] => by simp [quo, evalI]
  | [a] => by simp [quo, evalI]
  | a :: b :: M => by
    have ih := quo_eval c x (b :: M)
    show evalI (b :: M) x * x + a = (x - c) * (evalI (quo c (b :: M)) x * x + evalI (b :: M) c) + (evalI (b :: M) c * c + a)
    rw [ih]; grind
theorem quo_dvd {p c : Int} : ∀ L, (∀ z ∈ quo c L, z % p = 0) → evalI L c % p = 0 → ∀ z ∈ L, z % p = 0
  | [], _, _, _, hz => by cases hz
  | [a], _, h, z, hz => by
    simp at hz; subst hz
    simpa [evalI] using h
  | a :: b :: M, hq, h, z, hz => by
    have h1 : evalI (b :: M) c % p = 0 := hq _ (List.mem_cons_self ..)
    have h2 := quo_dvd (p := p) (c := c) (b :: M) (fun z hz => hq z (List.mem_cons_of_mem _ hz)) h1
    rcases List.mem_cons.1 hz with rfl | hz
    · rw [eval_cons, Int.add_emod, Int.mul_emod, h1] at h
      simpa using h
    · exact h2 z hz
theorem few_roots {p : Int} (hp : primeB p = true) : ∀ (xs L : List Int), (∀ x ∈ xs, evalI L x % p = 0) → xs.Pairwise (fun x y => (y - x) % p ≠ 0) → L.length ≤ xs.length → ∀ z ∈ L, z % p = 0
  | [], L, _, _, h, z, hz => by
    have : L = [] := List.eq_nil_of_length_eq_zero (by simpa using h)
    subst this; cases hz
  | c :: xs, L, h0, hd, h, z, hz => by
    obtain ⟨d1, d2⟩ := List.pairwise_cons.1 hd
    have hc := h0 c (by simp)
    refine quo_dvd L (few_roots hp xs (quo c L) (fun x hx => ?_) d2 (by rw [quo_len]; simp at h; omega)) hc z hz
    have hx0 := h0 x (by simp [hx])
    rw [quo_eval c x L, Int.add_emod, hc, Int.add_zero, Int.emod_emod_of_dvd _ (Int.dvd_refl p)] at hx0
    rcases pri_mul hp hx0 with h1 | h1
    · exact absurd h1 (d1 x hx)
    · exact h1
/-- two that are trimmed and agree at as many places as they are long are the same -/
theorem same_poly {p : Int} (hp : primeB p = true) {a b : List Int} {xs : List Int} (ha : ∀ x ∈ a, 0 ≤ x ∧ x < p) (hb : ∀ x ∈ b, 0 ≤ x ∧ x < p) (p0 : 0 < p) (la : a.length ≤ xs.length) (lb : b.length ≤ xs.length)
    (ta : trimL a = a) (tb : trimL b = b) (hd : xs.Pairwise (fun x y => (y - x) % p ≠ 0)) (he : ∀ x ∈ xs, evalI a x % p = evalI b x % p) : a = b := by
  rw [← ta, ← tb]
  refine trim_unique fun i => ?_
  have hl : ((List.range xs.length).map fun i => a.getD i 0 + (-1) * b.getD i 0).length = xs.length := by simp
  have hg : ∀ i, ((List.range xs.length).map fun i => a.getD i 0 + (-1) * b.getD i 0).getD i 0 = a.getD i 0 + (-1) * b.getD i 0 := fun i => by
    by_cases hi : i < xs.length
    · rw [List.getD_eq_getElem?_getD, List.getElem?_eq_getElem (by simpa using hi)]; simp
    · have h1 := getD_out (l := (List.range xs.length).map fun i => a.getD i 0 + (-1) * b.getD i 0) (i := i) (by rw [hl]; omega)
      rw [h1, getD_out (l := a) (i := i) (by omega), getD_out (l := b) (i := i) (by omega)]; simp
  have hz := few_roots hp xs ((List.range xs.length).map fun i => a.getD i 0 + (-1) * b.getD i 0) (fun x hx => by
    rw [eval_C (N := xs.length) (by rw [hl]; exact Nat.le_refl _)]
    rw [show (fun i => ((List.range xs.length).map fun i => a.getD i 0 + (-1) * b.getD i 0).getD i 0) = fun i => a.getD i 0 + (-1) * b.getD i 0 from funext hg, sumC_lin, ← eval_C la, ← eval_C lb]
    have := he x hx
    have h1 : (evalI a x - evalI b x) % p = 0 := Int.emod_eq_emod_iff_emod_sub_eq_zero.1 this
    rw [show evalI a x + -1 * evalI b x = evalI a x - evalI b x by omega]
    exact h1) hd (by rw [hl]; exact Nat.le_refl _)
  by_cases hi : i < xs.length
  · have h1 := hz (a.getD i 0 + (-1) * b.getD i 0) (List.mem_map.2 ⟨i, List.mem_range.2 hi, rfl⟩)
    have h2 := getD_bd p0 ha i
    have h3 := getD_bd p0 hb i
    have h4 : (a.getD i 0 - b.getD i 0) % p = 0 := by rw [show a.getD i 0 - b.getD i 0 = a.getD i 0 + (-1) * b.getD i 0 by omega]; exact h1
    have h5 := Int.emod_eq_emod_iff_emod_sub_eq_zero.2 h4
    rw [Int.emod_eq_of_lt h2.1 h2.2, Int.emod_eq_of_lt h3.1 h3.2] at h5
    exact h5
  · rw [getD_out (l := a) (by omega), getD_out (l := b) (by omega)]
end Lw
