/- The divisors of a number out of its primes, plain. -/
import Derived.Test.YtlgegdmnbhoepaaCnt
import Derived.Test.YtlgegdmnbhoepaaFacRef
namespace Lw
/-- the products with one more power, so often -/
def stepJ (L : List Nat) (p : Nat) : Nat → List Nat
  | 0 => L
  | j + 1 => stepJ L p j ++ L.map (fun d => d * p ^ (j + 1))
def stepD (L : List Nat) (x : Nat × Nat) : List Nat := stepJ L x.1 x.2
def prodL (l : List (Nat × Nat)) : Nat := (l.map fun x => x.1 ^ x.2).foldl (· * ·) 1
theorem foldl_mul (l : List Nat) : ∀ a : Nat, l.foldl (· * ·) a = a * l.foldl (· * ·) 1 := by
  induction l with
  | nil => intro a; simp
  | cons x l ih => intro a; simp only [List.foldl_cons]; rw [ih (a * x), ih (1 * x), Nat.one_mul, Nat.mul_assoc]
theorem prodL_cons (x : Nat × Nat) (l : List (Nat × Nat)) : prodL (x :: l) = x.1 ^ x.2 * prodL l := by
  unfold prodL; simp only [List.map_cons, List.foldl_cons]; rw [foldl_mul, Nat.one_mul]
/-- all divisors, each once -/
def DvP (N : Nat) (L : List Nat) : Prop := L.Nodup ∧ (∀ d, d ∈ L ↔ d ∣ N) ∧ L.length ≤ N ∧ 0 < N
theorem dvp_one : DvP 1 [1] := ⟨by simp, fun d => by simp, by simp, by decide⟩
theorem stepJ_length (L : List Nat) (p : Nat) : ∀ j, (stepJ L p j).length = L.length * (j + 1)
  | 0 => by simp [stepJ]
  | j + 1 => by unfold stepJ; rw [List.length_append, List.length_map, stepJ_length L p j, Nat.mul_succ L.length (j + 1)]
theorem lt_pow_two (j : Nat) : j + 1 ≤ 2 ^ j := by
  induction j with
  | zero => decide
  | succ j ih => rw [Nat.pow_succ]; omega
theorem succ_le_pow {p : Nat} (hp : 2 ≤ p) (j : Nat) : j + 1 ≤ p ^ j := Nat.le_trans (lt_pow_two j) (Nat.pow_le_pow_left hp j)
theorem dvp_step {N p : Nat} {L : List Nat} (h : DvP N L) (hp : Prime p) (hn : ¬ p ∣ N) : ∀ j, DvP (N * p ^ j) (stepJ L p j)
  | 0 => by rw [Nat.pow_zero, Nat.mul_one]; exact h
  | j + 1 => by
    obtain ⟨h1, h2, h3, h4⟩ := dvp_step h hp hn j
    obtain ⟨g1, g2, g3, g4⟩ := h
    have hp0 : 0 < p := by have := hp.1; omega
    have hpj : 0 < p ^ (j + 1) := Nat.pow_pos hp0
    refine ⟨?_, fun d => ?_, ?_, Nat.mul_pos g4 hpj⟩
    · unfold stepJ
      rw [List.nodup_append]
      refine ⟨h1, ?_, fun a ha b hb e => ?_⟩
      · exact List.Pairwise.map _ (fun a b hab e => hab (Nat.eq_of_mul_eq_mul_right hpj e)) g1
      · subst e
        obtain ⟨d, hd, rfl⟩ := List.mem_map.1 hb
        have h5 := (h2 _).1 ha
        have h6 : p ^ (j + 1) ∣ N * p ^ j := Nat.dvd_trans (Nat.dvd_mul_left _ _) h5
        rw [Nat.pow_succ, Nat.mul_comm (p ^ j) p] at h6
        have h7 : p ∣ N := (Nat.dvd_of_mul_dvd_mul_right (Nat.pow_pos hp0) h6)
        exact hn h7
    · unfold stepJ
      rw [List.mem_append, h2 d, List.mem_map]
      constructor
      · rintro (h | ⟨e, he, rfl⟩)
        · exact Nat.dvd_trans h (Nat.mul_dvd_mul_left N (by rw [Nat.pow_succ]; exact Nat.dvd_mul_right _ _))
        · exact Nat.mul_dvd_mul_right ((g2 e).1 he) _
      · intro h
        by_cases h5 : p ^ (j + 1) ∣ d
        · obtain ⟨e, rfl⟩ := h5
          rw [Nat.mul_comm N, Nat.mul_comm] at h
          rw [Nat.mul_comm (p ^ (j + 1)) N] at h
          exact .inr ⟨e, (g2 e).2 (Nat.dvd_of_mul_dvd_mul_right hpj h), Nat.mul_comm _ _⟩
        · refine .inl ?_
          -- d = p^i e with i ≤ j and e prime to p
          obtain ⟨i, e, rfl, hi⟩ : ∃ i e, d = p ^ i * e ∧ ¬ p ∣ e := by
            have hd0 : 0 < d := Nat.pos_of_ne_zero (fun e => by subst e; exact h5 (Nat.dvd_zero _))
            obtain ⟨s1, s2, s3⟩ := strip_spec p hp.1 d hd0
            exact ⟨_, _, s1, fun hh => s3 (Nat.mod_eq_zero_of_dvd hh)⟩
          have hij : i ≤ j := by
            rcases Nat.lt_or_ge j i with h6 | h6
            · exact absurd (Nat.dvd_trans (Nat.pow_dvd_pow p (show j + 1 ≤ i from h6)) (Nat.dvd_mul_right _ _)) h5
            · exact h6
          have hcop : Nat.Coprime e (p ^ (j + 1)) := Nat.Coprime.pow_right _ (by
            have := hp.coprime hi
            exact (Nat.coprime_comm.1 this))
          have he : e ∣ N := hcop.dvd_of_dvd_mul_right (Nat.dvd_trans (Nat.dvd_mul_left _ _) h)
          rw [Nat.mul_comm]
          exact Nat.mul_dvd_mul he (Nat.pow_dvd_pow p hij)
    · rw [stepJ_length]
      exact Nat.mul_le_mul g3 (succ_le_pow hp.1 (j + 1))
/-- what holds when a power's turn has come -/
theorem dv_pref (n : Nat) : ∀ (M : Nat) (L : List Nat), 0 < n → DvP M L → (∀ q, Prime q → q ∣ n → ¬ q ∣ M) → ∀ pre, pre <+: fac n → DvP (M * prodL pre) (pre.foldl stepD L) ∧ M * prodL pre ∣ M * n ∧
    (∀ x, pre ++ [x] <+: fac n → Prime x.1 ∧ ¬ x.1 ∣ M * prodL pre ∧ M * prodL pre * x.1 ^ x.2 ∣ M * n) := by
  induction n using Nat.strongRecOn with
  | ind n ih =>
    intro M L hn hL hq pre hpre
    by_cases h : 2 ≤ n
    · rw [fac_cons h] at hpre ⊢
      obtain ⟨s1, s2, s3⟩ := minFac_spec h
      have hp := minFac_prime h
      obtain ⟨t1, t2, t3⟩ := strip_spec (minFac n) s1 n hn
      have hlt := strip_lt s1 hn (Nat.mod_eq_zero_of_dvd s2)
      obtain ⟨p, hpe⟩ : ∃ p, minFac n = p := ⟨_, rfl⟩
      rw [hpe] at hpre hp t1 t2 t3 hlt s2 ⊢
      obtain ⟨v, hv⟩ : ∃ v, vp p n = v := ⟨_, rfl⟩
      rw [hv] at hpre t1 ⊢
      obtain ⟨m, hm⟩ : ∃ m, strip p n = m := ⟨_, rfl⟩
      rw [hm] at hpre t1 t2 t3 hlt ⊢
      have hpM : ¬ p ∣ M := hq p hp s2
      cases pre with
      | nil =>
        refine ⟨by simpa [prodL] using hL, by simp [prodL]; exact Nat.dvd_mul_right _ _, fun x hx => ?_⟩
        obtain ⟨t, ht⟩ := hx
        simp at ht
        obtain ⟨rfl, _⟩ := ht
        refine ⟨hp, by simpa [prodL] using hpM, ?_⟩
        rw [t1]
        simp [prodL]
        exact Nat.mul_dvd_mul_left M (Nat.dvd_mul_right _ _)
      | cons y pre =>
        obtain ⟨t, ht⟩ := hpre
        simp at ht
        obtain ⟨rfl, ht⟩ := ht
        have h2 := dvp_step hL hp hpM v
        have hq2 : ∀ q, Prime q → q ∣ m → ¬ q ∣ M * p ^ v := fun q hq1 hqm hd => by
          rcases hq1.dvd_mul hd with h3 | h3
          · exact hq q hq1 (by rw [t1]; exact Nat.dvd_trans hqm (Nat.dvd_mul_left _ _)) h3
          · have h4 := hq1.dvd_pow h3
            rcases hp.dvd h4 with h5 | h5
            · have := hq1.1; omega
            · subst h5; exact t3 (Nat.mod_eq_zero_of_dvd hqm)
        obtain ⟨k1, k2, k3⟩ := ih m hlt (M * p ^ v) (stepJ L p v) t2 h2 hq2 pre ⟨t, ht⟩
        have e1 : M * prodL ((p, v) :: pre) = M * p ^ v * prodL pre := by rw [prodL_cons, Nat.mul_assoc]
        have e2 : M * n = M * p ^ v * m := by rw [t1, Nat.mul_assoc]
        rw [e1, e2]
        refine ⟨k1, k2, fun x hx => ?_⟩
        obtain ⟨t', ht'⟩ := hx
        simp at ht'
        exact k3 x ⟨t', by simpa using ht'⟩
    · have : fac n = [] := fac_small (by omega)
      rw [this] at hpre ⊢
      obtain rfl : pre = [] := by simpa using hpre
      refine ⟨by simpa [prodL] using hL, by simp [prodL]; exact Nat.dvd_mul_right _ _, fun x hx => ?_⟩
      obtain ⟨t, ht⟩ := hx
      simp at ht
theorem prodL_fac (n : Nat) : 0 < n → prodL (fac n) = n := by
  induction n using Nat.strongRecOn with
  | ind n ih =>
    intro hn
    by_cases h : 2 ≤ n
    · obtain ⟨s1, s2, s3⟩ := minFac_spec h
      obtain ⟨t1, t2, t3⟩ := strip_spec (minFac n) s1 n hn
      rw [fac_cons h, prodL_cons, ih _ (strip_lt s1 hn (Nat.mod_eq_zero_of_dvd s2)) t2]
      exact t1.symm
    · rw [fac_small (by omega)]
      have : n = 1 := by omega
      subst this; rfl
def dvL (n : Nat) : List Nat := (fac n).foldl stepD [1]
theorem dvL_ok {n : Nat} (hn : 0 < n) : DvP n (dvL n) := by
  have h := (dv_pref n 1 [1] hn dvp_one (fun q hq _ h => by have := Nat.le_of_dvd (by decide) h; have := hq.1; omega) (fac n) (List.prefix_refl _)).1
  rw [Nat.one_mul, prodL_fac n hn] at h
  exact h
/-- the reference's list: what divides, in order -/
def dvR (n : Nat) : Nat → List Int
  | 0 => []
  | k + 1 => dvR n k ++ (if n % (k + 1) = 0 then [((k + 1 : Nat) : Int)] else [])
theorem dvR_mem (n : Nat) : ∀ (k : Nat) (z : Int), z ∈ dvR n k ↔ ∃ d : Nat, z = (d : Int) ∧ 1 ≤ d ∧ d ≤ k ∧ d ∣ n
  | 0, z => by simp [dvR]; intro d h1 h2 h3; omega
  | k + 1, z => by
    unfold dvR
    rw [List.mem_append, dvR_mem n k z]
    constructor
    · rintro (⟨d, h1, h2, h3, h4⟩ | h)
      · exact ⟨d, h1, h2, by omega, h4⟩
      · by_cases hd : n % (k + 1) = 0
        · rw [if_pos hd] at h; simp at h
          exact ⟨k + 1, by omega, by omega, by omega, Nat.dvd_of_mod_eq_zero hd⟩
        · rw [if_neg hd] at h; cases h
    · rintro ⟨d, h1, h2, h3, h4⟩
      by_cases e : d = k + 1
      · subst e
        rw [if_pos (Nat.mod_eq_zero_of_dvd h4)]
        exact .inr (by simp; omega)
      · exact .inl ⟨d, h1, h2, by omega, h4⟩
theorem dvR_sorted (n : Nat) : ∀ k : Nat, (dvR n k).Pairwise (fun a b => a < b) ∧ (dvR n k).length ≤ k
  | 0 => by simp [dvR]
  | k + 1 => by
    obtain ⟨h1, h2⟩ := dvR_sorted n k
    unfold dvR
    by_cases hd : n % (k + 1) = 0
    · rw [if_pos hd]
      refine ⟨List.pairwise_append.2 ⟨h1, by simp, fun a ha b hb => ?_⟩, by simp; omega⟩
      obtain ⟨d, rfl, _, h5, _⟩ := (dvR_mem n k a).1 ha
      simp at hb
      omega
    · rw [if_neg hd, List.append_nil]; exact ⟨h1, by omega⟩
def castL (l : List Nat) : List Int := l.map fun d : Nat => (d : Int)
theorem dv_sorted {n : Nat} (hn : 0 < n) : (castL (dvL n)).mergeSort (fun x y => decide (x ≤ y)) = dvR n n := by
  obtain ⟨h1, h2, h3, h4⟩ := dvL_ok hn
  have tr : ∀ a b c : Int, decide (a ≤ b) = true → decide (b ≤ c) = true → decide (a ≤ c) = true := by intro a b c; simp; omega
  have to : ∀ a b : Int, (decide (a ≤ b) || decide (b ≤ a)) = true := by intro a b; simp; omega
  have hs := (dvR_sorted n n).1
  refine List.Perm.eq_of_pairwise (le := fun a b => decide (a ≤ b) = true) (fun a b _ _ h1 h2 => by simp only [decide_eq_true_eq] at h1 h2; omega) (List.pairwise_mergeSort tr to _) (hs.imp_of_mem fun {a b} _ _ h => by simp only [decide_eq_true_eq]; omega) ((List.mergeSort_perm _ _).trans ?_)
  refine (List.perm_ext_iff_of_nodup (List.Pairwise.map _ (fun a b hab e => hab (by omega)) h1) (hs.imp_of_mem fun {a b} _ _ h => by omega)).2 fun x => ?_
  rw [dvR_mem, List.mem_map]
  constructor
  · rintro ⟨d, hd, rfl⟩
    have h5 := (h2 d).1 hd
    exact ⟨d, rfl, Nat.pos_of_dvd_of_pos h5 hn, Nat.le_of_dvd hn h5, h5⟩
  · rintro ⟨d, rfl, _, _, h5⟩
    exact ⟨d, (h2 d).2 h5, rfl⟩
end Lw
