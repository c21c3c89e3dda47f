/- Commutative groups with finitely many members: powers, orders, a generator (plain). -/
import Derived.Test.YtjhjppaabmbbbaaJac
import Derived.Test.YtjhjppaabmbbbaaFac
namespace Lw
structure Ab (G : Type) where
  mul : G → G → G
  one : G
  comm : ∀ a b, mul a b = mul b a
  assoc : ∀ a b c, mul (mul a b) c = mul a (mul b c)
  one_mul : ∀ a, mul one a = a
variable {G : Type}
def Ab.pow (A : Ab G) (a : G) : Nat → G
  | 0 => A.one
  | n + 1 => A.mul (A.pow a n) a
theorem Ab.mul_one (A : Ab G) (a : G) : A.mul a A.one = a := by rw [A.comm, A.one_mul]
theorem Ab.pow_add (A : Ab G) (a : G) (m : Nat) : ∀ n, A.pow a (m + n) = A.mul (A.pow a m) (A.pow a n)
  | 0 => (A.mul_one _).symm
  | n + 1 => by
    show A.mul (A.pow a (m + n)) a = A.mul (A.pow a m) (A.mul (A.pow a n) a)
    rw [A.pow_add a m n, A.assoc]
theorem Ab.one_pow (A : Ab G) : ∀ n, A.pow A.one n = A.one
  | 0 => rfl
  | n + 1 => by show A.mul (A.pow A.one n) A.one = _; rw [A.one_pow n, A.one_mul]
theorem Ab.pow_mul (A : Ab G) (a : G) (m : Nat) : ∀ n, A.pow (A.pow a m) n = A.pow a (m * n)
  | 0 => rfl
  | n + 1 => by
    show A.mul (A.pow (A.pow a m) n) (A.pow a m) = A.pow a (m * n + m)
    rw [A.pow_mul a m n, A.pow_add]
theorem Ab.mul_pow (A : Ab G) (a b : G) : ∀ n, A.pow (A.mul a b) n = A.mul (A.pow a n) (A.pow b n)
  | 0 => (A.one_mul _).symm
  | n + 1 => by
    show A.mul (A.pow (A.mul a b) n) (A.mul a b) = A.mul (A.mul (A.pow a n) a) (A.mul (A.pow b n) b)
    rw [A.mul_pow a b n, A.assoc, A.assoc]
    congr 1
    rw [← A.assoc, ← A.assoc, A.comm (A.pow b n) a]
def Ab.prod (A : Ab G) : List G → G
  | [] => A.one
  | x :: l => A.mul x (A.prod l)
theorem Ab.prod_perm (A : Ab G) {l k : List G} (h : l.Perm k) : A.prod l = A.prod k := by
  induction h with
  | nil => rfl
  | cons x _ ih => show A.mul x _ = A.mul x _; rw [ih]
  | swap x y l => show A.mul y (A.mul x _) = A.mul x (A.mul y _); rw [← A.assoc, ← A.assoc, A.comm y x]
  | trans _ _ h1 h2 => exact h1.trans h2
theorem Ab.prod_map (A : Ab G) (a : G) : ∀ l : List G, A.prod (l.map (A.mul a)) = A.mul (A.pow a l.length) (A.prod l)
  | [] => (A.one_mul _).symm
  | x :: l => by
    show A.mul (A.mul a x) (A.prod (l.map (A.mul a))) = A.mul (A.mul (A.pow a l.length) a) (A.mul x (A.prod l))
    rw [A.prod_map a l, A.assoc, A.assoc]
    rw [← A.assoc x, A.comm x, A.assoc, ← A.assoc a, A.comm a, A.assoc]
/-- Fermat's theorem -/
theorem Ab.fermat [DecidableEq G] (A : Ab G) (hc : ∀ a b c, A.mul a b = A.mul a c → b = c) (l : List G) (hn : l.Nodup) (ha : ∀ x, x ∈ l) (a : G) : A.pow a l.length = A.one := by
  have h1 : (l.map (A.mul a)).Nodup := by
    unfold List.Nodup
    rw [List.pairwise_map]
    exact hn.imp_of_mem fun _ _ h e => h (hc _ _ _ e)
  have h2 := A.prod_perm (perm_of_nodup h1 (fun x _ => ha x) (by simp))
  rw [A.prod_map] at h2
  refine hc (A.prod l) _ _ ?_
  rw [A.mul_one, A.comm]; exact h2
def Ab.One (A : Ab G) (a : G) (n : Nat) : Prop := A.pow a n = A.one
/-- the order of a is k -/
def Ab.Ord (A : Ab G) (a : G) (k : Nat) : Prop := ∀ j, A.One a j ↔ k ∣ j
theorem Ab.One.mul {A : Ab G} {a : G} {j : Nat} (h : A.One a j) (k : Nat) : A.One a (j * k) := by
  unfold Ab.One at *; rw [← A.pow_mul, h, A.one_pow]
theorem Ab.one_both {A : Ab G} {a b : G} {n : Nat} (ha : A.One a n) (hb : A.One b n) : A.One (A.mul a b) n := by
  unfold Ab.One at *; rw [A.mul_pow, ha, hb, A.one_mul]
theorem Ab.one_left {A : Ab G} {a b : G} {n : Nat} (h : A.One (A.mul a b) n) (hb : A.One b n) : A.One a n := by
  unfold Ab.One at *; rw [A.mul_pow, hb, A.mul_one] at h; exact h
theorem Ab.One.rest {A : Ab G} {a : G} {j k : Nat} (h : A.One a (j + k)) (hj : A.One a j) : A.One a k := by
  unfold Ab.One at *; rw [A.pow_add, hj, A.one_mul] at h; exact h
theorem Ab.one_gcd {A : Ab G} {a : G} : ∀ (j k : Nat), A.One a j → A.One a k → A.One a (Nat.gcd j k) := by
  intro j
  induction j using Nat.strongRecOn with
  | ind j ih =>
    intro k hj hk
    by_cases h0 : j = 0
    · subst h0; rw [Nat.gcd_zero_left]; exact hk
    · rw [Nat.gcd_rec]
      refine ih (k % j) (Nat.mod_lt _ (by omega)) j ?_ hj
      have e := Nat.div_add_mod k j
      rw [← e] at hk
      exact hk.rest (hj.mul _)
theorem Ab.Ord.mul' {A : Ab G} {a b : G} {k l : Nat} (ha : A.Ord a k) (hb : A.Ord b l) (hkl : Nat.Coprime k l) : A.Ord (A.mul a b) (k * l) := by
  intro j
  constructor
  · intro h
    have h1 : k ∣ j * l := (ha _).1 (Ab.one_left (h.mul l) ((hb _).2 (Nat.dvd_mul_left l j)))
    have h2 : l ∣ j * k := (hb _).1 (Ab.one_left (by rw [A.comm]; exact h.mul k) ((ha _).2 (Nat.dvd_mul_left k j)))
    exact Nat.Coprime.mul_dvd_of_dvd_of_dvd hkl (hkl.dvd_of_dvd_mul_right h1) (hkl.symm.dvd_of_dvd_mul_right h2)
  · intro h
    exact Ab.one_both ((ha _).2 (Nat.dvd_trans (Nat.dvd_mul_right k l) h)) ((hb _).2 (Nat.dvd_trans (Nat.dvd_mul_left l k) h))
theorem dvd_pp' {q : Nat} (hq : Prime q) : ∀ (e : Nat) {d : Nat}, d ∣ q ^ e → ∃ i, i ≤ e ∧ d = q ^ i
  | 0, d, h => ⟨0, Nat.le_refl _, by rw [Nat.pow_zero] at h ⊢; exact Nat.dvd_one.1 h⟩
  | e + 1, d, h => by
    have hq2 := hq.1
    by_cases hd : q ∣ d
    · obtain ⟨c, rfl⟩ := hd
      have hc : c ∣ q ^ e := by
        rw [Nat.pow_succ, Nat.mul_comm (q ^ e)] at h
        exact Nat.dvd_of_mul_dvd_mul_left (by omega) h
      obtain ⟨i, i1, rfl⟩ := dvd_pp' hq e hc
      exact ⟨i + 1, by omega, by rw [Nat.pow_succ, Nat.mul_comm]⟩
    · have hc : Nat.Coprime d q := by have := hq.coprime hd; rw [Nat.gcd_comm] at this; exact this
      rw [Nat.pow_succ] at h
      obtain ⟨i, i1, i2⟩ := dvd_pp' hq e (hc.dvd_of_dvd_mul_right h)
      exact ⟨i, by omega, i2⟩
theorem Ab.ord_pp {A : Ab G} {a : G} {q e : Nat} (hq : Prime q) (h1 : A.One a (q ^ (e + 1))) (h2 : ¬ A.One a (q ^ e)) : A.Ord a (q ^ (e + 1)) := by
  intro j
  constructor
  · intro h
    have hg := Ab.one_gcd _ _ h h1
    obtain ⟨i, i1, i2⟩ := dvd_pp' hq (e + 1) (Nat.gcd_dvd_right j (q ^ (e + 1)))
    by_cases hi : i = e + 1
    · rw [hi] at i2; rw [← i2]; exact Nat.gcd_dvd_left _ _
    · exfalso
      refine h2 ?_
      rw [i2] at hg
      have := hg.mul (q ^ (e - i))
      rwa [← Nat.pow_add, show i + (e - i) = e by omega] at this
  · rintro ⟨c, rfl⟩
    exact h1.mul c
theorem Ab.ex_pp {A : Ab G} {N : Nat} (hN : 1 ≤ N) (hall : ∀ x, A.One x N) (hnot : ∀ n, 0 < n → n < N → ∃ x, ¬ A.One x n) {q e : Nat} (hq : Prime q) (hd : q ^ (e + 1) ∣ N) : ∃ y, A.Ord y (q ^ (e + 1)) := by
  have hq2 := hq.1
  obtain ⟨c, hc⟩ := hd
  have hc0 : 0 < c := by
    by_cases h : c = 0
    · subst h; omega
    · omega
  have hqe : 0 < q ^ e := Nat.pow_pos (by omega)
  have hn : N = q * (c * q ^ e) := by rw [hc, Nat.pow_succ]; rw [Nat.mul_comm (q ^ e) q, Nat.mul_assoc, Nat.mul_comm (q ^ e) c]
  have hce : 0 < c * q ^ e := Nat.mul_pos hc0 hqe
  obtain ⟨x, x3⟩ := hnot (c * q ^ e) hce (by rw [hn]; exact (Nat.lt_mul_iff_one_lt_left hce).2 (by omega))
  refine ⟨A.pow x c, Ab.ord_pp hq ?_ ?_⟩
  · unfold Ab.One; rw [A.pow_mul, Nat.mul_comm, ← hc]; exact hall x
  · unfold Ab.One; rw [A.pow_mul]; exact x3
theorem Ab.ex_ord {A : Ab G} {N : Nat} (hN : 1 ≤ N) (hall : ∀ x, A.One x N) (hnot : ∀ n, 0 < n → n < N → ∃ x, ¬ A.One x n) : ∀ n : Nat, 1 ≤ n → n ∣ N → ∃ g, A.Ord g n := by
  intro n
  induction n using Nat.strongRecOn with
  | ind n ih =>
    intro h1 hd
    by_cases hn : n = 1
    · subst hn
      exact ⟨A.one, fun j => ⟨fun _ => Nat.one_dvd j, fun _ => A.one_pow j⟩⟩
    · have h2 : 2 ≤ n := by omega
      have hq := minFac_prime h2
      have hq2 := hq.1
      have hqn : n % minFac n = 0 := Nat.mod_eq_zero_of_dvd (minFac_spec h2).2.1
      obtain ⟨s1, s2, s3⟩ := strip_spec (minFac n) hq2 n (by omega)
      have hv := vp_pos hq2 (by omega) hqn
      obtain ⟨e, he⟩ : ∃ e, vp (minFac n) n = e + 1 := ⟨vp (minFac n) n - 1, by omega⟩
      rw [he] at s1
      obtain ⟨h, hh⟩ := ih (strip (minFac n) n) (strip_lt hq2 (by omega) hqn) s2 (Nat.dvd_trans (strip_dvd hq2 (by omega)) hd)
      obtain ⟨y, hy⟩ := Ab.ex_pp hN hall hnot hq (Nat.dvd_trans ⟨_, s1⟩ hd)
      have hcop : Nat.Coprime (minFac n ^ (e + 1)) (strip (minFac n) n) :=
        Nat.Coprime.pow_left _ (hq.coprime (fun hx => s3 (Nat.mod_eq_zero_of_dvd hx)))
      have := Ab.Ord.mul' hy hh hcop
      rw [← s1] at this
      exact ⟨_, this⟩
/-- whose powers are all: no prime's part of N does -/
theorem Ab.ord_full {A : Ab G} {N : Nat} (hN : 1 ≤ N) {a : G} (ha : A.One a N) (h : ∀ q, Prime q → q ∣ N → ¬ A.One a (N / q)) : A.Ord a N := by
  intro j
  constructor
  · intro hj
    have hg := Ab.one_gcd _ _ hj ha
    have hd := Nat.gcd_dvd_right j N
    obtain ⟨c, hc⟩ := hd
    by_cases h1 : c = 1
    · rw [h1, Nat.mul_one] at hc; rw [hc]; exact hc ▸ Nat.gcd_dvd_left j N
    · exfalso
      have hc0 : 0 < c := by
        rcases Nat.eq_zero_or_pos c with h0 | h0
        · rw [h0] at hc; omega
        · exact h0
      have hq := minFac_prime (n := c) (by omega)
      obtain ⟨t, ht⟩ := (minFac_spec (n := c) (by omega)).2.1
      have e0 : N = minFac c * (Nat.gcd j N * t) := by
        have h3 : Nat.gcd j N * (minFac c * t) = minFac c * (Nat.gcd j N * t) := Nat.mul_left_comm _ _ _
        rw [← ht] at h3
        exact hc.trans h3
      refine h _ hq ⟨_, e0⟩ ?_
      have e : N / minFac c = Nat.gcd j N * t := Nat.div_eq_of_eq_mul_right (by have := hq.1; omega) e0
      rw [e]
      exact hg.mul t
  · rintro ⟨c, rfl⟩
    exact ha.mul c
end Lw
