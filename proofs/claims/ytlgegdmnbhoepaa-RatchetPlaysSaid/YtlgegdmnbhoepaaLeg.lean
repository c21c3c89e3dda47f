/- Plain lemmas: Gauss's signs by a prime are Legendre's symbol; Jacobi's symbol is the product over the factors. -/
import Derived.Test.YtlgegdmnbhoepaaJac
import Derived.Test.YtlgegdmnbhoepaaRoot
import Derived.Test.YtlgegdmnbhoepaaCnt
set_option linter.unusedVariables false
set_option linter.unusedSimpArgs false
namespace Lw
theorem prodI_dvd_sub {α : Type} {n : Int} {f g : α → Int} {l : List α} (h : ∀ x, x ∈ l → n ∣ f x - g x) : n ∣ prodI (l.map f) - prodI (l.map g) := by
  induction l with
  | nil => simp [prodI]
  | cons x l ih =>
    have h1 := h x (List.mem_cons_self ..)
    have h2 := ih fun y hy => h y (List.mem_cons_of_mem _ hy)
    simp only [List.map_cons, prodI]
    have e : f x * prodI (l.map f) - g x * prodI (l.map g) = f x * (prodI (l.map f) - prodI (l.map g)) + prodI (l.map g) * (f x - g x) := by grind
    rw [e]
    exact Int.dvd_add (Int.dvd_mul_of_dvd_right h2) (Int.dvd_mul_of_dvd_right h1)
theorem prime_not_dvd_prod {p : Nat} (hp : Prime p) {l : List Nat} (h : ∀ k, k ∈ l → ¬ p ∣ k) : ¬ (p : Int) ∣ prodI (l.map fun (k : Nat) => (k : Int)) := by
  induction l with
  | nil => exact hp.not_dvd_one
  | cons x l ih =>
    intro hd
    simp only [List.map_cons, prodI] at hd
    rcases hp.dvd_mul_int hd with e | e
    · exact h x (List.mem_cons_self ..) (Int.ofNat_dvd.1 e)
    · exact ih (fun k hk => h k (List.mem_cons_of_mem _ hk)) e
/-- Gauss's lemma -/
theorem gauss {p a : Nat} (hp : Prime p) (ho : p % 2 = 1) (hg : Nat.gcd a p = 1) : (p : Int) ∣ (a : Int) ^ ((p - 1) / 2) - gs a p := by
  have h1 : (p : Int) ∣ prodI ((half p).map fun (k : Nat) => (a : Int) * (k : Int)) - prodI ((half p).map fun (k : Nat) => eps a p k * (sz a p k : Int)) :=
    prodI_dvd_sub fun k hk => by rw [mem_half] at hk; exact (sz_spec hg ho hk.1 hk.2).2
  rw [prodI_map_mul, prodI_map_mul, prodI_const, half_length] at h1
  have h2 : prodI ((half p).map fun (k : Nat) => (sz a p k : Int)) = prodI ((half p).map fun (k : Nat) => (k : Int)) := by
    have := prodI_perm ((sz_perm hg ho).map (fun (k : Nat) => (k : Int)))
    rw [List.map_map] at this
    exact this
  rw [h2] at h1
  have h3 : prodI ((half p).map (eps a p)) = gs a p := rfl
  rw [h3, ← Int.sub_mul] at h1
  rcases hp.dvd_mul_int h1 with e | e
  · exact e
  · refine absurd e (prime_not_dvd_prod hp fun k hk => ?_)
    rw [mem_half] at hk
    intro hd
    have := Nat.le_of_dvd (by omega) hd
    omega
theorem gs_cases (a n : Nat) : gs a n = 1 ∨ gs a n = -1 := by
  rw [gs_mu, neg_one_pow]; split <;> simp
theorem gs_sq (a n : Nat) : gs a n * gs a n = 1 := by rcases gs_cases a n with e | e <;> rw [e] <;> rfl
/-- Fermat's little theorem -/
theorem fermat {p a : Nat} (hp : Prime p) (hg : ¬ p ∣ a) : (p : Int) ∣ (a : Int) ^ (p - 1) - 1 := by
  by_cases ho : p % 2 = 1
  · have hga : Nat.gcd a p = 1 := by rw [Nat.gcd_comm]; exact hp.coprime hg
    have h1 := gauss hp ho hga
    have h2 : (a : Int) ^ (p - 1) = (a : Int) ^ ((p - 1) / 2) * (a : Int) ^ ((p - 1) / 2) := by
      rw [← Int.pow_add]; congr 1; omega
    have h3 := gs_sq a p
    have e : (a : Int) ^ (p - 1) - 1 = ((a : Int) ^ ((p - 1) / 2) - gs a p) * ((a : Int) ^ ((p - 1) / 2) + gs a p) := by
      rw [h2]; grind
    rw [e]
    exact Int.dvd_mul_of_dvd_left h1
  · have h2 : p = 2 := by
      have := hp.dvd (Nat.dvd_of_mod_eq_zero (by omega : p % 2 = 0))
      omega
    subst h2
    have : a % 2 = 1 := by
      by_cases h : a % 2 = 0
      · exact absurd (Nat.dvd_of_mod_eq_zero h) hg
      · omega
    show ((2 : Nat) : Int) ∣ (a : Int) ^ 1 - 1
    have e1 : (a : Int) ^ 1 = a := by rw [Int.pow_succ]; simp
    rw [e1]
    exact Int.dvd_of_emod_eq_zero (by omega)
/-- is a number a square by p? -/
def IsSq (p a : Nat) : Prop := ∃ x : Nat, 1 ≤ x ∧ x < p ∧ x * x % p = a % p
theorem gs_of_sq {p a : Nat} (hp : Prime p) (ho : p % 2 = 1) (hg : ¬ p ∣ a) (h : IsSq p a) : gs a p = 1 := by
  obtain ⟨x, x1, x2, hx⟩ := h
  have hnx : ¬ p ∣ x := fun e => by have := Nat.le_of_dvd (by omega) e; omega
  have hxg : Nat.gcd x p = 1 := by rw [Nat.gcd_comm]; exact hp.coprime hnx
  rw [← gs_mod, ← hx, gs_mod, gs_mul hxg hxg ho, gs_sq]
theorem sq_of_gs {p a : Nat} (hp : Prime p) (ho : p % 2 = 1) (hg : ¬ p ∣ a) (h : gs a p = 1) : IsSq p a := by
  refine Classical.byContradiction fun hn => ?_
  have hga : Nat.gcd a p = 1 := by rw [Nat.gcd_comm]; exact hp.coprime hg
  have h3 := hp.1
  refine pow_roots hp ((p - 1) / 2) (by omega) ((a : Int) :: (half p).map fun (k : Nat) => (k : Int) * (k : Int)) (by simp [half_length]) ?_ ?_
  · refine List.pairwise_cons.2 ⟨fun y hy => ?_, ?_⟩
    · obtain ⟨k, hk, rfl⟩ := List.mem_map.1 hy
      rw [mem_half] at hk
      intro hd
      refine hn ⟨k, hk.1, by omega, ?_⟩
      have := emod_of_dvd_sub hd
      rw [← Int.natCast_mul, ← Int.natCast_emod, ← Int.natCast_emod] at this
      exact Int.ofNat.inj this
    · rw [List.pairwise_map]
      refine List.Pairwise.imp_of_mem ?_ (List.pairwise_lt_range' (s := 1) (n := (p - 1) / 2) (step := 1))
      intro x y hx hy hlt hd
      have hx := mem_half.1 hx
      have hy := mem_half.1 hy
      have e : (y : Int) * y - x * x = ((y - x : Nat) : Int) * ((y + x : Nat) : Int) := by
        rw [Int.natCast_sub (by omega), Int.natCast_add]; grind
      rw [e] at hd
      rcases hp.dvd_mul_int hd with e | e
      · have := Nat.le_of_dvd (by omega) (Int.ofNat_dvd.1 e); omega
      · have := Nat.le_of_dvd (by omega) (Int.ofNat_dvd.1 e); omega
  · intro r hr
    rcases List.mem_cons.1 hr with rfl | hr
    · have := gauss hp ho hga
      rwa [h] at this
    · obtain ⟨k, hk, rfl⟩ := List.mem_map.1 hr
      rw [mem_half] at hk
      have := fermat hp (a := k) (fun e => by have := Nat.le_of_dvd (by omega) e; omega)
      have e : ((k : Int) * (k : Int)) ^ ((p - 1) / 2) = (k : Int) ^ (p - 1) := by
        rw [Int.mul_pow, ← Int.pow_add]; congr 1; omega
      rwa [e]
end Lw
