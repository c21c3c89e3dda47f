/- poly.Over: quotient and rest. -/
import Derived.Test.YtlgegdmnbhoepaaPlm
import Derived.Test.YtlgegdmnbhoepaaEuc
import Derived.Test.YtlgegdmnbhoepaaGcd
import Derived.Lib.SliceRun
namespace Lw
open Go Go.RowKit
theorem inv_spec' {a m : Int} (hm : 0 < m) (hm2 : m ≤ 1048576) (ha : 0 ≤ a) (ha2 : a < m) (h : gcdI a m = 1) : invE a m = 0 ∧ invR a m * a % m = 1 % m ∧ 0 ≤ invR a m ∧ invR a m < m := by
  obtain ⟨e1, e2⟩ := invE_zero (a := a) (m := m) (by omega) h
  obtain ⟨g, x, h1, h2, _, h4⟩ := exists_step a m
  rw [h] at h1
  have hg : g = 1 := by have := h4 ha (by omega); unfold absI at h1; omega
  subst hg
  have h5 : x % m * a % m = 1 % m := by rw [mul_emod_left]; exact emod_of_dvd_sub h2
  have e3 := invI_eq (a := a) (Int.emod_nonneg x (by omega)) (Int.emod_lt_of_pos x hm) h5
  rw [e2, e3]
  exact ⟨e1, h5, Int.emod_nonneg x (by omega), Int.emod_lt_of_pos x hm⟩
theorem emod_q (x P : Int) : ∃ q, x % P = x - P * q := ⟨x / P, Int.emod_def x P⟩
theorem gcd_prime {p b : Int} (hp : primeB p = true) (b1 : 0 < b) (b2 : b < p) : gcdI b p = 1 := by
  have hp' : Prime p.toNat := by simpa [primeB] using hp
  have h1 : Nat.gcd p.toNat b.toNat = 1 := hp'.coprime (fun h => by have := Nat.le_of_dvd (by omega) h; omega)
  unfold gcdI
  rw [Int.gcd, show b.natAbs = b.toNat by omega, show p.natAbs = p.toNat by omega, Nat.gcd_comm, h1]; rfl
/-- the inverse of what is not 0 by a prime -/
theorem inv_prime {p b : Int} (hp : primeB p = true) (p2 : p ≤ 1048576) (b1 : 0 < b) (b2 : b < p) : invR b p * b % p = 1 % p ∧ 0 ≤ invR b p ∧ invR b p < p :=
  (inv_spec' (by omega) p2 (by omega) b2 (gcd_prime hp b1 b2)).2
/-- the k by which the top goes -/
def topK (p : Int) (li : Int) (r : List Int) : Int := r.getD (r.length - 1) 0 * li % p
/-- quotient and rest after j rounds -/
def ovN (p : Int) (a b : List Int) (li : Int) : Nat → List Int × List Int
  | 0 => ([], a)
  | j + 1 => (plusL p (ovN p a b li j).1 [1] (topK p li (ovN p a b li j).2) ((ovN p a b li j).2.length - b.length), plusL p (ovN p a b li j).2 b (-topK p li (ovN p a b li j).2) ((ovN p a b li j).2.length - b.length))
theorem topK_bd {p : Int} (hp : 0 < p) {li : Int} {r : List Int} : 0 ≤ topK p li r ∧ topK p li r < p := ⟨Int.emod_nonneg _ (by omega), Int.emod_lt_of_pos _ hp⟩
/-- a round takes the top away -/
theorem over_less {p li : Int} {r b : List Int} (hp : 2 ≤ p) (hb : 0 < b.length) (hr : b.length ≤ r.length) (hl : b.getD (b.length - 1) 0 * li % p = 1) (ht : ∀ x ∈ r, 0 ≤ x ∧ x < p) :
    (plusL p r b (-topK p li r) (r.length - b.length)).length < r.length := by
  have hN : max r.length (b.length + (r.length - b.length)) = r.length := by omega
  have h0 : plusV p r b (-topK p li r) (r.length - b.length) (r.length - 1) = 0 := by
    unfold plusV
    rw [if_pos (by omega), show r.length - 1 - (r.length - b.length) = b.length - 1 by omega]
    unfold topK
    generalize r.getD (r.length - 1) 0 = t at *
    generalize b.getD (b.length - 1) 0 = c at *
    obtain ⟨u, hu⟩ := emod_q (t * li) p
    obtain ⟨v, hv⟩ := emod_q (c * li) p
    rw [hu]
    rw [hv] at hl
    have : t + -(t * li - p * u) * c = 0 + p * (u * c - t * v) := by
      have : c * li = 1 + p * v := by omega
      have e : t * li * c = t * (c * li) := by grind
      grind
    rw [this, Int.add_mul_emod_self_left]; rfl
  unfold plusL
  rw [hN]
  obtain ⟨m, m1, m2, m3, m4⟩ := trim_is ((List.range r.length).map (plusV p r b (-topK p li r) (r.length - b.length)))
  rw [m2]
  simp only [List.length_map, List.length_range] at m1
  rw [List.length_take, List.length_map, List.length_range]
  have : m ≠ r.length := by
    intro e
    rcases m4 with h | h
    · omega
    · apply h
      rw [e, getD_at (by simp; omega)]
      simpa using h0
  omega
theorem ovN_bd {p : Int} (hp : 0 < p) {a b : List Int} {li : Int} (ha : ∀ x ∈ a, 0 ≤ x ∧ x < p) : ∀ j, (∀ x ∈ (ovN p a b li j).1, 0 ≤ x ∧ x < p) ∧ ∀ x ∈ (ovN p a b li j).2, 0 ≤ x ∧ x < p
  | 0 => ⟨fun _ h => by simp [ovN] at h, ha⟩
  | _ + 1 => ⟨plusL_bd hp, plusL_bd hp⟩
/-- what Over returns -/
def OvR (p : Int) (a b : List Int) (w : World) (e : Ending) (w' : World) : Prop :=
  ∃ (j : Nat) (C : Option Addr) (k g : Nat) (D : Option Addr) (l h : Nat), e = .returned (.tuple #[.slice C k g, .slice D l h]) ∧ Rd w' 1 C k (intsV .i64 (ovN p a b (invR (b.getD (b.length - 1) 0) p) j).1) ∧ Rd w' 1 D l (intsV .i64 (ovN p a b (invR (b.getD (b.length - 1) 0) p) j).2) ∧ l < b.length ∧ k ≤ a.length ∧ (∀ i, i < j → b.length ≤ (ovN p a b (invR (b.getD (b.length - 1) 0) p) i).2.length) ∧ Below w.heap.size w w'
end Lw
set_option linter.unusedVariables false
set_option linter.unusedSimpArgs false
namespace Go.Proofs.Ytlgegdmnbhoepaa
open Go.RowKit
theorem poly_inverse (a p : Int) (w : World) :
    Calls Try.prog 168 #[.int .i64 a, .int .i64 p] w fun e w' => e = .returned (.int .i64 (Lw.invR a p)) ∧ Below w.heap.size w w' := by
  have X := Lib.hid (fun w => euclid_Inverse a p w)
  go_enter Try.func168, Try.ntmps168
  go_wp2_with (go_at_call 178; (with_reducible refine (X.out _).mono ?_); rintro e w1 ⟨rfl, hb1⟩)
  go_ret
  exact ⟨rfl, hb1⟩
end Go.Proofs.Ytlgegdmnbhoepaa
