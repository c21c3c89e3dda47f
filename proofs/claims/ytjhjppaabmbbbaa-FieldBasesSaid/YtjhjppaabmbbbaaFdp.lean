/- Fields, plain: digits and numbers; a product has a monic divisor of half its degree at most. -/
import Derived.Test.YtjhjppaabmbbbaaPlg
namespace Lw
open Go Go.RowKit
def digF (p : Int) : Nat → Int → List Int
  | 0, _ => []
  | k + 1, a => if a ≤ 0 then [] else a % p :: digF p k (a / p)
def digs (p a : Int) : List Int := digF p 14 a
def numL (p : Int) : List Int → Int
  | [] => 0
  | x :: l => x + p * numL p l
theorem div_half {p a : Int} {k : Nat} (hp : 2 ≤ p) (h0 : 0 ≤ a) (h1 : a < 2 ^ (k + 1)) : 0 ≤ a / p ∧ a / p < 2 ^ k := by
  refine ⟨Int.ediv_nonneg h0 (by omega), Int.ediv_lt_of_lt_mul (by omega) ?_⟩
  have hP : (0 : Int) < 2 ^ k := Int.pow_pos (by omega)
  have : 2 ^ k * 2 ≤ 2 ^ k * p := Int.mul_le_mul_of_nonneg_left hp (by omega)
  rw [Int.pow_succ] at h1
  omega
theorem digF_stable {p : Int} (hp : 2 ≤ p) : ∀ (k : Nat) (a : Int), 0 ≤ a → a < 2 ^ k → digF p (k + 1) a = digF p k a
  | 0, a, h0, h1 => by
    have h1 : a < 1 := h1
    show (if a ≤ 0 then [] else _) = []
    rw [if_pos (by omega)]
  | k + 1, a, h0, h1 => by
    show (if a ≤ 0 then [] else a % p :: digF p (k + 1) (a / p)) = if a ≤ 0 then [] else a % p :: digF p k (a / p)
    obtain ⟨h2, h3⟩ := div_half hp h0 h1
    rw [digF_stable hp k (a / p) h2 h3]
theorem digs_step {p a : Int} (hp : 2 ≤ p) (h0 : 0 < a) (h1 : a < 16384) : digs p a = a % p :: digs p (a / p) := by
  obtain ⟨h2, h3⟩ := div_half (k := 13) hp (by omega : 0 ≤ a) (by omega)
  show (if a ≤ 0 then [] else a % p :: digF p 13 (a / p)) = _
  rw [if_neg (by omega)]
  show _ = a % p :: digF p (13 + 1) (a / p)
  rw [digF_stable hp 13 _ h2 h3]
theorem digs_zero {p : Int} : digs p 0 = [] := rfl
theorem digF_bd {p : Int} (hp : 0 < p) : ∀ (k : Nat) (a : Int), ∀ x ∈ digF p k a, 0 ≤ x ∧ x < p
  | 0, _, x, h => by cases h
  | k + 1, a, x, h => by
    unfold digF at h
    split at h
    · cases h
    · rcases List.mem_cons.1 h with rfl | h
      · exact ⟨Int.emod_nonneg _ (by omega), Int.emod_lt_of_pos _ hp⟩
      · exact digF_bd hp k _ x h
theorem digF_len {p : Int} : ∀ (k : Nat) (a : Int), (digF p k a).length ≤ k
  | 0, _ => Nat.le_refl _
  | k + 1, a => by
    unfold digF
    split
    · exact Nat.zero_le _
    · have := digF_len (p := p) k (a / p)
      simp only [List.length_cons]; omega
theorem digs_bd {p : Int} (hp : 0 < p) (a : Int) : ∀ x ∈ digs p a, 0 ≤ x ∧ x < p := digF_bd hp 14 a
theorem digs_len {p a : Int} : (digs p a).length ≤ 14 := digF_len 14 a
theorem digF_nil {p : Int} (hp : 2 ≤ p) : ∀ (k : Nat) (a : Int), 0 ≤ a → a < 2 ^ k → digF p k a = [] → a = 0
  | 0, a, h0, h1, _ => by have h1 : a < 1 := h1; omega
  | k + 1, a, h0, _, h => by
    unfold digF at h
    split at h
    · omega
    · cases h
theorem digF_end {p : Int} (hp : 2 ≤ p) : ∀ (k : Nat) (a : Int), 0 ≤ a → a < 2 ^ k → endZ (digF p k a) = false
  | 0, _, _, _ => rfl
  | k + 1, a, h0, h1 => by
    unfold digF
    split
    · rfl
    · obtain ⟨h2, h3⟩ := div_half hp h0 h1
      have ih := digF_end hp k (a / p) h2 h3
      cases hl : digF p k (a / p) with
      | nil =>
        have h4 := digF_nil hp k _ h2 h3 hl
        have h5 : ¬ a % p = 0 := by
          intro e
          have := Int.emod_add_mul_ediv a p
          rw [e, h4, Int.mul_zero] at this
          omega
        unfold endZ
        simp [h5]
      | cons y r =>
        rw [hl] at ih
        unfold endZ at ih ⊢
        rw [List.getLast?_cons_cons]
        exact ih
theorem num_digF {p : Int} (hp : 2 ≤ p) : ∀ (k : Nat) (a : Int), 0 ≤ a → a < 2 ^ k → numL p (digF p k a) = a
  | 0, a, h0, h1 => by have h1 : a < 1 := h1; show (0 : Int) = a; omega
  | k + 1, a, h0, h1 => by
    unfold digF
    split
    · show (0 : Int) = a; omega
    · obtain ⟨h2, h3⟩ := div_half hp h0 h1
      show a % p + p * numL p (digF p k (a / p)) = a
      rw [num_digF hp k _ h2 h3]
      exact Int.emod_add_mul_ediv a p
theorem num_bd {p : Int} (hp : 2 ≤ p) : ∀ {l : List Int}, (∀ x ∈ l, 0 ≤ x ∧ x < p) → 0 ≤ numL p l ∧ numL p l < p ^ l.length
  | [], _ => ⟨Int.le_refl _, by show (0 : Int) < p ^ 0; rw [Int.pow_zero]; omega⟩
  | x :: l, h => by
    have h1 := num_bd hp (l := l) fun y hy => h y (List.mem_cons_of_mem _ hy)
    have h2 := h x (List.mem_cons_self ..)
    show 0 ≤ x + p * numL p l ∧ x + p * numL p l < p ^ (l.length + 1)
    rw [Int.pow_succ]
    have h3 : 0 ≤ p * numL p l := Int.mul_nonneg (by omega) h1.1
    have h4 : p * numL p l ≤ p * (p ^ l.length - 1) := Int.mul_le_mul_of_nonneg_left (by omega) (by omega)
    rw [Int.mul_sub, Int.mul_one, Int.mul_comm p (p ^ l.length)] at h4
    omega
theorem num_top {p : Int} (hp : 2 ≤ p) : ∀ {l : List Int} {d : Nat}, (∀ x ∈ l, 0 ≤ x ∧ x < p) → endZ l = false → l.length = d + 1 → p ^ d ≤ numL p l
  | [], _, _, _, e => by cases e
  | [x], d, h, z, e => by
    have hd : d = 0 := by simpa using e.symm
    subst hd
    have h2 := h x (List.mem_cons_self ..)
    have : ¬ x = 0 := by simpa [endZ] using z
    show p ^ 0 ≤ x + p * 0
    rw [Int.pow_zero, Int.mul_zero]
    omega
  | x :: y :: l, d, h, z, e => by
    obtain ⟨d, rfl⟩ : ∃ t, d = t + 1 := ⟨d - 1, by simp at e; omega⟩
    have h1 := num_top hp (l := y :: l) (d := d) (fun t ht => h t (List.mem_cons_of_mem _ ht)) (by unfold endZ at z ⊢; rw [List.getLast?_cons_cons] at z; exact z) (by simpa using e)
    have h2 := h x (List.mem_cons_self ..)
    show p ^ (d + 1) ≤ x + p * numL p (y :: l)
    have h4 : p * p ^ d ≤ p * numL p (y :: l) := Int.mul_le_mul_of_nonneg_left h1 (by omega)
    rw [Int.pow_succ, Int.mul_comm (p ^ d)]
    omega
theorem digs_num {p : Int} (hp : 2 ≤ p) : ∀ {l : List Int}, (∀ x ∈ l, 0 ≤ x ∧ x < p) → endZ l = false → numL p l < 16384 → digs p (numL p l) = l
  | [], _, _, _ => rfl
  | x :: l, h, z, hl => by
    have hb : ∀ y ∈ l, 0 ≤ y ∧ y < p := fun y hy => h y (List.mem_cons_of_mem _ hy)
    have h1 := num_bd hp hb
    have h2 := h x (List.mem_cons_self ..)
    have h0 : 0 < numL p (x :: l) := by
      have := num_top hp h z (d := l.length) rfl
      have hP : (0 : Int) < p ^ l.length := Int.pow_pos (by omega)
      omega
    have e : numL p (x :: l) = x + p * numL p l := rfl
    have hz : endZ l = false := by
      cases l with
      | nil => rfl
      | cons y r => unfold endZ at z ⊢; rw [List.getLast?_cons_cons] at z; exact z
    have hlt : numL p l < 16384 := by
      have : 1 * numL p l ≤ p * numL p l := Int.mul_le_mul_of_nonneg_right (by omega) h1.1
      omega
    rw [digs_step hp h0 hl, e, Int.add_mul_emod_self_left, Int.emod_eq_of_lt h2.1 h2.2, Int.add_mul_ediv_left _ _ (by omega), Int.ediv_eq_zero_of_lt h2.1 h2.2, Int.zero_add, digs_num hp hb hz hlt]
/-- a factor of the divisor does not change what is left -/
def scaL (p c : Int) (b : List Int) : List Int := b.map fun x => x * c % p
theorem sca_getD {p c : Int} {b : List Int} (t : Nat) : (scaL p c b).getD t 0 = b.getD t 0 * c % p := by
  unfold scaL
  rw [List.getD_eq_getElem?_getD, List.getElem?_map, List.getD_eq_getElem?_getD]
  cases b[t]? with
  | none => simp
  | some x => rfl
theorem leftS_sca {p c : Int} {b R : List Int} {i : Nat} : leftS p (scaL p c b) 1 R i = leftS p b c R i := by
  unfold leftS
  have hl : (scaL p c b).length = b.length := by simp [scaL]
  apply List.map_congr_left
  intro x _
  rw [hl, sca_getD]
  split
  · generalize R.getD x 0 = r
    generalize R.getD i 0 = s
    generalize b.getD (x - (i + 1 - b.length)) 0 = t
    obtain ⟨q1, h1⟩ := emod_q (s * 1) p
    obtain ⟨q2, h2⟩ := emod_q (t * c) p
    obtain ⟨q3, h3⟩ := emod_q (s * c) p
    rw [h1, h2, h3]
    have : r - (s * 1 - p * q1) * (t * c - p * q2) = r - (s * c - p * q3) * t + p * (q1 * t * c + s * q2 - p * q1 * q2 - q3 * t) := by grind
    rw [this, Int.add_mul_emod_self_left]
  · rfl
theorem leftN_sca {p c : Int} {a b : List Int} : ∀ t, leftN p a (scaL p c b) 1 t = leftN p a b c t
  | 0 => rfl
  | t + 1 => by
    show leftS p (scaL p c b) 1 (leftN p a (scaL p c b) 1 t) _ = leftS p b c (leftN p a b c t) _
    rw [leftN_sca t, leftS_sca]
theorem inv_one {p : Int} (p1 : 2 ≤ p) (p2 : p ≤ 251) (pp : primeB p = true) : invR 1 p = 1 := by
  obtain ⟨h1, h2, h3⟩ := inv_prime pp (by omega) (by omega : (0 : Int) < 1) (by omega)
  rw [Int.mul_one, Int.emod_eq_of_lt h2 h3, Int.emod_eq_of_lt (by omega) (by omega)] at h1
  exact h1
theorem rem_sca {p : Int} {a b : List Int} (p1 : 2 ≤ p) (p2 : p ≤ 251) (pp : primeB p = true) (hb : ∀ x ∈ b, 0 ≤ x ∧ x < p) (hz : ¬ b.getD (b.length - 1) 0 = 0) :
    remL p a (scaL p (invR (b.getD (b.length - 1) 0) p) b) = remL p a b := by
  have hl : ∀ c, (scaL p c b).length = b.length := fun c => by simp [scaL]
  unfold remL
  rw [hl, sca_getD, inv_top p1 p2 pp hb hz, inv_one p1 p2 pp, leftN_sca]
/-- the reference's product; the program's splits -/
def Prd (p : Int) (f : List Int) : Prop := ∃ a, p ≤ a ∧ a < p ^ (f.length - 1) ∧ 2 * (digs p a).length ≤ f.length + 1 ∧ remL p f (digs p a) = []
def Spl (p : Int) (f : List Int) : Prop := ∃ a, p ≤ a ∧ a < 2 * p ^ ((f.length - 1) / 2) ∧ (digs p a).getD ((digs p a).length - 1) 0 = 1 ∧ remL p f (digs p a) = []
theorem ipow_le {p : Int} (hp : 2 ≤ p) {a b : Nat} (h : a ≤ b) : p ^ a ≤ p ^ b := by
  obtain ⟨k, rfl⟩ := Nat.exists_eq_add_of_le h
  clear h
  induction k with
  | zero => exact Int.le_refl _
  | succ k ih =>
    have h1 : p ^ (a + (k + 1)) = p ^ (a + k) * p := Int.pow_succ ..
    have h2 : (0 : Int) < p ^ (a + k) := Int.pow_pos (by omega)
    have h3 : p ^ (a + k) * 1 ≤ p ^ (a + k) * p := Int.mul_le_mul_of_nonneg_left (by omega) (by omega)
    rw [h1]
    omega
theorem digs_split {p a : Int} (hp : 2 ≤ p) (h0 : p ≤ a) (h1 : a < 16384) : ∃ d, (digs p a).length = d + 1 ∧ 1 ≤ d ∧ p ^ d ≤ a ∧ a < p ^ (d + 1) := by
  have e := num_digF hp 14 a (by omega) (by omega)
  have hz := digF_end hp 14 a (by omega) (by omega)
  have hb := digF_bd (by omega : 0 < p) 14 a
  have h2 := num_bd hp hb
  rw [e] at h2
  have hlen : 2 ≤ (digF p 14 a).length := by
    rcases Nat.lt_or_ge (digF p 14 a).length 2 with h | h
    · have := ipow_le hp (show (digF p 14 a).length ≤ 1 by omega)
      rw [Int.pow_succ, Int.pow_zero, Int.one_mul] at this
      omega
    · exact h
  refine ⟨(digF p 14 a).length - 1, by show (digF p 14 a).length = _; omega, by omega, ?_, ?_⟩
  · have := num_top hp hb hz (d := (digF p 14 a).length - 1) (by omega)
    rw [e] at this
    exact this
  · rw [show (digF p 14 a).length - 1 + 1 = (digF p 14 a).length by omega]
    exact h2.2
theorem spl_prd {p : Int} {f : List Int} (p1 : 2 ≤ p) (p2 : p ≤ 251) (pp : primeB p = true) (hf : 2 ≤ f.length) (hs : p ^ (f.length - 1) ≤ 4096) : Spl p f ↔ Prd p f := by
  have hm : 0 < p ^ ((f.length - 1) / 2) := Int.pow_pos (by omega)
  have hhalf : p ^ ((f.length - 1) / 2) ≤ 4096 := Int.le_trans (ipow_le p1 (by omega)) hs
  constructor
  · rintro ⟨a, a0, a1, t1, r⟩
    obtain ⟨d, d0, d1, d2, d3⟩ := digs_split p1 a0 (by omega)
    have hd : d ≤ (f.length - 1) / 2 := by
      rcases Nat.lt_or_ge ((f.length - 1) / 2) d with h | h
      · have h2 := ipow_le p1 (show (f.length - 1) / 2 + 1 ≤ d by omega)
        rw [Int.pow_succ] at h2
        have h3 : p ^ ((f.length - 1) / 2) * 2 ≤ p ^ ((f.length - 1) / 2) * p := Int.mul_le_mul_of_nonneg_left p1 (by omega)
        omega
      · exact h
    have h4 := ipow_le p1 (show d + 1 ≤ f.length - 1 by omega)
    exact ⟨a, a0, by omega, by omega, r⟩
  · rintro ⟨a, a0, a1, t1, r⟩
    obtain ⟨d, d0, d1, d2, d3⟩ := digs_split p1 a0 (by omega)
    have hz := endZ_top (digF_end p1 14 a (by omega) (by omega)) (by show 0 < (digs p a).length; omega)
    have hb := digs_bd (by omega : 0 < p) a
    have hz : ¬ (digs p a).getD ((digs p a).length - 1) 0 = 0 := hz
    generalize hl : digs p a = l at *
    have e1 := inv_top p1 p2 pp hb hz
    have r2 := rem_sca (a := f) p1 p2 pp hb hz
    rw [r] at r2
    have sb : ∀ x ∈ scaL p (invR (l.getD (l.length - 1) 0) p) l, 0 ≤ x ∧ x < p := by
      intro x hx
      obtain ⟨y, _, rfl⟩ := List.mem_map.1 hx
      exact ⟨Int.emod_nonneg _ (by omega), Int.emod_lt_of_pos _ (by omega)⟩
    have sl : (scaL p (invR (l.getD (l.length - 1) 0) p) l).length = d + 1 := by simp [scaL, d0]
    have st : (scaL p (invR (l.getD (l.length - 1) 0) p) l).getD d 0 = 1 := by rw [sca_getD, show d = l.length - 1 by omega]; exact e1
    generalize scaL p (invR (l.getD (l.length - 1) 0) p) l = m at *
    have sz : endZ m = false := by
      obtain ⟨hl2, e⟩ := endZ_last sl
      rw [e]
      rw [getD_at hl2] at st
      rw [st]; rfl
    have n1 := num_top p1 sb sz sl
    have n2 : numL p m < 2 * p ^ d := by
      have h1 : ∀ (l : List Int) (d : Nat), (∀ x ∈ l, 0 ≤ x ∧ x < p) → l.length = d + 1 → numL p l < p ^ d * (1 + l.getD d 0) := by
        intro l
        induction l with
        | nil => intro d _ e; cases e
        | cons x r ih =>
          intro d h e
          have hx := h x (List.mem_cons_self ..)
          have hr : ∀ y ∈ r, 0 ≤ y ∧ y < p := fun y hy => h y (List.mem_cons_of_mem _ hy)
          cases d with
          | zero =>
            have : r = [] := List.eq_nil_of_length_eq_zero (by simpa using e)
            subst this
            show x + p * 0 < p ^ 0 * (1 + x)
            rw [Int.pow_zero]; omega
          | succ d =>
            have ih2 := ih d hr (by simpa using e)
            show x + p * numL p r < p ^ (d + 1) * (1 + r.getD d 0)
            generalize r.getD d 0 = t at *
            have h3 : p * (numL p r + 1) ≤ p * (p ^ d * (1 + t)) := Int.mul_le_mul_of_nonneg_left (by omega) (by omega)
            have h4 : p ^ (d + 1) * (1 + t) = p * (p ^ d * (1 + t)) := by rw [Int.pow_succ, Int.mul_comm (p ^ d) p, Int.mul_assoc]
            rw [h4]
            rw [Int.mul_add, Int.mul_one] at h3
            omega
      have := h1 m d sb sl
      rw [st] at this
      omega
    have hd : d ≤ (f.length - 1) / 2 := by omega
    have h3 := ipow_le p1 hd
    have h5 := ipow_le p1 d1
    rw [Int.pow_succ, Int.pow_zero, Int.one_mul] at h5
    have dg := digs_num p1 sb sz (by omega)
    refine ⟨numL p m, by omega, by omega, ?_, ?_⟩
    · rw [dg, sl, Nat.add_sub_cancel, st]
    · rw [dg]; exact r2
end Lw
