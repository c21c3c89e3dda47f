/- Sequences that come round: the first number that comes again, and what Brent's search finds. -/
import Derived.Below
namespace Lw
theorem nodup_len {α : Type} [DecidableEq α] : ∀ {l k : List α}, l.Nodup → (∀ x, x ∈ l → x ∈ k) → l.length ≤ k.length
  | [], _, _, _ => Nat.zero_le _
  | x :: l, k, hn, hs => by
    have hx : x ∈ k := hs x (by simp)
    obtain ⟨hxl, hnl⟩ := List.nodup_cons.1 hn
    have ih := nodup_len (l := l) (k := k.erase x) hnl fun y hy => (List.mem_erase_of_ne (by rintro rfl; exact hxl hy)).2 (hs y (by simp [hy]))
    rw [List.length_erase_of_mem hx] at ih
    have := List.length_pos_of_mem hx
    simp only [List.length_cons]
    omega
/-- j is the first place whose number was there before, at i -/
def FirstRep (s : Nat → Nat) (i j : Nat) : Prop := i < j ∧ s i = s j ∧ ∀ a b, a < b → b < j → s a ≠ s b
theorem first_or (s : Nat → Nat) : ∀ m, (∃ i j, j ≤ m ∧ FirstRep s i j) ∨ ∀ a b, a < b → b ≤ m → s a ≠ s b
  | 0 => .inr fun a b h1 h2 => by omega
  | m + 1 => by
    rcases first_or s m with ⟨i, j, h1, h2⟩ | h
    · exact .inl ⟨i, j, by omega, h2⟩
    · by_cases hx : ∃ i, i ≤ m ∧ s i = s (m + 1)
      · obtain ⟨i, h1, h2⟩ := hx
        exact .inl ⟨i, m + 1, Nat.le_refl _, by omega, h2, fun a b ha hb => h a b ha (by omega)⟩
      · refine .inr fun a b ha hb => ?_
        by_cases hb2 : b ≤ m
        · exact h a b ha hb2
        · have : b = m + 1 := by omega
          subst this
          exact fun e => hx ⟨a, by omega, e⟩
theorem ex_first (s : Nat → Nat) (n : Nat) (hs : ∀ i, s i < n) : ∃ i j, j ≤ n ∧ FirstRep s i j := by
  rcases first_or s n with h | h
  · exact h
  · exfalso
    have hn : ((List.range (n + 1)).map s).Nodup := by
      rw [List.nodup_iff_pairwise_ne, List.pairwise_map]
      refine List.Pairwise.imp_of_mem ?_ (List.pairwise_lt_range)
      intro a b _ hb hab
      exact h a b hab (by have := List.mem_range.1 hb; omega)
    have := nodup_len (k := List.range n) hn fun x hx => by
      obtain ⟨a, _, rfl⟩ := List.mem_map.1 hx
      exact List.mem_range.2 (hs a)
    simp at this
    omega
section
variable {s : Nat → Nat} {i j : Nat} (hd : ∀ a b, s a = s b → s (a + 1) = s (b + 1))
include hd
theorem rep_shift {a b : Nat} (h : s a = s b) : ∀ k, s (a + k) = s (b + k)
  | 0 => h
  | k + 1 => hd _ _ (rep_shift h k)
theorem rep_mul (h : FirstRep s i j) (r : Nat) : ∀ q, s (i + r + q * (j - i)) = s (i + r)
  | 0 => by simp
  | q + 1 => by
    rw [← rep_mul h r q]
    have e := rep_shift hd h.2.1 (r + q * (j - i))
    have hij := h.1
    rw [Nat.succ_mul]
    rw [show i + r + (q * (j - i) + (j - i)) = j + (r + q * (j - i)) by omega, ← e]
    congr 1; omega
theorem rep_mod (h : FirstRep s i j) {a : Nat} (ha : i ≤ a) : s a = s (i + (a - i) % (j - i)) := by
  have e := rep_mul hd h ((a - i) % (j - i)) ((a - i) / (j - i))
  rw [← e]
  congr 1
  have := Nat.mod_add_div (a - i) (j - i)
  rw [Nat.mul_comm (j - i)] at this
  omega
theorem rep_only (h : FirstRep s i j) {a b : Nat} (hab : a < b) (e : s a = s b) : i ≤ a ∧ (b - a) % (j - i) = 0 := by
  have hij := h.1
  have hl : 0 < j - i := by omega
  have hm : ∀ c, (c - i) % (j - i) < j - i := fun c => Nat.mod_lt _ hl
  by_cases ha : i ≤ a
  · refine ⟨ha, ?_⟩
    have e1 := rep_mod hd h ha
    have e2 := rep_mod hd h (show i ≤ b by omega)
    have ra := hm a
    have rb := hm b
    have : (a - i) % (j - i) = (b - i) % (j - i) := by
      rcases Nat.lt_trichotomy ((a - i) % (j - i)) ((b - i) % (j - i)) with h1 | h1 | h1
      · exact absurd (e1.symm.trans (e.trans e2)) (h.2.2 _ _ (by omega) (by omega))
      · exact h1
      · exact absurd (e1.symm.trans (e.trans e2)).symm (h.2.2 _ _ (by omega) (by omega))
    have q := Nat.sub_mod_eq_zero_of_mod_eq this.symm
    rwa [show b - i - (a - i) = b - a by omega] at q
  · exfalso
    by_cases hb : b < j
    · exact h.2.2 a b hab hb e
    · have e2 := rep_mod hd h (show i ≤ b by omega)
      have rb := hm b
      exact h.2.2 a _ (by omega) (by omega) (e.trans e2)
theorem rep_add (h : FirstRep s i j) {a : Nat} (ha : i ≤ a) : s (a + (j - i)) = s a := by
  have := rep_mul hd h (a - i) 1
  rw [Nat.one_mul, show i + (a - i) = a by omega] at this
  exact this
/-- Brent: where slow and fast meet first -/
theorem brent_meet (h : FirstRep s i j) {k size : Nat} (h1 : 1 ≤ size) (e : s k = s (k + size)) (hno : ∀ r, 1 ≤ r → r < size → s k ≠ s (k + r)) : size = j - i := by
  have hij := h.1
  obtain ⟨hk, hz⟩ := rep_only hd h (by omega : k < k + size) e
  rw [show k + size - k = size by omega] at hz
  have hle : j - i ≤ size := Nat.le_of_dvd (by omega) (Nat.dvd_of_mod_eq_zero hz)
  rcases Nat.lt_or_ge (j - i) size with hlt | hge
  · exact absurd (rep_add hd h hk).symm (hno _ (by omega) hlt)
  · omega
/-- Brent: the power of two is not beyond the first number that comes again -/
theorem brent_long (h : FirstRep s i j) {k long : Nat} (hk : k + 1 = long) (hno : ∀ r, 1 ≤ r → r ≤ long → s k ≠ s (k + r)) : long ≤ j := by
  have hij := h.1
  rcases Nat.lt_or_ge j long with hlt | hge
  · exact absurd (rep_add hd h (show i ≤ k by omega)).symm (hno (j - i) (by omega) (by omega))
  · exact hge
/-- the first place from which the numbers come round -/
theorem tail_at (h : FirstRep s i j) {t : Nat} (e : s t = s (t + (j - i))) (hno : ∀ r, r < t → s r ≠ s (r + (j - i))) : t = i := by
  have hij := h.1
  obtain ⟨ht, _⟩ := rep_only hd h (by omega : t < t + (j - i)) e
  rcases Nat.lt_or_ge i t with hlt | hge
  · exact absurd (rep_add hd h (Nat.le_refl i)).symm (hno i hlt)
  · omega
theorem tail_le (h : FirstRep s i j) {t : Nat} (hno : ∀ r, r < t → s r ≠ s (r + (j - i))) : t ≤ i := by
  rcases Nat.lt_or_ge i t with hlt | hge
  · exact absurd (rep_add hd h (Nat.le_refl i)).symm (hno i hlt)
  · exact hge
/-- Floyd: a place whose number is that at twice the place -/
theorem floyd_meet (h : FirstRep s i j) : ∃ t, 1 ≤ t ∧ t ≤ j ∧ s t = s (2 * t) := by
  have hij := h.1
  have hl : 0 < j - i := by omega
  have h1 := Nat.mod_lt i hl
  have h2 := Nat.mod_add_div' i (j - i)
  refine ⟨(i / (j - i) + 1) * (j - i), Nat.mul_pos (Nat.succ_pos _) hl, ?_, ?_⟩
  · rw [Nat.succ_mul]; omega
  · have hge : i ≤ (i / (j - i) + 1) * (j - i) := by rw [Nat.succ_mul]; omega
    have e := rep_mul hd h ((i / (j - i) + 1) * (j - i) - i) (i / (j - i) + 1)
    rw [show i + ((i / (j - i) + 1) * (j - i) - i) = (i / (j - i) + 1) * (j - i) by omega] at e
    rw [← e]; congr 1; omega
end
end Lw
