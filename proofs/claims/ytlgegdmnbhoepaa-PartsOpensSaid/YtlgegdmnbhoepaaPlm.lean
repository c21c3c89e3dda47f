/- Products of polynomials, plain: the coefficients of poly.Times are those of the reference's Mul. -/
import Derived.Test.YtlgegdmnbhoepaaPla
namespace Lw
open Go Go.RowKit
theorem getD_at {l : List Int} {i : Nat} (h : i < l.length) : l.getD i 0 = l[i] := by rw [List.getD_eq_getElem?_getD, List.getElem?_eq_getElem h]; rfl
theorem getD_out {l : List Int} {i : Nat} (h : l.length ≤ i) : l.getD i 0 = 0 := by rw [List.getD_eq_getElem?_getD, List.getElem?_eq_none h]; rfl
/-- what trimL leaves -/
theorem trim_form (l : List Int) : ∀ k, k ≤ l.length → ∃ m, m ≤ k ∧ trimL (l.take k) = l.take m ∧ (∀ i, m ≤ i → i < k → l.getD i 0 = 0) ∧ (m = 0 ∨ l.getD (m - 1) 0 ≠ 0)
  | 0, _ => ⟨0, by omega, by simp [trim_nil], fun i h1 h2 => by omega, .inl rfl⟩
  | k + 1, h => by
    have hk : k < l.length := by omega
    rw [trim_take hk]
    by_cases h0 : l[k] = 0
    · obtain ⟨m, m1, m2, m3, m4⟩ := trim_form l k (by omega)
      refine ⟨m, by omega, by rw [if_pos h0, m2], fun i i1 i2 => ?_, m4⟩
      by_cases hi : i = k
      · subst hi; rw [getD_at hk]; exact h0
      · exact m3 i i1 (by omega)
    · exact ⟨k + 1, by omega, by rw [if_neg h0], fun i i1 i2 => by omega, .inr (by rw [Nat.add_sub_cancel, getD_at hk]; exact h0)⟩
theorem trim_is (l : List Int) : ∃ m, m ≤ l.length ∧ trimL l = l.take m ∧ (∀ i, m ≤ i → l.getD i 0 = 0) ∧ (m = 0 ∨ l.getD (m - 1) 0 ≠ 0) := by
  obtain ⟨m, m1, m2, m3, m4⟩ := trim_form l l.length (Nat.le_refl _)
  rw [List.take_length] at m2
  refine ⟨m, m1, m2, fun i i1 => ?_, m4⟩
  by_cases hi : i < l.length
  · exact m3 i i1 hi
  · exact getD_out (by omega)
theorem trim_getD (l : List Int) (i : Nat) : (trimL l).getD i 0 = l.getD i 0 := by
  obtain ⟨m, m1, m2, m3, _⟩ := trim_is l
  rw [m2]
  by_cases hi : i < m
  · rw [getD_at (l := l.take m) (by rw [List.length_take]; omega), getD_at (by omega : i < l.length), List.getElem_take]
  · rw [getD_out (by rw [List.length_take]; omega), m3 i (by omega)]
theorem trim_unique {l l' : List Int} (h : ∀ i, l.getD i 0 = l'.getD i 0) : trimL l = trimL l' := by
  obtain ⟨m, m1, m2, m3, m4⟩ := trim_is l
  obtain ⟨n, n1, n2, n3, n4⟩ := trim_is l'
  have e : m = n := by
    rcases Nat.lt_trichotomy m n with hl | he | hl
    · rcases n4 with h0 | h0
      · omega
      · exact absurd (by rw [← h]; exact m3 _ (by omega)) h0
    · exact he
    · rcases m4 with h0 | h0
      · omega
      · exact absurd (by rw [h]; exact n3 _ (by omega)) h0
  subst e
  rw [m2, n2]
  apply List.ext_getElem
  · simp; omega
  · intro i h1 h2
    rw [List.getElem_take, List.getElem_take]
    rw [List.length_take] at h1 h2
    have := h i
    rwa [getD_at (by omega), getD_at (by omega)] at this
theorem trim_trim (l : List Int) : trimL (trimL l) = trimL l := trim_unique (trim_getD l)
theorem trim_mem {l : List Int} {x : Int} (h : x ∈ trimL l) : x ∈ l := by
  obtain ⟨m, _, m2, _⟩ := trim_is l
  rw [m2] at h
  exact List.mem_of_mem_take h
theorem trim_len (l : List Int) : (trimL l).length ≤ l.length := by
  obtain ⟨m, _, m2, _⟩ := trim_is l
  rw [m2, List.length_take]; omega
theorem plusL_getD {p : Int} {a b : List Int} {κ : Int} {u : Nat} (i : Nat) : (plusL p a b κ u).getD i 0 = plusV p a b κ u i := by
  unfold plusL
  rw [trim_getD]
  by_cases hi : i < max a.length (b.length + u)
  · rw [getD_at (by simpa using hi)]; simp
  · rw [getD_out (by simp; omega)]
    unfold plusV
    rw [getD_out (by omega)]
    have : (if u ≤ i then b.getD (i - u) 0 else 0) = 0 := by
      split
      · exact getD_out (by omega)
      · rfl
    rw [this, Int.mul_zero, Int.add_zero, Int.zero_emod]
theorem plusL_bd {p : Int} (hp : 0 < p) {a b : List Int} {κ : Int} {u : Nat} : ∀ x ∈ plusL p a b κ u, 0 ≤ x ∧ x < p := by
  intro x hx
  obtain ⟨i, _, rfl⟩ := List.mem_map.1 (trim_mem hx)
  exact ⟨Int.emod_nonneg _ (by omega), Int.emod_lt_of_pos _ hp⟩
theorem plusL_len {p : Int} {a b : List Int} {κ : Int} {u : Nat} : (plusL p a b κ u).length ≤ max a.length (b.length + u) := by
  have := trim_len ((List.range (max a.length (b.length + u))).map (plusV p a b κ u))
  simpa [plusL] using this
/-- what has come after k rounds of Times -/
def timesK (p : Int) (a b : List Int) : Nat → List Int
  | 0 => []
  | k + 1 => plusL p (timesK p a b k) b (a.getD k 0) k
/-- the coefficient at place i after k terms -/
def convM (p : Int) (a b : List Int) (i : Nat) : Nat → Int
  | 0 => 0
  | k + 1 => (convM p a b i k + a.getD k 0 * (if k ≤ i then b.getD (i - k) 0 else 0)) % p
theorem timesK_getD {p : Int} {a b : List Int} (i : Nat) : ∀ k, (timesK p a b k).getD i 0 = convM p a b i k
  | 0 => rfl
  | k + 1 => by
    show (plusL p (timesK p a b k) b (a.getD k 0) k).getD i 0 = _
    rw [plusL_getD]
    unfold plusV convM
    rw [timesK_getD i k]
theorem timesK_bd {p : Int} (hp : 0 < p) {a b : List Int} : ∀ k, ∀ x ∈ timesK p a b k, 0 ≤ x ∧ x < p
  | 0 => fun _ h => by cases h
  | _ + 1 => plusL_bd hp
theorem timesK_len {p : Int} {a b : List Int} : ∀ k, (timesK p a b k).length ≤ b.length + k
  | 0 => Nat.zero_le _
  | k + 1 => by
    have h1 := plusL_len (p := p) (a := timesK p a b k) (b := b) (κ := a.getD k 0) (u := k)
    have h2 := timesK_len (p := p) (a := a) (b := b) k
    show (plusL p (timesK p a b k) b (a.getD k 0) k).length ≤ _
    omega
theorem timesK_trim {p : Int} {a b : List Int} : ∀ k, trimL (timesK p a b k) = timesK p a b k
  | 0 => rfl
  | _ + 1 => trim_trim _
theorem convM_bd {p : Int} (hp : 0 < p) {a b : List Int} {i : Nat} : ∀ k, 0 ≤ convM p a b i k ∧ convM p a b i k < p
  | 0 => ⟨Int.le_refl _, hp⟩
  | _ + 1 => ⟨Int.emod_nonneg _ (by omega), Int.emod_lt_of_pos _ hp⟩
theorem conv_stable {p : Int} (hp : 0 < p) {a b : List Int} {i k : Nat} (h : ∀ j, k ≤ j → a.getD j 0 * (if j ≤ i then b.getD (i - j) 0 else 0) = 0) : ∀ t, convM p a b i (k + t) = convM p a b i k
  | 0 => rfl
  | t + 1 => by
    show (convM p a b i (k + t) + a.getD (k + t) 0 * (if k + t ≤ i then b.getD (i - (k + t)) 0 else 0)) % p = _
    rw [h (k + t) (by omega), conv_stable hp h t, Int.add_zero, Int.emod_eq_of_lt (convM_bd hp k).1 (convM_bd hp k).2]
def mulK (p : Int) (a b : List Int) (K : Nat) : List Int := (List.range K).map fun i => convM p a b i (i + 1)
theorem mulK_succ (p : Int) (a b : List Int) (k : Nat) : mulK p a b (k + 1) = mulK p a b k ++ [convM p a b k (k + 1)] := by
  unfold mulK; rw [List.range_succ, List.map_append, List.map_singleton]
theorem mulK_length (p : Int) (a b : List Int) (k : Nat) : (mulK p a b k).length = k := by simp [mulK]
theorem mul_eq {p : Int} (hp : 0 < p) (a b : List Int) : trimL (mulK p a b (a.length + b.length - 1)) = timesK p a b a.length := by
  rw [← timesK_trim a.length]
  apply trim_unique
  intro i
  rw [timesK_getD]
  have s1 : ∀ j, a.length ≤ j → a.getD j 0 * (if j ≤ i then b.getD (i - j) 0 else 0) = 0 := fun j hj => by rw [getD_out hj, Int.zero_mul]
  by_cases hi : i < a.length + b.length - 1
  · rw [getD_at (by simpa [mulK] using hi)]
    simp only [mulK, List.getElem_map, List.getElem_range]
    have s2 : ∀ j, i + 1 ≤ j → a.getD j 0 * (if j ≤ i then b.getD (i - j) 0 else 0) = 0 := fun j hj => by rw [if_neg (by omega), Int.mul_zero]
    have h1 := conv_stable hp s1 (i + 1)
    have h2 := conv_stable hp s2 a.length
    rw [← h1, ← h2, Nat.add_comm]
  · rw [getD_out (by simp [mulK]; omega)]
    have s0 : ∀ j, 0 ≤ j → a.getD j 0 * (if j ≤ i then b.getD (i - j) 0 else 0) = 0 := fun j _ => by
      by_cases hj : j < a.length
      · by_cases hji : j ≤ i
        · rw [if_pos hji, getD_out (l := b) (by omega), Int.mul_zero]
        · rw [if_neg hji, Int.mul_zero]
      · exact s1 j (by omega)
    have := conv_stable hp s0 a.length
    rw [Nat.zero_add] at this
    rw [this]; rfl
end Lw
set_option linter.unusedVariables false
set_option linter.unusedSimpArgs false
namespace Go.Proofs.Ytlgegdmnbhoepaa
open Go.RowKit
set_option maxHeartbeats 1000000 in
theorem poly_Times (p : Int) (A B : Option Addr) (n c m d : Nat) (a b : List Int) (w : World) (RA : Lw.Rd w 1 A n (Lw.intsV .i64 a)) (RB : Lw.Rd w 1 B m (Lw.intsV .i64 b))
    (ha : ∀ x ∈ a, 0 ≤ x ∧ x < p) (hb : ∀ x ∈ b, 0 ≤ x ∧ x < p) (p1 : 2 ≤ p) (p2 : p ≤ 251) (hn : n ≤ 4096) (hm : m ≤ 4096) :
    Calls Try.prog 170 #[.int .i64 p, .slice A n c, .slice B m d] w (Lw.RetL (Lw.timesK p a b a.length) w) := by
  have la : a.length = n := by have := RA.1; simpa [Lw.intsV] using this
  have lb : b.length = m := by have := RB.1; simpa [Lw.intsV] using this
  have TB := Lib.hid (fun k => Lw.timesK_bd (by omega : 0 < p) (a := a) (b := b) k)
  have TL := Lib.hid (fun k => Lw.timesK_len (p := p) (a := a) (b := b) k)
  have PL := Lib.hid (fun (k : Nat) C j g W (h : Below w.heap.size w W) (R : Lw.Rd W 1 C j (Lw.intsV .i64 (Lw.timesK p a b k))) (hk : k < a.length) => poly_Plus p C B j g m d (Lw.timesK p a b k) b (a.getD k 0) k W R (RB.below (Nat.le_refl w.heap.size) h) (TB.out k) hb p1 p2
    (by have := Lw.getD_bd (by omega : 0 < p) ha k; omega) (by have := Lw.getD_bd (by omega : 0 < p) ha k; omega) (by have := TL.out k; have := R.1; simp [Lw.intsV] at this; omega) (by omega) (by omega))
  have SC : Hid (∀ k, Lw.timesK p a b (k + 1) = Lw.plusL p (Lw.timesK p a b k) b (a.getD k 0) k) := fun _ => rfl
  have RA := Lib.hid RA
  have LA := Lib.hid la
  clear ha hb RB la lb TB TL
  go_enter Try.func170, Try.ntmps170
  go_wp2
  go_loopw [7, 8, 9, 12] (fun o j x i wr => ∃ (k : Nat) (C : Option Addr) (l g : Nat), i = .int .i64 (k : Int) ∧ k ≤ n ∧ o = .slice C l g ∧ l ≤ g ∧ Lw.Rd wr 1 C l (Lw.intsV .i64 (Lw.timesK p a b k)) ∧ Below w.heap.size w wr) (fun _ _ _ i _ => n - (intOf i).toNat)
  case atStart => exact ⟨0, none, 0, 0, rfl, by omega, rfl, Nat.le_refl _, ⟨rfl, fun h => by omega⟩, Below.refl _ _⟩
  case round =>
    obtain ⟨k, C, l, g, rfl, kk, rfl, lg, R, hB⟩ := hrel
    by_cases hlt : k < n
    · have hl : k < a.length := by rw [LA.out]; exact hlt
      obtain ⟨ad, rfl, had, hcell⟩ := (RA.out.below (Nat.le_refl _) hB).at1 hlt (Lw.intsV_get hl)
      have PK := PL.out k C l g wr hB R hl
      have e1 : a[k] = a.getD k 0 := (Lw.getD_at hl).symm
      rw [e1] at hcell
      have S := SC.out k
      obtain ⟨x, hx⟩ : ∃ x, a.getD k 0 = x := ⟨_, rfl⟩
      rw [hx] at hcell PK S
      replace PK := Lib.hid PK
      have S := Lib.hid S
      clear R hx e1
      go_wp2_with (go_at_call 169; (with_reducible refine (PK.out).mono ?_); rintro e w2 ⟨C', k', g', rfl, R', hg', hb2⟩)
      go_roundw
      case rel => exact ⟨k + 1, C', k', g', by go_num, by omega, rfl, hg', by rw [S.out]; exact R', Lw.bt hB hb2⟩
      case measure => simp [intOf]; omega
    · have hk : k = n := by omega
      subst hk
      have LA2 := LA.out
      subst LA2
      go_wp2
      go_ret
      exact ⟨C, l, g, rfl, R, lg, hB⟩
end Go.Proofs.Ytlgegdmnbhoepaa
