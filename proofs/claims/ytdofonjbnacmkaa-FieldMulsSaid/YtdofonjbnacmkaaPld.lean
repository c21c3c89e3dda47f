/- Division, plain: quotient times divisor with the rest is what was divided; poly.Div, the reference's Left. -/
import Derived.Test.YtdofonjbnacmkaaPlr
namespace Lw
open Go Go.RowKit
/-- one more term in a product -/
theorem conv_plus {p : Int} {q b : List Int} {κ : Int} {u i : Nat} : ∀ K, ∃ z, convM p (plusL p q [1] κ u) b i K = convM p q b i K + (if u < K then κ * (if u ≤ i then b.getD (i - u) 0 else 0) else 0) + p * z
  | 0 => ⟨0, by simp [convM]⟩
  | K + 1 => by
    obtain ⟨z, hz⟩ := conv_plus (p := p) (q := q) (b := b) (κ := κ) (u := u) (i := i) K
    unfold convM
    rw [hz, plusL_getD]
    unfold plusV
    generalize hF : (if K ≤ i then b.getD (i - K) 0 else 0) = F
    generalize convM p q b i K = c
    generalize hy : q.getD K 0 + κ * (if u ≤ K then [(1 : Int)].getD (K - u) 0 else 0) = y
    obtain ⟨q1, h1⟩ := emod_q y p
    rw [h1]
    obtain ⟨q2, h2⟩ := emod_q (c + (if u < K then κ * (if u ≤ i then b.getD (i - u) 0 else 0) else 0) + p * z + (y - p * q1) * F) p
    obtain ⟨q3, h3⟩ := emod_q (c + q.getD K 0 * F) p
    rw [h2, h3]
    rcases Nat.lt_trichotomy u K with h | h | h
    · have e1 : [(1 : Int)].getD (K - u) 0 = 0 := getD_out (by simp; omega)
      rw [if_pos (by omega), e1, Int.mul_zero, Int.add_zero] at hy
      simp only [if_pos h, if_pos (show u < K + 1 by omega)]
      rw [← hy]
      exact ⟨z - q1 * F - q2 + q3, by grind⟩
    · subst h
      rw [if_pos (by omega), Nat.sub_self] at hy
      have e1 : [(1 : Int)].getD 0 0 = 1 := rfl
      rw [e1, Int.mul_one] at hy
      rw [if_neg (by omega), if_pos (by omega), hF, ← hy]
      exact ⟨z - q1 * F - q2 + q3, by grind⟩
    · rw [if_neg (by omega), Int.mul_zero, Int.add_zero] at hy
      rw [if_neg (by omega), if_neg (by omega), ← hy]
      exact ⟨z - q1 * F - q2 + q3, by grind⟩
/-- the coefficients are kept -/
theorem ov_inv {p : Int} {a b : List Int} {li : Int} {i : Nat} : ∀ j, ∃ z, convM p (ovN p a b li j).1 b i (i + 1) + (ovN p a b li j).2.getD i 0 = a.getD i 0 + p * z
  | 0 => by
    have : ∀ K, convM p [] b i K = 0 := by
      intro K
      induction K with
      | zero => rfl
      | succ k ih => unfold convM; rw [ih]; simp
    exact ⟨0, by show convM p [] b i (i + 1) + a.getD i 0 = _; rw [this]; simp⟩
  | j + 1 => by
    obtain ⟨z, hz⟩ := ov_inv (p := p) (a := a) (b := b) (li := li) (i := i) j
    show ∃ z, convM p (plusL p (ovN p a b li j).1 [1] (topK p li (ovN p a b li j).2) ((ovN p a b li j).2.length - b.length)) b i (i + 1) + (plusL p (ovN p a b li j).2 b (-topK p li (ovN p a b li j).2) ((ovN p a b li j).2.length - b.length)).getD i 0 = _
    rw [plusL_getD]
    unfold plusV
    generalize (ovN p a b li j).1 = Q at *
    generalize (ovN p a b li j).2 = T at *
    generalize topK p li T = κ
    generalize T.length - b.length = u
    obtain ⟨z1, h1⟩ := conv_plus (p := p) (q := Q) (b := b) (κ := κ) (u := u) (i := i) (i + 1)
    rw [h1]
    obtain ⟨z2, h2⟩ := emod_q (T.getD i 0 + -κ * (if u ≤ i then b.getD (i - u) 0 else 0)) p
    rw [h2]
    by_cases hu : u ≤ i
    · rw [if_pos (by omega), if_pos hu]
      exact ⟨z + z1 - z2, by grind⟩
    · rw [if_neg (by omega), if_neg hu]
      exact ⟨z + z1 - z2, by grind⟩
theorem conv_end {p : Int} (hp : 0 < p) {q b : List Int} {i : Nat} : convM p q b i q.length = convM p q b i (i + 1) := by
  have h1 := conv_stable hp (a := q) (b := b) (i := i) (k := q.length) (fun j hj => by rw [getD_out hj, Int.zero_mul]) (i + 1)
  have h2 := conv_stable hp (a := q) (b := b) (i := i) (k := i + 1) (fun j hj => by rw [if_neg (by omega), Int.mul_zero]) q.length
  rw [show i + 1 + q.length = q.length + (i + 1) by omega] at h2
  rw [← h1, h2]
theorem div_sum {p : Int} {a b : List Int} {li : Int} (hp : 0 < p) (ha : ∀ x ∈ a, 0 ≤ x ∧ x < p) (hat : trimL a = a) (j : Nat) :
    plusL p (timesK p (ovN p a b li j).1 b (ovN p a b li j).1.length) (ovN p a b li j).2 1 0 = a := by
  have t : trimL (plusL p (timesK p (ovN p a b li j).1 b (ovN p a b li j).1.length) (ovN p a b li j).2 1 0) = plusL p (timesK p (ovN p a b li j).1 b (ovN p a b li j).1.length) (ovN p a b li j).2 1 0 := trim_trim _
  rw [← t]
  refine (trim_unique fun i => ?_).trans hat
  rw [plusL_getD, plusV_add, timesK_getD, conv_end hp]
  obtain ⟨z, hz⟩ := ov_inv (p := p) (a := a) (b := b) (li := li) (i := i) j
  have := getD_bd hp ha i
  rw [hz, Int.add_mul_emod_self_left, Int.emod_eq_of_lt this.1 this.2]
theorem endZ_trim (l : List Int) : endZ (trimL l) = false := by
  obtain ⟨m, m1, m2, m3, m4⟩ := trim_is l
  rw [m2]
  rcases Nat.eq_zero_or_pos m with h | h
  · subst h; rfl
  · obtain ⟨k, rfl⟩ : ∃ k, m = k + 1 := ⟨m - 1, by omega⟩
    obtain ⟨hl, e⟩ := endZ_last (zs := l.take (k + 1)) (k := k) (by rw [List.length_take]; omega)
    rw [e, List.getElem_take]
    rcases m4 with h' | h'
    · omega
    · rw [Nat.add_sub_cancel, getD_at (by omega)] at h'
      simpa using h'
theorem ovN_endZ {p : Int} {a b : List Int} {li : Int} : ∀ j, endZ (ovN p a b li j).1 = false
  | 0 => rfl
  | _ + 1 => endZ_trim _
theorem inv_top {p : Int} {b : List Int} (p1 : 2 ≤ p) (p2 : p ≤ 251) (hp : primeB p = true) (hb : ∀ x ∈ b, 0 ≤ x ∧ x < p) (hz : ¬ b.getD (b.length - 1) 0 = 0) : b.getD (b.length - 1) 0 * invR (b.getD (b.length - 1) 0) p % p = 1 := by
  have gb := getD_bd (by omega : 0 < p) hb (b.length - 1)
  obtain ⟨i1, i2, i3⟩ := inv_prime hp (by omega) (by omega : 0 < b.getD (b.length - 1) 0) gb.2
  rw [Int.mul_comm, i1]; exact Int.emod_eq_of_lt (by omega) (by omega)
theorem endZ_top {b : List Int} (h : endZ b = false) (hl : 0 < b.length) : ¬ b.getD (b.length - 1) 0 = 0 := by
  obtain ⟨k, hk⟩ : ∃ k, b.length = k + 1 := ⟨b.length - 1, by omega⟩
  obtain ⟨hl, e⟩ := endZ_last hk
  rw [e] at h
  rw [show b.length - 1 = k by omega, getD_at hl]
  simpa using h
/-- what poly.Div returns when all is well -/
def DivR (p : Int) (a b : List Int) (w : World) (e : Ending) (w' : World) : Prop :=
  ∃ (j : Nat) (C : Option Addr) (k g : Nat) (D : Option Addr) (l h : Nat), e = .returned (.tuple #[.slice C k g, .slice D l h, .int .i64 0]) ∧ Rd w' 1 C k (intsV .i64 (ovN p a b (invR (b.getD (b.length - 1) 0) p) j).1) ∧ Rd w' 1 D l (intsV .i64 (ovN p a b (invR (b.getD (b.length - 1) 0) p) j).2) ∧ l < b.length ∧ k ≤ a.length ∧ (∀ i, i < j → b.length ≤ (ovN p a b (invR (b.getD (b.length - 1) 0) p) i).2.length) ∧ Below w.heap.size w w'
end Lw
set_option linter.unusedVariables false
set_option linter.unusedSimpArgs false
namespace Go.Proofs.Ytdofonjbnacmkaa
open Go.RowKit
theorem poly_Div_bad (p : Int) (A B : Option Addr) (n c m d : Nat) (a b : List Int) (w : World) (RA : Lw.Rd w 1 A n (Lw.intsV .i64 a)) (RB : Lw.Rd w 1 B m (Lw.intsV .i64 b)) (h : ¬ Lw.firstI (Lw.polyE p a) (Lw.polyE p b) = 0) :
    Calls Try.prog 30 #[.int .i64 p, .slice A n c, .slice B m d] w fun e w' => e = .returned (.tuple #[.slice none 0 0, .slice none 0 0, .int .i64 (Lw.firstI (Lw.polyE p a) (Lw.polyE p b))]) ∧ Below w.heap.size w w' := by
  have X := Lib.hid (poly_both p A B n c m d a b w RA RB)
  have h1 : (Lw.firstI (Lw.polyE p a) (Lw.polyE p b) == 0) = false := by simpa using h
  generalize Lw.firstI (Lw.polyE p a) (Lw.polyE p b) = f at *
  clear RA RB h
  go_enter Try.func30, Try.ntmps30
  go_wp2_with (go_at_call 52; (with_reducible refine (X.out).mono ?_); rintro e w1 ⟨rfl, hb1⟩)
  go_ret3
  exact ⟨rfl, hb1⟩
theorem poly_Div_nil (p : Int) (A B : Option Addr) (n c d : Nat) (a b : List Int) (w : World) (RA : Lw.Rd w 1 A n (Lw.intsV .i64 a)) (RB : Lw.Rd w 1 B 0 (Lw.intsV .i64 b)) (h : Lw.firstI (Lw.polyE p a) (Lw.polyE p b) = 0) :
    Calls Try.prog 30 #[.int .i64 p, .slice A n c, .slice B 0 d] w fun e w' => e = .returned (.tuple #[.slice none 0 0, .slice none 0 0, .int .i64 3]) ∧ Below w.heap.size w w' := by
  have X := poly_both p A B n c 0 d a b w RA RB
  rw [h] at X
  replace X := Lib.hid X
  clear RA RB h
  go_enter Try.func30, Try.ntmps30
  go_wp2_with (go_at_call 52; (with_reducible refine (X.out).mono ?_); rintro e w1 ⟨rfl, hb1⟩)
  go_ret3
  exact ⟨rfl, hb1⟩
theorem poly_Div_ok (p : Int) (A B : Option Addr) (n c m d : Nat) (a b : List Int) (w : World) (RA : Lw.Rd w 1 A n (Lw.intsV .i64 a)) (RB : Lw.Rd w 1 B m (Lw.intsV .i64 b)) (ha : Lw.polyE p a = 0) (hb : Lw.polyE p b = 0) (m1 : 1 ≤ m) :
    Calls Try.prog 30 #[.int .i64 p, .slice A n c, .slice B m d] w (Lw.DivR p a b w) := by
  have X := poly_both p A B n c m d a b w RA RB
  rw [ha, hb] at X
  have f0 : Lw.firstI 0 0 = 0 := rfl
  rw [f0] at X
  replace X := Lib.hid X
  obtain ⟨p1, p2, pp, l1, b1, _⟩ := Lw.poly_facts ha
  obtain ⟨_, _, _, l2, b2, z2⟩ := Lw.poly_facts hb
  have la : a.length = n := by have := RA.1; simpa [Lw.intsV] using this
  have lb : b.length = m := by have := RB.1; simpa [Lw.intsV] using this
  have P := Lib.hid (fun W (h : Below w.heap.size w W) => poly_Over p A B n c m d a b W (RA.below (Nat.le_refl w.heap.size) h) (RB.below (Nat.le_refl w.heap.size) h) b1 b2 p1 p2 pp (by omega) (by omega) m1 (Lw.endZ_top z2 (by omega)))
  have POST : Hid (∀ (W W' : World) (e : Ending), Below w.heap.size w W → Lw.OvR p a b W e W' → ∃ C k g D l h, e = .returned (.tuple #[.slice C k g, .slice D l h]) ∧ Lw.DivR p a b w (.returned (.tuple #[.slice C k g, .slice D l h, .int .i64 0])) W') := by
    rintro W W' e hW ⟨j, C, k, g, D, l, h, rfl, r1, r2, h1, h2, h3, h4⟩
    exact ⟨C, k, g, D, l, h, rfl, j, C, k, g, D, l, h, rfl, r1, r2, h1, h2, h3, Lw.bt hW h4⟩
  have m0 : ¬ m = 0 := by omega
  clear RA RB ha hb b1 b2 la lb f0 z2
  go_enter Try.func30, Try.ntmps30
  go_wp2_with (first | (go_at_call 52; (with_reducible refine (X.out).mono ?_); rintro e w1 ⟨rfl, hb1⟩) | (go_at_call 61; (with_reducible refine (P.out _ hb1).mono ?_); (intro e w2 hov); obtain ⟨C, k, g, D, l, h, rfl, HD⟩ := POST.out _ _ _ hb1 hov; replace HD := Lib.hid HD; clear hov))
  go_ret3
  exact HD.out
theorem ref_Left (p : Int) (A B : Option Addr) (n c m d : Nat) (a b : List Int) (w : World) (RA : Lw.Rd w 1 A n (Lw.intsV .i64 a)) (RB : Lw.Rd w 1 B m (Lw.intsV .i64 b))
    (ha : ∀ x ∈ a, 0 ≤ x ∧ x < p) (hb : ∀ x ∈ b, 0 ≤ x ∧ x < p) (p1 : 2 ≤ p) (p2 : p ≤ 251) (hp : Lw.primeB p = true) (hn : n ≤ 4096) (hm : m ≤ 4096) (m1 : 1 ≤ m) (hz : ¬ b.getD (b.length - 1) 0 = 0) :
    Calls Try.prog 31 #[.int .i64 p, .slice A n c, .slice B m d] w (Lw.RetL (Lw.trimL (Lw.leftN p a b (Lw.invR (b.getD (b.length - 1) 0) p) (a.length + 1 - b.length))) w) := by
  have P := Lib.hid (ref_left p A B n c m d a b w RA RB ha hb p1 p2 hp hn hm m1 hz)
  generalize Lw.trimL (Lw.leftN p a b (Lw.invR (b.getD (b.length - 1) 0) p) (a.length + 1 - b.length)) = out at *
  clear RA RB ha hb hz
  go_enter Try.func31, Try.ntmps31
  go_wp2_with (go_at_call 62; (with_reducible refine (P.out).mono ?_); rintro e w1 ⟨C, k, g, rfl, R1, hg, hb1⟩)
  go_ret
  exact ⟨C, k, g, rfl, R1, hg, hb1⟩
end Go.Proofs.Ytdofonjbnacmkaa
