/- poly.Over: quotient and rest. -/
import Derived.Test.YtjhjppaabmbbbaaPlm
import Derived.Test.YtjhjppaabmbbbaaEuc
import Derived.Test.YtjhjppaabmbbbaaGcd
import Derived.Lib.SliceRun
namespace Lw
open Go Go.RowKit
theorem inv_spec' {a m : Int} (hm : 0 < m) (hm2 : m ≤ 1048576) (ha : 0 ≤ a) (ha2 : a < m) (h : gcdI a m = 1) : invE a m = 0 ∧ invR a m * a % m = 1 % m ∧ 0 ≤ invR a m ∧ invR a m < m := by
  obtain ⟨e1, e2⟩ := invE_zero (a := a) (m := m) (by omega) h
  obtain ⟨g, x, h1, h2, _, h4⟩ := exists_step a m
  rw [h] at h1
  have hg : g = 1 := by have := h4 ha (by omega); unfold absI at h1; omega
  subst hg
  have h5 : x % m * a % m = 1 % m := by rw [mul_emod_left]; exact emod_of_dvd_sub h2
  have e3 := invI_eq (a := a) (Int.emod_nonneg x (by omega)) (Int.emod_lt_of_pos x hm) h5
  rw [e2, e3]
  exact ⟨e1, h5, Int.emod_nonneg x (by omega), Int.emod_lt_of_pos x hm⟩
theorem emod_q (x P : Int) : ∃ q, x % P = x - P * q := ⟨x / P, Int.emod_def x P⟩
theorem gcd_prime {p b : Int} (hp : primeB p = true) (b1 : 0 < b) (b2 : b < p) : gcdI b p = 1 := by
  have hp' : Prime p.toNat := by simpa [primeB] using hp
  have h1 : Nat.gcd p.toNat b.toNat = 1 := hp'.coprime (fun h => by have := Nat.le_of_dvd (by omega) h; omega)
  unfold gcdI
  rw [Int.gcd, show b.natAbs = b.toNat by omega, show p.natAbs = p.toNat by omega, Nat.gcd_comm, h1]; rfl
/-- the inverse of what is not 0 by a prime -/
theorem inv_prime {p b : Int} (hp : primeB p = true) (p2 : p ≤ 1048576) (b1 : 0 < b) (b2 : b < p) : invR b p * b % p = 1 % p ∧ 0 ≤ invR b p ∧ invR b p < p :=
  (inv_spec' (by omega) p2 (by omega) b2 (gcd_prime hp b1 b2)).2
/-- the k by which the top goes -/
def topK (p : Int) (li : Int) (r : List Int) : Int := r.getD (r.length - 1) 0 * li % p
/-- quotient and rest after j rounds -/
def ovN (p : Int) (a b : List Int) (li : Int) : Nat → List Int × List Int
  | 0 => ([], a)
  | j + 1 => (plusL p (ovN p a b li j).1 [1] (topK p li (ovN p a b li j).2) ((ovN p a b li j).2.length - b.length), plusL p (ovN p a b li j).2 b (-topK p li (ovN p a b li j).2) ((ovN p a b li j).2.length - b.length))
theorem topK_bd {p : Int} (hp : 0 < p) {li : Int} {r : List Int} : 0 ≤ topK p li r ∧ topK p li r < p := ⟨Int.emod_nonneg _ (by omega), Int.emod_lt_of_pos _ hp⟩
/-- a round takes the top away -/
theorem over_less {p li : Int} {r b : List Int} (hp : 2 ≤ p) (hb : 0 < b.length) (hr : b.length ≤ r.length) (hl : b.getD (b.length - 1) 0 * li % p = 1) (ht : ∀ x ∈ r, 0 ≤ x ∧ x < p) :
    (plusL p r b (-topK p li r) (r.length - b.length)).length < r.length := by
  have hN : max r.length (b.length + (r.length - b.length)) = r.length := by omega
  have h0 : plusV p r b (-topK p li r) (r.length - b.length) (r.length - 1) = 0 := by
    unfold plusV
    rw [if_pos (by omega), show r.length - 1 - (r.length - b.length) = b.length - 1 by omega]
    unfold topK
    generalize r.getD (r.length - 1) 0 = t at *
    generalize b.getD (b.length - 1) 0 = c at *
    obtain ⟨u, hu⟩ := emod_q (t * li) p
    obtain ⟨v, hv⟩ := emod_q (c * li) p
    rw [hu]
    rw [hv] at hl
    have : t + -(t * li - p * u) * c = 0 + p * (u * c - t * v) := by
      have : c * li = 1 + p * v := by omega
      have e : t * li * c = t * (c * li) := by grind
      grind
    rw [this, Int.add_mul_emod_self_left]; rfl
  unfold plusL
  rw [hN]
  obtain ⟨m, m1, m2, m3, m4⟩ := trim_is ((List.range r.length).map (plusV p r b (-topK p li r) (r.length - b.length)))
  rw [m2]
  simp only [List.length_map, List.length_range] at m1
  rw [List.length_take, List.length_map, List.length_range]
  have : m ≠ r.length := by
    intro e
    rcases m4 with h | h
    · omega
    · apply h
      rw [e, getD_at (by simp; omega)]
      simpa using h0
  omega
theorem ovN_bd {p : Int} (hp : 0 < p) {a b : List Int} {li : Int} (ha : ∀ x ∈ a, 0 ≤ x ∧ x < p) : ∀ j, (∀ x ∈ (ovN p a b li j).1, 0 ≤ x ∧ x < p) ∧ ∀ x ∈ (ovN p a b li j).2, 0 ≤ x ∧ x < p
  | 0 => ⟨fun _ h => by simp [ovN] at h, ha⟩
  | _ + 1 => ⟨plusL_bd hp, plusL_bd hp⟩
/-- what Over returns -/
def OvR (p : Int) (a b : List Int) (w : World) (e : Ending) (w' : World) : Prop :=
  ∃ (j : Nat) (C : Option Addr) (k g : Nat) (D : Option Addr) (l h : Nat), e = .returned (.tuple #[.slice C k g, .slice D l h]) ∧ Rd w' 1 C k (intsV .i64 (ovN p a b (invR (b.getD (b.length - 1) 0) p) j).1) ∧ Rd w' 1 D l (intsV .i64 (ovN p a b (invR (b.getD (b.length - 1) 0) p) j).2) ∧ l < b.length ∧ k ≤ a.length ∧ (∀ i, i < j → b.length ≤ (ovN p a b (invR (b.getD (b.length - 1) 0) p) i).2.length) ∧ Below w.heap.size w w'
end Lw
set_option linter.unusedVariables false
set_option linter.unusedSimpArgs false
namespace Go.Proofs.Ytjhjppaabmbbbaa
open Go.RowKit
theorem long_one : Lw.El Try.prog 69 2 (.int .i64 0) 1 8 := elPly
set_option maxRecDepth 100000 in
set_option maxHeartbeats 1000000 in
theorem longs_clone (A : Option Addr) (n c : Nat) (xs : List Value) (w : World) (R : Lw.Rd w 1 A n xs) (o1 : ∀ u ∈ xs, u.oneCell' = true) (hn : n ≤ 16777216) :
    Calls Try.prog 91 #[.slice A n c] w (Lw.OwnRes 2 1 xs n w) := by
  have q := fun (w : World) (a : Option Addr) (n c n' c' : Nat) => Lib.run_eql_slice_nil (P := Try.prog) w 69 2 a n c n' c' Try.underlying69
  rcases A with _ | ad
  · have hn0 : n = 0 := by
      rcases Nat.eq_zero_or_pos n with h | h
      · exact h
      · obtain ⟨_, h2, _⟩ := R.2 h; cases h2
    subst hn0
    have hx : xs = [] := List.eq_nil_of_length_eq_zero (by simpa using R.1)
    subst hx
    clear R o1
    go_enter Try.func91, Try.ntmps91
    go_wp2
    go_ret
    exact ⟨_, _, rfl, World.ownsRow_nil _ _ _ _, Below.refl _ _⟩
  · have R := Lib.hid R
    go_enter Try.func91, Try.ntmps91
    go_wp2_with (at_builtin; refine Lw.wpList_app elPly rfl _ _ rfl rfl (Lw.own_lit w (xs := []) rfl rfl (by decide) (Nat.le_refl _)) rfl (R.out.alloc _) o1 (by omega) (Lw.balloc (Below.refl _ _) _) (Nat.le_refl _) (by simp) ?_; intro v1 w1 own1 hb1 _ _)
    go_ret
    obtain ⟨B, c', rfl, _⟩ := Lw.ownsForm own1
    exact ⟨B, c', by simp, by simpa using own1, hb1⟩

theorem poly_inverse (a p : Int) (w : World) :
    Calls Try.prog 79 #[.int .i64 a, .int .i64 p] w fun e w' => e = .returned (.int .i64 (Lw.invR a p)) ∧ Below w.heap.size w w' := by
  have X := Lib.hid (fun w => euclid_Inverse a p w)
  go_enter Try.func79, Try.ntmps79
  go_wp2_with (go_at_call 90; (with_reducible refine (X.out _).mono ?_); rintro e w1 ⟨rfl, hb1⟩)
  go_ret
  exact ⟨rfl, hb1⟩
set_option maxRecDepth 100000 in
set_option maxHeartbeats 4000000 in
theorem poly_Over (p : Int) (A B : Option Addr) (n c m d : Nat) (a b : List Int) (w : World) (RA : Lw.Rd w 1 A n (Lw.intsV .i64 a)) (RB : Lw.Rd w 1 B m (Lw.intsV .i64 b))
    (ha : ∀ x ∈ a, 0 ≤ x ∧ x < p) (hb : ∀ x ∈ b, 0 ≤ x ∧ x < p) (p1 : 2 ≤ p) (p2 : p ≤ 251) (hp : Lw.primeB p = true) (hn : n ≤ 4096) (hm : m ≤ 4096) (m1 : 1 ≤ m) (hz : ¬ b.getD (b.length - 1) 0 = 0) :
    Calls Try.prog 148 #[.int .i64 p, .slice A n c, .slice B m d] w (Lw.OvR p a b w) := by
  have la : a.length = n := by have := RA.1; simpa [Lw.intsV] using this
  have lb : b.length = m := by have := RB.1; simpa [Lw.intsV] using this
  obtain ⟨t0, ht0⟩ : ∃ t, m = t + 1 := ⟨m - 1, by omega⟩
  have htl : t0 < b.length := by omega
  have hbt : b.length - 1 = t0 := by omega
  have gb := Lw.getD_bd (by omega : 0 < p) hb (b.length - 1)
  obtain ⟨i1, i2, i3⟩ := Lw.inv_prime hp (by omega) (by omega : 0 < b.getD (b.length - 1) 0) gb.2
  have i4 : b.getD (b.length - 1) 0 * Lw.invR (b.getD (b.length - 1) 0) p % p = 1 := by rw [Int.mul_comm, i1]; exact Int.emod_eq_of_lt (by omega) (by omega)
  have LESS := Lib.hid (fun (r : List Int) (hr : b.length ≤ r.length) (ht : ∀ x ∈ r, 0 ≤ x ∧ x < p) => Lw.over_less (p := p) (li := Lw.invR (b.getD (b.length - 1) 0) p) (r := r) (b := b) p1 (by omega) hr i4 ht)
  have BD := Lib.hid (fun j => Lw.ovN_bd (p := p) (by omega : 0 < p) (a := a) (b := b) (li := Lw.invR (b.getD (b.length - 1) 0) p) ha j)
  have POST : Hid (∀ (j : Nat) (C : Option Addr) (k g : Nat) (D : Option Addr) (l h : Nat) (wr : World), Lw.Rd wr 1 C k (Lw.intsV .i64 (Lw.ovN p a b (Lw.invR (b.getD (b.length - 1) 0) p) j).1) → Lw.Rd wr 1 D l (Lw.intsV .i64 (Lw.ovN p a b (Lw.invR (b.getD (b.length - 1) 0) p) j).2) → l < m → k ≤ n → (∀ i, i < j → m ≤ (Lw.ovN p a b (Lw.invR (b.getD (b.length - 1) 0) p) i).2.length) → Below w.heap.size w wr → Lw.OvR p a b w (.returned (.tuple #[.slice C k g, .slice D l h])) wr) := by
    intro j C k g D l h wr h1 h2 h3 h4 h6 h5
    exact ⟨j, C, k, g, D, l, h, rfl, h1, h2, by omega, by omega, fun i hi => by have := h6 i hi; omega, h5⟩
  have CL := Lib.hid (longs_clone A n c (Lw.intsV .i64 a) w RA (Lw.intsV_one _ _) (by omega))
  obtain ⟨bd, rfl, hbd, hbcell⟩ := RB.at1 (by omega : t0 < m) (Lw.intsV_get htl)
  have hval : b[t0] = b.getD (b.length - 1) 0 := by rw [hbt]; exact (Lw.getD_at htl).symm
  rw [hval] at hbcell
  clear hval
  have hbcell := Lib.hid hbcell
  have IV := Lib.hid (fun w => poly_inverse (b.getD (b.length - 1) 0) p w)
  have O0 : Hid (Lw.ovN p a b (Lw.invR (b.getD (b.length - 1) 0) p) 0 = ([], a)) := rfl
  have OS : Hid (∀ j, Lw.ovN p a b (Lw.invR (b.getD (b.length - 1) 0) p) (j + 1) = (Lw.plusL p (Lw.ovN p a b (Lw.invR (b.getD (b.length - 1) 0) p) j).1 [1] (Lw.topK p (Lw.invR (b.getD (b.length - 1) 0) p) (Lw.ovN p a b (Lw.invR (b.getD (b.length - 1) 0) p) j).2) ((Lw.ovN p a b (Lw.invR (b.getD (b.length - 1) 0) p) j).2.length - b.length), Lw.plusL p (Lw.ovN p a b (Lw.invR (b.getD (b.length - 1) 0) p) j).2 b (-Lw.topK p (Lw.invR (b.getD (b.length - 1) 0) p) (Lw.ovN p a b (Lw.invR (b.getD (b.length - 1) 0) p) j).2) ((Lw.ovN p a b (Lw.invR (b.getD (b.length - 1) 0) p) j).2.length - b.length))) := fun _ => rfl
  obtain ⟨be, hbe⟩ : ∃ z, b.getD (b.length - 1) 0 = z := ⟨_, rfl⟩
  rw [hbe] at i1 i2 i3 i4 LESS BD POST hbcell IV O0 OS
  obtain ⟨li, hli⟩ : ∃ z, Lw.invR be p = z := ⟨_, rfl⟩
  rw [hli] at i1 i2 i3 i4 LESS BD POST IV O0 OS
  have HB := Lib.hid hb
  have RB := Lib.hid RB
  have LB := Lib.hid lb
  have LA := Lib.hid la
  subst ht0
  clear ha hb RA la lb hbe hli hbt hz gb htl i1 i4 hp
  have p0 : ¬ p = 0 := by omega
  go_enter Try.func148, Try.ntmps148
  go_wp2_with fail
  refine CL.out.mono ?_
  rintro e w1 ⟨A1, c1, rfl, own1, hb1⟩
  have R1 := Lib.hid (Lw.Rd.of_own own1)
  have hbc1 := (hb1.cell (by rw [Lw.add_block]; exact hbd)).trans hbcell.out
  clear own1
  go_wp2_with fail
  refine (IV.out _).mono ?_
  rintro e w2 ⟨rfl, hb2⟩
  have hB2 : Below w.heap.size w w2 := Lw.bt hb1 hb2
  have R2 := Lib.hid (R1.out.below (Nat.le_refl _) hb2)
  clear R1 hbc1
  go_wp2_with fail
  go_loopw [8, 9, 11, 12] (fun q r u kk wr => ∃ (j : Nat) (C : Option Addr) (k g : Nat) (D : Option Addr) (l h : Nat), q = .slice C k g ∧ r = .slice D l h ∧ Lw.Rd wr 1 C k (Lw.intsV .i64 (Lw.ovN p a b li j).1) ∧ Lw.Rd wr 1 D l (Lw.intsV .i64 (Lw.ovN p a b li j).2) ∧ k ≤ n ∧ l ≤ n ∧ Hid (∀ i, i < j → t0 + 1 ≤ (Lw.ovN p a b li i).2.length) ∧ Below w.heap.size w wr) (fun _ r _ _ _ => (match r with | .slice _ l _ => l | _ => 0))
  case atStart => exact ⟨0, none, 0, 0, A1, n, c1, rfl, rfl, by rw [O0.out]; exact ⟨rfl, fun h => by omega⟩, by rw [O0.out]; exact R2.out, by omega, Nat.le_refl _, (fun i hi => by omega), hB2⟩
  case round =>
    clear R2 hB2
    obtain ⟨j, C, k, g, D, l, h, rfl, rfl, RQ, RR, hk, hl, FST, hB⟩ := hrel
    by_cases hlt : t0 + 1 ≤ l
    · obtain ⟨u, hu⟩ : ∃ u, l - (t0 + 1) = u := ⟨_, rfl⟩
      obtain ⟨bq, br⟩ := BD.out j
      have S := OS.out j
      obtain ⟨⟨Q, T⟩, hQ⟩ : ∃ z, Lw.ovN p a b li j = z := ⟨_, rfl⟩
      have FS2 : Hid (∀ i, i < j + 1 → t0 + 1 ≤ (Lw.ovN p a b li i).2.length) := by
        intro i hi
        by_cases hij : i = j
        · subst hij
          have h1 := RR.1
          simp [Lw.intsV] at h1
          omega
        · exact FST.out i (by omega)
      rw [hQ] at RQ RR bq br S
      simp only at RQ RR bq br S
      have lT : T.length = l := by have := RR.1; simpa [Lw.intsV] using this
      have lQ : Q.length = k := by have := RQ.1; simpa [Lw.intsV] using this
      rw [lT, LB.out, hu] at S
      obtain ⟨t, ht⟩ : ∃ t, l = t + 1 := ⟨l - 1, by omega⟩
      subst ht
      have hu2 : (t : Int) + 1 - ((t0 : Int) + 1) = (u : Int) := by omega
      have htl : t < T.length := by omega
      obtain ⟨de, rfl, hde, hdc⟩ := RR.at1 (by omega : t < t + 1) (Lw.intsV_get htl)
      have tb := br _ (List.getElem_mem htl)
      have LS := LESS.out T (by rw [LB.out, lT]; exact hlt) br
      rw [lT, LB.out, hu] at LS
      have hK : Lw.topK p li T = T[t] * li % p := by unfold Lw.topK; rw [lT, Nat.add_sub_cancel, Lw.getD_at htl]
      obtain ⟨kb1, kb2⟩ := Lw.topK_bd (by omega : 0 < p) (li := li) (r := T)
      obtain ⟨tt, htt⟩ : ∃ z, T[t] = z := ⟨_, rfl⟩
      rw [htt] at hK tb hdc
      obtain ⟨kk, hkk⟩ : ∃ z, Lw.topK p li T = z := ⟨_, rfl⟩
      rw [hkk] at hK kb1 kb2 LS S
      obtain ⟨tb1, tb2⟩ := tb
      obtain ⟨m1', m2'⟩ := Lw.mul_ab (κ := tt) (x := li) (by omega) (by omega) i2 (by omega)
      have m3' : 0 ≤ tt * li := Int.mul_nonneg tb1 i2
      have e1 : IntKind.i64.wrap (tt * li) = tt * li := by rw [IntKind.wrap_i64]; omega
      have e2 : (tt * li).tmod p = kk := by rw [Int.tmod_eq_emod_of_nonneg m3', hK]
      have e3 : IntKind.i64.wrap (-kk) = -kk := by rw [IntKind.wrap_i64]; omega
      have QL : Hid ((Lw.plusL p Q [1] kk u).length ≤ n) := by
        have h1 := Lw.plusL_len (p := p) (a := Q) (b := [1]) (κ := kk) (u := u)
        have h2 : ([1] : List Int).length = 1 := rfl
        unfold Hid
        omega
      have PL1 := Lib.hid (fun W (h : Below wr.heap.size wr W) (R1 : Lw.Rd W 1 (some ⟨wr.heap.size, 0, none⟩) 1 (Lw.intsV .i64 [1])) => poly_Plus p C (some ⟨wr.heap.size, 0, none⟩) k g 1 1 Q [1] kk u W (RQ.below (Nat.le_refl wr.heap.size) h) R1 bq (by intro x hx; simp at hx; omega) p1 p2 (by omega) (by omega) (by omega) (by omega) (by omega))
      have PL2 := Lib.hid (fun W (hbw : Below wr.heap.size wr W) => poly_Plus p (some de) (some bd) (t + 1) h (t0 + 1) d T b (-kk) u W (RR.below (Nat.le_refl wr.heap.size) hbw) (RB.out.below (Nat.le_refl _) (Lw.bt hB hbw)) br HB.out p1 p2 (by omega) (by omega) (by omega) (by omega) (by omega))
      have S := Lib.hid S
      have LS := Lib.hid LS
      clear RQ RR bq br hQ htt hkk hK lT lQ LESS BD OS POST htl
      have hlt2 : (t0 : Int) + 1 ≤ (t : Int) + 1 := by omega
      go_wp2_with fail
      refine (PL1.out _ (Lw.balloc (Below.refl _ _) _) (by exact Lw.Rd.lit (Lw.blk_new' (by simp) _ _) rfl rfl)).mono ?_
      rintro e w3 ⟨C', k', g', rfl, RQ', _, hb3⟩
      have hb3' : Below wr.heap.size wr w3 := Lw.bt (Lw.balloc (Below.refl _ _) _) hb3
      have RQ' := Lib.hid RQ'
      go_wp2_with fail
      refine (PL2.out _ hb3').mono ?_
      rintro e w4 ⟨D', l', h', rfl, RR', _, hb4⟩
      have RQ2 := Lib.hid (RQ'.out.below (Nat.le_refl _) hb4)
      have RR2 := Lib.hid RR'
      have lk : k' ≤ n := by have h1 := RQ2.out.1; have h2 := QL.out; simp [Lw.intsV] at h1; omega
      have ll : l' < t + 1 := by have h1 := RR2.out.1; have h2 := LS.out; simp [Lw.intsV] at h1; omega
      clear RR' RQ'
      go_wp2_with fail
      go_roundw
      case rel => exact ⟨j + 1, C', k', g', D', l', h', rfl, rfl, by rw [S.out]; exact RQ2.out, by rw [S.out]; exact RR2.out, lk, by omega, FS2, Lw.bt hB (Lw.bt hb3' hb4)⟩
      case measure => simpa using ll
    · have hlt' : l < t0 + 1 := by omega
      have P := Lib.hid (POST.out j C k g D l h wr RQ RR hlt' hk FST.out hB)
      clear RQ RR
      go_wp2_with fail
      go_ret2
      exact P.out
end Go.Proofs.Ytjhjppaabmbbbaa
