/-
  What is wrong with points: poly.wrong (a map of counts), the reference's PointsCheck.
  The reference's PointsCheck.
  poly.Through: Newton's way walked.
  What points have in common at 0: products of quotients (plain).
  share.Split and the reference's Split: values of a polynomial at 1, 2, ..
  The reference's Split and Points.
  share.Join walked: the value at 0 of what goes through the points.
  The reference's JoinCheck and Join walked.
  parts.Open: what all know together.
  Package parts, plain: shares of values; the weight of a party's share; what gates are worth in shares.
  One block has turned (package parts).
  Package parts: of each party's shares; the weight.
  Package parts: the weight of a party's share.
-/
import Derived.Test.YtfocpbknckmmaaaKPartsPlays4
import Derived.Test.YtfocpbknckmmaaaKPartsPlays1
namespace Lw
open Go Go.RowKit Go.Maps
def outP (p : Int) (r : PtT) : Bool := decide (r.1 < 0) || decide (p ≤ r.1) || decide (r.2 < 0) || decide (p ≤ r.2)
open Classical in
noncomputable def ptsE (p : Int) (L : List PtT) : Int := if ¬ pprE p = 0 then pprE p else if 13 < L.length then 1 else if L.any (outP p) = true then 2 else if DupP (L.map Prod.fst) L.length then 4 else 0
theorem pts_p {p : Int} {L : List PtT} (h : ¬ pprE p = 0) : ptsE p L = pprE p := if_pos h
theorem pts_len {p : Int} {L : List PtT} (h : pprE p = 0) (h1 : 13 < L.length) : ptsE p L = 1 := by unfold ptsE; rw [if_neg (by simp [h]), if_pos h1]
theorem pts_out {p : Int} {L : List PtT} (h : pprE p = 0) (h1 : ¬ 13 < L.length) {k : Nat} (hk : k < L.length) (ho : outP p L[k] = true) : ptsE p L = 2 := by
  unfold ptsE; rw [if_neg (by simp [h]), if_neg h1, if_pos (List.any_eq_true.2 ⟨_, List.getElem_mem hk, ho⟩)]
theorem noOut {p : Int} {L : List PtT} (h : ∀ k (hk : k < L.length), outP p L[k] = false) : ¬ L.any (outP p) = true := by
  intro ha
  obtain ⟨r, hr, h1⟩ := List.any_eq_true.1 ha
  obtain ⟨i, hi, rfl⟩ := List.getElem_of_mem hr
  rw [h i hi] at h1; cases h1
theorem pts_dup {p : Int} {L : List PtT} (h : pprE p = 0) (h1 : ¬ 13 < L.length) (h2 : ∀ k (hk : k < L.length), outP p L[k] = false) (h3 : DupP (L.map Prod.fst) L.length) : ptsE p L = 4 := by
  unfold ptsE; rw [if_neg (by simp [h]), if_neg h1, if_neg (noOut h2), if_pos h3]
theorem pts_zero {p : Int} {L : List PtT} (h : pprE p = 0) (h1 : ¬ 13 < L.length) (h2 : ∀ k (hk : k < L.length), outP p L[k] = false) (h3 : ¬ DupP (L.map Prod.fst) L.length) : ptsE p L = 0 := by
  unfold ptsE; rw [if_neg (by simp [h]), if_neg h1, if_neg (noOut h2), if_neg h3]
theorem outP_no {p x y : Int} (h : outP p (x, y) = false) : 0 ≤ x ∧ x < p ∧ 0 ≤ y ∧ y < p := by
  unfold outP at h; simp at h; omega
theorem outP_yes {p x y : Int} (h : outP p (x, y) = true) : x < 0 ∨ p ≤ x ∨ y < 0 ∨ p ≤ y := by
  unfold outP at h; simp at h; omega
theorem fst_getD {L : List PtT} {k : Nat} : (L.map Prod.fst).getD k 0 = (ptG L k).1 := by
  unfold ptG
  rw [List.getD_eq_getElem?_getD, List.getD_eq_getElem?_getD, List.getElem?_map]
  cases L[k]? <;> rfl
theorem pts_ok {p : Int} {L : List PtT} (h : ptsE p L = 0) : pprE p = 0 ∧ L.length ≤ 13 ∧ PtsOk p L := by
  by_cases h0 : pprE p = 0
  · by_cases h1 : 13 < L.length
    · rw [pts_len h0 h1] at h; cases h
    · by_cases h2 : ∀ k (hk : k < L.length), outP p L[k] = false
      · by_cases h3 : DupP (L.map Prod.fst) L.length
        · rw [pts_dup h0 h1 h2 h3] at h; cases h
        · refine ⟨h0, by omega, fun r hr => ?_, fun i j hij hj e => h3 ⟨j, i, hij, hj, by rw [fst_getD, fst_getD]; exact e.symm⟩⟩
          obtain ⟨i, hi, rfl⟩ := List.getElem_of_mem hr
          have := outP_no (h2 i hi)
          exact ⟨⟨this.1, this.2.1⟩, this.2.2⟩
      · obtain ⟨k, hk⟩ := Classical.not_forall.1 h2
        obtain ⟨hk, ho⟩ := Classical.not_forall.1 hk
        rw [pts_out h0 h1 hk (by simpa using ho)] at h; cases h
  · rw [pts_p h0] at h; exact absurd h h0
/-- none of the first k is out of bounds -/
def InK (p : Int) (L : List PtT) (k : Nat) : Prop := ∀ i (hi : i < L.length), i < k → outP p L[i] = false
theorem inK_next {p : Int} {L : List PtT} {k : Nat} (hk : k < L.length) (h : InK p L k) (h1 : outP p L[k] = false) : InK p L (k + 1) := fun i hi hik => by
  by_cases e : i = k
  · subst e; exact h1
  · exact h i hi (by omega)
theorem pairsV_len {k l : IntKind} {L : List PtT} {w : World} {A : Option Addr} {n : Nat} (R : Rd w 2 A n (pairsV k l L)) : L.length = n := by have := R.1; rw [pairsV_length] at this; omega
end Lw
set_option linter.unusedVariables false
set_option linter.unusedSimpArgs false
namespace Go.Proofs.Ytfocpbknckmmaaa
open Go.RowKit
open Go.Maps
end Go.Proofs.Ytfocpbknckmmaaa
set_option linter.unusedVariables false
set_option linter.unusedSimpArgs false
namespace Go.Proofs.Ytfocpbknckmmaaa
open Go.RowKit
end Go.Proofs.Ytfocpbknckmmaaa
set_option linter.unusedVariables false
set_option linter.unusedSimpArgs false
namespace Go.Proofs.Ytfocpbknckmmaaa
open Go.RowKit
end Go.Proofs.Ytfocpbknckmmaaa
namespace Lw
open Go Go.RowKit
/-- the reference's rounds -/
def jnK (p : Int) (L : List PtT) (i : Nat) : Nat → Int
  | 0 => (ptG L i).2
  | j + 1 => if j = i then jnK p L i j else jnK p L i j * (ptG L j).1 % p * invR (((ptG L j).1 - (ptG L i).1) % p) p % p
def jnS (p : Int) (L : List PtT) : Nat → Int
  | 0 => 0
  | k + 1 => (jnS p L k + jnK p L k L.length) % p
theorem opp_inv {p d e u v : Int} (h1 : u * d % p = 1 % p) (h2 : v * e % p = 1 % p) (h3 : (d + e) % p = 0) : (u + v) % p = 0 := by
  obtain ⟨a, ha⟩ := Int.dvd_of_emod_eq_zero (Int.emod_eq_emod_iff_emod_sub_eq_zero.1 h1)
  obtain ⟨b, hb⟩ := Int.dvd_of_emod_eq_zero (Int.emod_eq_emod_iff_emod_sub_eq_zero.1 h2)
  obtain ⟨c, hc⟩ := Int.dvd_of_emod_eq_zero h3
  have e1 : u * d = p * a + 1 := by omega
  have e2 : v * e = p * b + 1 := by omega
  refine Int.emod_eq_zero_of_dvd ⟨u * v * c - (u * b + v * a), ?_⟩
  have : u + v = u * v * (d + e) - v * (u * d - 1) - u * (v * e - 1) := by grind
  rw [this, hc, e1, e2]; grind
theorem jnK_step {p a b k u v : Int} (h : (u + v) % p = 0) (hk : k % p = b % p) : (k * a % p * u % p) % p = (b * (-a * v)) % p := by
  obtain ⟨c, hc⟩ := Int.dvd_of_emod_eq_zero h
  obtain ⟨q, hq⟩ := Int.dvd_of_emod_eq_zero (Int.emod_eq_emod_iff_emod_sub_eq_zero.1 hk)
  have e1 : v = p * c - u := by omega
  have e2 : k = b + p * q := by omega
  rw [Int.emod_emod_of_dvd _ (Int.dvd_refl p), Int.mul_emod, Int.emod_emod_of_dvd _ (Int.dvd_refl p), ← Int.mul_emod]
  refine Int.emod_eq_emod_iff_emod_sub_eq_zero.2 (Int.emod_eq_zero_of_dvd ⟨q * a * u + b * a * c, ?_⟩)
  rw [e1, e2]; grind
theorem jnK_eval {p : Int} (p1 : 2 ≤ p) (p2 : p ≤ 251) (hp : primeB p = true) {L : List PtT} (hL : PtsOk p L) {i : Nat} (hi : i < L.length) : ∀ j, j ≤ L.length → jnK p L i j % p = evalI (lst p L i j) 0 % p
  | 0, _ => by
    show (ptG L i).2 % p = (0 * 0 + (ptG L i).2) % p
    rw [Int.zero_mul, Int.zero_add]
  | j + 1, h => by
    have ih := jnK_eval p1 p2 hp hL hi j (by omega)
    by_cases e : j = i
    · have hl : lst p L i (j + 1) = lst p L i j := if_pos e
      have hk : jnK p L i (j + 1) = jnK p L i j := if_pos e
      rw [hl, hk, ih]
    · have hl : lst p L i (j + 1) = timesK p (trimL (lst p L i j)) (lsF p L i j) (trimL (lst p L i j)).length := if_neg e
      have hk : jnK p L i (j + 1) = jnK p L i j * (ptG L j).1 % p * invR (((ptG L j).1 - (ptG L i).1) % p) p % p := if_neg e
      have e1 : evalI (lst p L i (j + 1)) 0 % p = (evalI (lst p L i j) 0 * (-(ptG L j).1 * lsK p L i j)) % p := by
        rw [hl, eval_times, eval_trim]
        unfold lsF
        rw [eval_trim, eval_two, Int.mul_zero, Int.zero_add, Int.mul_emod, Int.emod_emod_of_dvd _ (Int.dvd_refl p), ← Int.mul_emod]
      obtain ⟨k0, _⟩ := lsK_ok p1 p2 hp hL hi (by omega : j < L.length) e
      obtain ⟨k1, _⟩ := lsK_ok p1 p2 hp hL (by omega : j < L.length) hi (fun h => e h.symm)
      rw [e1, hk]
      refine jnK_step (opp_inv k1 k0 ?_) ih
      rw [show (ptG L j).1 - (ptG L i).1 + ((ptG L i).1 - (ptG L j).1) = 0 by omega]; rfl
theorem jnS_eval {p : Int} (p1 : 2 ≤ p) (p2 : p ≤ 251) (hp : primeB p = true) {L : List PtT} (hL : PtsOk p L) : ∀ k, k ≤ L.length → jnS p L k % p = evalI (sst p L k) 0 % p
  | 0, _ => rfl
  | k + 1, h => by
    have ih := jnS_eval p1 p2 hp hL k (by omega)
    have jk := jnK_eval p1 p2 hp hL (show k < L.length by omega) L.length (Nat.le_refl _)
    show (jnS p L k + jnK p L k L.length) % p % p = evalI (plusL p (sst p L k) (trimL (lst p L k L.length)) 1 0) 0 % p
    rw [eval_plus, eval_trim, Int.pow_zero, Int.one_mul, Int.one_mul, Int.emod_emod_of_dvd _ (Int.dvd_refl p), Int.add_emod, ih, jk, ← Int.add_emod]
theorem jnK_bd {p : Int} (hp : 0 < p) {L : List PtT} {i : Nat} (h0 : 0 ≤ (ptG L i).2 ∧ (ptG L i).2 < p) : ∀ j, 0 ≤ jnK p L i j ∧ jnK p L i j < p
  | 0 => h0
  | j + 1 => by
    by_cases e : j = i
    · have hk : jnK p L i (j + 1) = jnK p L i j := if_pos e
      rw [hk]; exact jnK_bd hp h0 j
    · have hk : jnK p L i (j + 1) = jnK p L i j * (ptG L j).1 % p * invR (((ptG L j).1 - (ptG L i).1) % p) p % p := if_neg e
      rw [hk]; exact ⟨Int.emod_nonneg _ (by omega), Int.emod_lt_of_pos _ hp⟩
theorem jnS_bd {p : Int} (hp : 0 < p) {L : List PtT} : ∀ k, 0 ≤ jnS p L k ∧ jnS p L k < p
  | 0 => ⟨Int.le_refl _, hp⟩
  | _ + 1 => ⟨Int.emod_nonneg _ (by omega), Int.emod_lt_of_pos _ hp⟩
theorem join_eq {p : Int} (p1 : 2 ≤ p) (p2 : p ≤ 251) (hp : primeB p = true) {L : List PtT} (hL : PtsOk p L) : hornV p (nst p L L.length).1 0 = jnS p L L.length := by
  rw [thr_eq p1 p2 hp hL, horn_at (Int.le_refl _) (by omega), ← jnS_eval p1 p2 hp hL L.length (Nat.le_refl _)]
  exact Int.emod_eq_of_lt (jnS_bd (by omega) _).1 (jnS_bd (by omega) _).2
/-- has a point the X 0? -/
def zeroX (L : List PtT) : Bool := L.any fun r => decide (r.1 = 0)
noncomputable def joinE (p : Int) (L : List PtT) : Int := if ¬ ptsE p L = 0 then ptsE p L else if zeroX L = true then 3 else 0
theorem join_p {p : Int} {L : List PtT} (h : ¬ ptsE p L = 0) : joinE p L = ptsE p L := if_pos h
theorem join_z {p : Int} {L : List PtT} (h : ptsE p L = 0) (h1 : zeroX L = true) : joinE p L = 3 := by unfold joinE; rw [if_neg (by simp [h]), if_pos h1]
theorem join_ok {p : Int} {L : List PtT} (h : ptsE p L = 0) (h1 : zeroX L = false) : joinE p L = 0 := by unfold joinE; rw [if_neg (by simp [h]), if_neg (by simp [h1])]
theorem join_0 {p : Int} {L : List PtT} (h : joinE p L = 0) : ptsE p L = 0 ∧ zeroX L = false := by
  by_cases h1 : ptsE p L = 0
  · cases h2 : zeroX L with
    | false => exact ⟨h1, rfl⟩
    | true => rw [join_z h1 h2] at h; cases h
  · rw [join_p h1] at h; exact absurd h h1
end Lw
namespace Lw
open Go Go.RowKit
theorem polyE_nil (p : Int) : polyE p [] = pprE p := by
  by_cases h : pprE p = 0
  · rw [poly_in h (by decide), h]; rfl
  · rw [poly_p h]
/-- the reference's rounds: power and sum -/
def powS (p x : Int) : Nat → Int
  | 0 => 1
  | k + 1 => powS p x k * x % p
def splS (p sec : Int) (more : List Int) (x : Int) : Nat → Int
  | 0 => sec
  | k + 1 => (splS p sec more x k + more.getD k 0 * powS p x (k + 1)) % p
theorem powS_eq {p x : Int} (hp : 2 ≤ p) : ∀ k, powS p x k = x ^ k % p
  | 0 => by show (1 : Int) = x ^ 0 % p; rw [Int.pow_zero, Int.emod_eq_of_lt (by omega) (by omega)]
  | k + 1 => by
    show powS p x k * x % p = x ^ (k + 1) % p
    rw [powS_eq hp k, Int.pow_succ, Int.mul_emod, Int.emod_emod_of_dvd _ (Int.dvd_refl p), ← Int.mul_emod]
theorem splS_sum {p sec x : Int} {more : List Int} (hp : 2 ≤ p) (s0 : 0 ≤ sec) (s1 : sec < p) : ∀ k, splS p sec more x k = sumI (sec :: more) x (k + 1) % p
  | 0 => by
    show sec = (0 + sec * x ^ 0) % p
    rw [Int.pow_zero, Int.mul_one, Int.zero_add, Int.emod_eq_of_lt s0 s1]
  | k + 1 => by
    show (splS p sec more x k + more.getD k 0 * powS p x (k + 1)) % p = (sumI (sec :: more) x (k + 1) + (sec :: more).getD (k + 1) 0 * x ^ (k + 1)) % p
    rw [splS_sum hp s0 s1 k, powS_eq hp, List.getD_cons_succ, Int.add_emod, Int.emod_emod_of_dvd _ (Int.dvd_refl p), Int.mul_emod, Int.emod_emod_of_dvd _ (Int.dvd_refl p), ← Int.mul_emod, ← Int.add_emod]
theorem spl_horn {p sec x : Int} {more : List Int} (hp : 2 ≤ p) (s0 : 0 ≤ sec) (s1 : sec < p) (x0 : 0 ≤ x) (x1 : x < p) : splS p sec more x more.length = hornV p (sec :: more) x := by
  have h := horn_eval p x (sec :: more)
  rw [Int.emod_eq_of_lt x0 x1] at h
  rw [splS_sum hp s0 s1, h, ← sumI_all]; rfl
theorem powS_bd {p x : Int} (hp : 2 ≤ p) (k : Nat) : 0 ≤ powS p x k ∧ powS p x k < p := by
  rw [powS_eq hp]; exact ⟨Int.emod_nonneg _ (by omega), Int.emod_lt_of_pos _ (by omega)⟩
theorem splS_bd {p sec x : Int} {more : List Int} (hp : 2 ≤ p) (s0 : 0 ≤ sec) (s1 : sec < p) (k : Nat) : 0 ≤ splS p sec more x k ∧ splS p sec more x k < p := by
  rw [splS_sum hp s0 s1]; exact ⟨Int.emod_nonneg _ (by omega), Int.emod_lt_of_pos _ (by omega)⟩
theorem horn_bd {p x : Int} (hp : 2 ≤ p) (zs : List Int) : 0 ≤ hornV p zs x ∧ hornV p zs x < p := by
  cases zs with
  | nil => exact ⟨Int.le_refl _, by show (0 : Int) < p; omega⟩
  | cons z zs => exact ⟨Int.emod_nonneg _ (by omega), Int.emod_lt_of_pos _ (by omega)⟩
/-- the shares -/
def ptsL (p : Int) (a : List Int) (n : Nat) : List (Int × Int) := (List.range n).map fun (i : Nat) => (((i : Nat) : Int) + 1, hornV p a (((i : Nat) : Int) + 1))
theorem pts_succ (p : Int) (a : List Int) (n : Nat) : ptsL p a (n + 1) = ptsL p a n ++ [((n : Int) + 1, hornV p a ((n : Int) + 1))] := by unfold ptsL; rw [List.range_succ, List.map_append, List.map_singleton]
theorem ptsL_len (p : Int) (a : List Int) (n : Nat) : (ptsL p a n).length = n := by simp [ptsL]
theorem pairs_one (x y : Int) : ∀ u ∈ [Value.int .i64 x, Value.int .i64 y], u.oneCell' = true := by intro u hu; simp at hu; rcases hu with rfl | rfl <;> rfl
def PtsR (p : Int) (a : List Int) (n : Nat) (w : World) (e : Ending) (w' : World) : Prop := ∃ C g, e = .returned (.tuple #[.slice C n g, .int .i64 0]) ∧ Rd w' 2 C n (pairsV .i64 .i64 (ptsL p a n)) ∧ Below w.heap.size w w'
def PtsF (p : Int) (a : List Int) (n : Nat) (w : World) (e : Ending) (w' : World) : Prop := ∃ C g, e = .returned (.slice C n g) ∧ Rd w' 2 C n (pairsV .i64 .i64 (ptsL p a n)) ∧ Below w.heap.size w w'
end Lw
set_option linter.unusedVariables false
set_option linter.unusedSimpArgs false
namespace Go.Proofs.Ytfocpbknckmmaaa
open Go.RowKit
theorem elPnt : Lw.El Try.prog 54 57 (.agg #[.int .i64 0, .int .i64 0]) 2 16 := Lw.El.mk' Try.underlying54 (by kernel_rfl) rfl (by decide) (by decide)
set_option maxHeartbeats 1000000 in
theorem longs_grow (n : Nat) (w : World) (hn : n ≤ 16777216) :
    Calls Try.prog 76 #[.slice none 0 0, .int .i64 (n : Int)] w fun e w' => ∃ v, e = .returned v ∧ w'.ownsRow w.heap.size 2 1 v 0 [] ∧ Below w.heap.size w w' := by
  by_cases h0 : 0 < n
  · go_enter Try.func76, Try.ntmps76
    go_wp2_with (at_builtin; refine Lw.wpList_made elPly Try.underlying3 rfl _ _ rfl rfl rfl h0 hn ?_; intro c cs hc1 hc2 hc3)
    go_ret
    refine ⟨_, rfl, ⟨by simp, .inr ⟨w.heap.size, c, cs, rfl, Nat.le_refl _, heap_alloc_new _ _, Nat.zero_le _, hc2, by omega, by simp⟩⟩, Lw.balloc (Below.drew (Below.refl _ _)) _⟩
  · have hn0 : n = 0 := by omega
    subst hn0
    go_enter Try.func76, Try.ntmps76
    go_wp2
    go_ret
    exact ⟨_, rfl, World.ownsRow_nil _ _ _ _, Below.refl _ _⟩
set_option maxHeartbeats 2000000 in
theorem longs_cat (A A1 A2 : Option Addr) (c c1 c2 n1 n2 : Nat) (xs ys : List Value) (w : World) (R : Lw.Rd w 1 A 2 [.slice A1 n1 c1, .slice A2 n2 c2]) (R1 : Lw.Rd w 1 A1 n1 xs) (R2 : Lw.Rd w 1 A2 n2 ys) (o1 : ∀ u ∈ xs, u.oneCell' = true) (o2 : ∀ u ∈ ys, u.oneCell' = true) (hn : n1 + n2 ≤ 16777216) :
    Calls Try.prog 63 #[.slice A 2 c] w (Lw.OwnRes 2 1 (xs ++ ys) (n1 + n2) w) := by
  obtain ⟨ad, rfl, had, q0⟩ := R.at1 (k := 0) (by decide) rfl
  obtain ⟨ad', e', _, q1⟩ := R.at1 (k := 1) (by decide) rfl
  obtain rfl : ad = ad' := by injection e'
  rw [Lw.add_zero'] at q0
  rw [show ad.add 1 = ⟨ad.block, ad.off + 1, none⟩ from Lw.add_succ' ad 0] at q1
  clear R e'
  go_enter Try.func63, Try.ntmps63
  go_wp2
  go_loop [3, 5, 11] (fun s l i => ∃ k : Nat, i = .int .i64 (k : Int) ∧ k ≤ 2 ∧ ∃ m : Nat, s = .int .i64 (m : Int) ∧ ((k = 0 ∧ m = 0) ∨ (k = 1 ∧ n1 = m) ∨ (k = 2 ∧ n1 + n2 = m))) (fun _ _ i => 2 - (intOf i).toNat)
  case atStart => exact ⟨0, rfl, by omega, 0, rfl, .inl ⟨rfl, rfl⟩⟩
  case round =>
    obtain ⟨k, rfl, k1, m, rfl, h⟩ := hrel
    rcases h with ⟨rfl, rfl⟩ | ⟨rfl, rfl⟩ | ⟨rfl, rfl⟩
    · go_wp2
      go_round
      case rel => exact ⟨1, rfl, by omega, n1, by simp, .inr (.inl ⟨rfl, rfl⟩)⟩
      case measure => simp [intOf]
    · go_wp2
      go_round
      case rel => exact ⟨2, rfl, by omega, n1 + n2, by go_num, .inr (.inr ⟨rfl, rfl⟩)⟩
      case measure => simp [intOf]
    · go_wp2_with (go_at_call 76; refine (longs_grow (n1 + n2) _ hn).mono ?_; rintro e w1 ⟨v, rfl, own1, hb⟩)
      go_loopw [6, 8, 27] (fun l x i wr => ∃ k : Nat, i = .int .i64 (k : Int) ∧ k ≤ 2 ∧ ∃ m zs, ((k = 0 ∧ m = 0 ∧ zs = []) ∨ (k = 1 ∧ n1 = m ∧ xs = zs) ∨ (k = 2 ∧ n1 + n2 = m ∧ xs ++ ys = zs)) ∧ wr.ownsRow w.heap.size 2 1 l m zs ∧ Below w.heap.size w wr) (fun _ _ i _ => 2 - (intOf i).toNat)
      case atStart => exact ⟨0, rfl, by omega, 0, [], .inl ⟨rfl, rfl, rfl⟩, own1, hb⟩
      case round =>
        clear own1 hb
        obtain ⟨k, rfl, k1, m, zs, h, own, hB⟩ := hrel
        have hsz := hB.size
        have p0 := (hB.cell (p := ad) had).trans q0
        have p1 := (hB.cell (p := ⟨ad.block, ad.off + 1, none⟩) had).trans q1
        rcases h with ⟨rfl, rfl, rfl⟩ | ⟨rfl, rfl, rfl⟩ | ⟨rfl, rfl, rfl⟩
        · have OWN := Lib.hid own
          clear own
          go_wp2_with (at_builtin; refine Lw.wpList_app elPly rfl _ _ rfl rfl OWN.out rfl (R1.below (Nat.le_refl _) hB) o1 (by omega) hB (Nat.le_refl _) hsz ?_; intro v1 w2 own1 hb1 _ _)
          have O1 := Lib.hid own1
          clear own1
          go_wp2
          go_roundw
          case rel => exact ⟨1, rfl, by omega, n1, xs, .inr (.inl ⟨rfl, rfl, rfl⟩), by simpa using O1.out, hb1⟩
          case measure => simp [intOf]
        · have OWN := Lib.hid own
          clear own
          go_wp2_with (at_builtin; refine Lw.wpList_app elPly rfl _ _ rfl rfl OWN.out rfl (R2.below (Nat.le_refl _) hB) o2 (by omega) hB (Nat.le_refl _) hsz ?_; intro v1 w2 own1 hb1 _ _)
          have O1 := Lib.hid own1
          clear own1
          go_wp2
          go_roundw
          case rel => exact ⟨2, rfl, by omega, n1 + n2, xs ++ ys, .inr (.inr ⟨rfl, rfl, rfl⟩), O1.out, hb1⟩
          case measure => simp [intOf]
        · have OWN := Lib.hid own
          clear own
          go_wp2
          go_ret
          obtain ⟨B, c', rfl, _⟩ := Lw.ownsForm OWN.out
          exact ⟨B, c', rfl, OWN.out, hB⟩

set_option maxHeartbeats 1000000 in
theorem spl_idx (A : Option Addr) (n c b : Nat) (p : Int) (zs : List Int) (w : World) (R : Lw.Rd w 1 A n (Lw.intsV .i64 zs)) (hn : n ≤ 9223372036854775807) (hb : w.cell? ⟨b, 0, none⟩ = some (.int .i64 p)) :
    Calls Try.prog 62 #[.slice A n c, .func (.func 64) #[] #[.pointer (some ⟨b, 0, none⟩)]] w (Lw.IdxT (Lw.outR p zs) w) := by
  have R := Lib.hid R
  have l1 : zs.length = n := by have := R.out.1; simpa [Lw.intsV] using this
  have L := Lib.hid l1
  clear l1
  go_enter Try.func62, Try.ntmps62
  go_wp2
  go_loop [5, 8] (fun x i => ∃ k : Nat, i = .int .i64 (k : Int) ∧ k ≤ n ∧ Hid (Lw.outR p (zs.take k) = false)) (fun _ i => n - (intOf i).toNat)
  case atStart => exact ⟨0, rfl, by omega, rfl⟩
  case round =>
    obtain ⟨k, rfl, k1, T⟩ := hrel
    by_cases hlt : k < n
    · have hl : k < zs.length := by rw [L.out]; exact hlt
      obtain ⟨ad, rfl, had, hcell⟩ := R.out.at1 hlt (Lw.intsV_get hl)
      have N := Lib.hid (Lw.any_take (p := fun x => decide (x < 0) || decide (p ≤ x)) hl T.out)
      have D := Lib.hid (Lw.any_at (p := fun x : Int => decide (x < 0) || decide (p ≤ x)) hl)
      obtain ⟨x, hx⟩ : ∃ x, zs[k] = x := ⟨_, rfl⟩
      rw [hx] at hcell N D
      clear hx
      rcases (show x < 0 ∨ (0 ≤ x ∧ p ≤ x) ∨ (0 ≤ x ∧ x < p) by omega) with h0 | ⟨h0, h1⟩ | ⟨h0, h1⟩
      · have D1 : Hid (Lw.outR p zs = true) := D.out (by simp [h0])
        clear N D
        go_wp2
        go_ret
        exact ⟨_, rfl, rfl, .inr ⟨D1.out, by omega⟩⟩
      · have D1 : Hid (Lw.outR p zs = true) := D.out (by simp [h1])
        clear N D
        go_wp2
        go_ret
        exact ⟨_, rfl, rfl, .inr ⟨D1.out, by omega⟩⟩
      · have N1 : Hid (Lw.outR p (zs.take (k + 1)) = false) := N.out (by simp; omega)
        clear N D
        go_wp2
        go_round
        case rel => exact ⟨k + 1, by go_num, by omega, N1⟩
        case measure => simp [intOf]; omega
    · have hk : zs.take k = zs := List.take_of_length_le (by rw [L.out]; omega)
      have E : Hid (Lw.outR p zs = false) := by have := T.out; rwa [hk] at this
      clear hk
      go_wp2
      go_ret
      exact ⟨_, rfl, rfl, .inl ⟨E.out, rfl⟩⟩
theorem spl_con (A : Option Addr) (n c b : Nat) (p : Int) (zs : List Int) (w : World) (R : Lw.Rd w 1 A n (Lw.intsV .i64 zs)) (hn : n ≤ 9223372036854775807) (hb : w.cell? ⟨b, 0, none⟩ = some (.int .i64 p)) :
    Calls Try.prog 39 #[.slice A n c, .func (.func 64) #[] #[.pointer (some ⟨b, 0, none⟩)]] w fun e w' => e = .returned (.bool (Lw.outR p zs)) ∧ w = w' := by
  have X := Lib.hid (spl_idx A n c b p zs w R hn hb)
  clear R hb
  go_enter Try.func39, Try.ntmps39
  go_wp2_with (go_at_call 62; (with_reducible refine (X.out).mono ?_); rintro e w1 ⟨r, rfl, rfl, hr⟩)
  go_ret
  exact ⟨Lw.ret_bool (Lw.IdxT.ge hr), rfl⟩

theorem share_Split_ppr (p sec n : Int) (A : Option Addr) (m c : Nat) (w : World) (h : ¬ Lw.pprE p = 0) :
    Calls Try.prog 41 #[.int .i64 p, .int .i64 sec, .slice A m c, .int .i64 n] w fun e w' => e = .returned (.tuple #[.slice none 0 0, .int .i64 (Lw.pprE p)]) ∧ Below w.heap.size w w' := by
  have X := fun w => poly_Check p none 0 0 [] w (Lw.Rd.nil _ _ _)
  rw [Lw.polyE_nil] at X
  replace X := Lib.hid X
  have z : (Lw.pprE p != 0) = true := by simpa using h
  have z' : (Lw.pprE p == 0) = false := by simpa using h
  generalize Lw.pprE p = E at *
  clear h
  go_enter Try.func41, Try.ntmps41
  go_wp2_with (go_at_call 37; (with_reducible refine (X.out _).mono ?_); rintro e w1 ⟨rfl, hb1⟩)
  go_ret2
  exact ⟨rfl, Lw.bt (Lw.balloc (Below.refl _ _) _) hb1⟩
theorem share_Split_long (p sec n : Int) (A : Option Addr) (m c : Nat) (w : World) (h : Lw.pprE p = 0) (hm : 12 < m) :
    Calls Try.prog 41 #[.int .i64 p, .int .i64 sec, .slice A m c, .int .i64 n] w fun e w' => e = .returned (.tuple #[.slice none 0 0, .int .i64 1]) ∧ Below w.heap.size w w' := by
  have X := fun w => poly_Check p none 0 0 [] w (Lw.Rd.nil _ _ _)
  rw [Lw.polyE_nil, h] at X
  replace X := Lib.hid X
  have hm' : (12 : Int) < (m : Int) := by omega
  clear h
  go_enter Try.func41, Try.ntmps41
  go_wp2_with (go_at_call 37; (with_reducible refine (X.out _).mono ?_); rintro e w1 ⟨rfl, hb1⟩)
  go_ret2
  exact ⟨rfl, Lw.bt (Lw.balloc (Below.refl _ _) _) hb1⟩
set_option maxRecDepth 100000 in
set_option maxHeartbeats 4000000 in
theorem share_Split_range (p sec n : Int) (A : Option Addr) (m c : Nat) (more : List Int) (w : World) (RA : Lw.Rd w 1 A m (Lw.intsV .i64 more)) (h : Lw.pprE p = 0) (hm : m ≤ 12) (h2 : Lw.outR p (sec :: more) = true ∨ n < 0 ∨ p ≤ n) :
    Calls Try.prog 41 #[.int .i64 p, .int .i64 sec, .slice A m c, .int .i64 n] w fun e w' => e = .returned (.tuple #[.slice none 0 0, .int .i64 2]) ∧ Below w.heap.size w w' := by
  have X := fun w => poly_Check p none 0 0 [] w (Lw.Rd.nil _ _ _)
  rw [Lw.polyE_nil, h] at X
  replace X := Lib.hid X
  have hm' : ¬ (12 : Int) < (m : Int) := by omega
  obtain ⟨W, hW⟩ : ∃ W, w.alloc (.cells #[.int .i64 p] 2) = W := ⟨_, rfl⟩
  have B0 := Lib.hid (show W.heap[w.heap.size]? = some (.cells #[.int .i64 p] 2 (0, 0)) from hW ▸ Lw.blk_new _ _ _)
  have hBW : Below w.heap.size w W := by rw [← hW]; exact Lw.balloc (Below.refl _ _) _
  have hWs : w.heap.size < W.heap.size := by rw [← hW]; simp
  have l0 := Lw.blk_cell B0.out 0
  simp at l0
  have RW := Lib.hid (RA.below (Nat.le_refl _) hBW)
  have HW := Lib.hid hW
  clear h hW RA
  go_enter Try.func41, Try.ntmps41
  go_wp2_with fail
  rw [HW.out]
  go_wp2_with (go_at_call 37; (with_reducible refine (X.out _).mono ?_); rintro e w1 ⟨rfl, hb1⟩)
  refine (longs_cat _ _ A _ _ c 1 m _ _ _ (by exact (by first | exact Lw.Rd.nil _ _ _ | exact Lw.Rd.lit (Lw.blk_new' (by simp) _ _) rfl rfl | exact Lw.Rd.lit (Lw.blk_alloc (Lw.blk_new' (by simp) _ _) _) rfl rfl)) (by exact Lw.Rd.lit (Lw.blk_alloc (Lw.blk_new' (by simp) _ _) _) rfl rfl) (((RW.out.below (Nat.le_refl _) hb1).alloc _).alloc _) (Lw.one1 .i64 sec) (Lw.intsV_one _ _) (by omega)).mono ?_
  rintro e w2 ⟨C, g, rfl, own2, hb2⟩
  have hB2 : Below W.heap.size W w2 := Lw.bt (Lw.balloc (Lw.balloc hb1 _) _) hb2
  have R2 : Lw.Rd w2 1 C (1 + m) (Lw.intsV .i64 (sec :: more)) := Lw.Rd.of_own own2
  have n0 : w2.cell? ⟨w.heap.size, 0, none⟩ = some (.int .i64 p) := (hB2.cell hWs).trans l0
  have CN := Lib.hid (spl_con C (1 + m) g w.heap.size p (sec :: more) w2 R2 (by omega) n0)
  clear own2 R2
  rcases (show Lw.outR p (sec :: more) = true ∨ (Lw.outR p (sec :: more) = false ∧ n < 0) ∨ (Lw.outR p (sec :: more) = false ∧ ¬ n < 0 ∧ p ≤ n) by
    cases ho : Lw.outR p (sec :: more) with
    | true => exact .inl rfl
    | false => rw [ho] at h2; rcases h2 with h | h | h; exact absurd h (by decide); exact .inr (.inl ⟨rfl, h⟩); (by_cases h3 : n < 0; exact .inr (.inl ⟨rfl, h3⟩); exact .inr (.inr ⟨rfl, h3, h⟩))) with h3 | ⟨h3, h4⟩ | ⟨h3, h4, h5⟩
  all_goals
    rw [h3] at CN
    clear h2 h3
    go_wp2_with (go_at_call 39; (with_reducible refine (CN.out).mono ?_); rintro e w3 ⟨rfl, rfl⟩)
    go_ret2
    exact ⟨rfl, hBW.trans (hB2.mono hBW.size)⟩
set_option maxRecDepth 100000 in
set_option maxHeartbeats 4000000 in
theorem share_Split_ok (p sec : Int) (n : Nat) (A : Option Addr) (m c : Nat) (more : List Int) (w : World) (RA : Lw.Rd w 1 A m (Lw.intsV .i64 more)) (h : Lw.pprE p = 0) (hm : m ≤ 12) (h2 : Lw.outR p (sec :: more) = false) (hn : (n : Int) < p) :
    Calls Try.prog 41 #[.int .i64 p, .int .i64 sec, .slice A m c, .int .i64 (n : Int)] w (Lw.PtsR p (sec :: more) n w) := by
  obtain ⟨p1, p2, pp⟩ := Lw.ppr_ok h
  have X := fun w => poly_Check p none 0 0 [] w (Lw.Rd.nil _ _ _)
  rw [Lw.polyE_nil, h] at X
  replace X := Lib.hid X
  have hm' : ¬ (12 : Int) < (m : Int) := by omega
  obtain ⟨W, hW⟩ : ∃ W, w.alloc (.cells #[.int .i64 p] 2) = W := ⟨_, rfl⟩
  have B0 := Lib.hid (show W.heap[w.heap.size]? = some (.cells #[.int .i64 p] 2 (0, 0)) from hW ▸ Lw.blk_new _ _ _)
  have hBW : Below w.heap.size w W := by rw [← hW]; exact Lw.balloc (Below.refl _ _) _
  have hWs : w.heap.size < W.heap.size := by rw [← hW]; simp
  have l0 := Lw.blk_cell B0.out 0
  simp at l0
  have RW := Lib.hid (RA.below (Nat.le_refl _) hBW)
  have HW := Lib.hid hW
  have ZB := Lib.hid (Lw.outR_in h2)
  have PS := Lib.hid (Lw.pts_succ p (sec :: more))
  have HB := Lib.hid (fun x => Lw.horn_bd (p := p) (x := x) p1 (sec :: more))
  have nn : ¬ (n : Int) < 0 := by omega
  have np : ¬ p ≤ (n : Int) := by omega
  clear h hW RA pp
  go_enter Try.func41, Try.ntmps41
  go_wp2_with fail
  rw [HW.out]
  go_wp2_with (go_at_call 37; (with_reducible refine (X.out _).mono ?_); rintro e w1 ⟨rfl, hb1⟩)
  refine (longs_cat _ _ A _ _ c 1 m _ _ _ (by exact (by first | exact Lw.Rd.nil _ _ _ | exact Lw.Rd.lit (Lw.blk_new' (by simp) _ _) rfl rfl | exact Lw.Rd.lit (Lw.blk_alloc (Lw.blk_new' (by simp) _ _) _) rfl rfl)) (by exact Lw.Rd.lit (Lw.blk_alloc (Lw.blk_new' (by simp) _ _) _) rfl rfl) (((RW.out.below (Nat.le_refl _) hb1).alloc _).alloc _) (Lw.one1 .i64 sec) (Lw.intsV_one _ _) (by omega)).mono ?_
  rintro e w2 ⟨C, g, rfl, own2, hb2⟩
  have hB2 : Below W.heap.size W w2 := Lw.bt (Lw.balloc (Lw.balloc hb1 _) _) hb2
  have R2 : Lw.Rd w2 1 C (1 + m) (Lw.intsV .i64 (sec :: more)) := Lw.Rd.of_own own2
  have n0 : w2.cell? ⟨w.heap.size, 0, none⟩ = some (.int .i64 p) := (hB2.cell hWs).trans l0
  have CN := Lib.hid (spl_con C (1 + m) g w.heap.size p (sec :: more) w2 R2 (by omega) n0)
  rw [h2] at CN
  have VL := Lib.hid (fun W' (hb : Below w2.heap.size w2 W') x (x1 : 0 ≤ x) (x2 : x < p) => poly_Value p C (1 + m) g (sec :: more) x W' (R2.below (Nat.le_refl w2.heap.size) hb) ZB.out p1 p2 (by omega) x1 x2)
  have z2 := hB2.size
  clear own2 R2 h2
  go_wp2_with (go_at_call 39; (with_reducible refine (CN.out).mono ?_); rintro e w3 ⟨rfl, rfl⟩)
  go_loopw [12, 13] (fun l x wr => ∃ k : Nat, x = .int .i64 ((k : Int) + 1) ∧ k ≤ n ∧ wr.ownsRow w2.heap.size 57 2 l k (Lw.pairsV .i64 .i64 (Lw.ptsL p (sec :: more) k)) ∧ Below w2.heap.size w2 wr) (fun _ x _ => n + 1 - (intOf x).toNat)
  case atStart => exact ⟨0, rfl, by omega, World.ownsRow_nil _ _ _ _, Below.refl _ _⟩
  case round =>
    obtain ⟨k, rfl, hk, own, hB⟩ := hrel
    by_cases hlt : k < n
    · have hlt' : (k : Int) + 1 ≤ (n : Int) := by omega
      have VK := Lib.hid (VL.out wr hB ((k : Int) + 1) (by omega) (by omega))
      have PK := PS.out k
      have hk1 := HB.out ((k : Int) + 1)
      have m0 : wr.cell? ⟨w.heap.size, 0, none⟩ = some (.int .i64 p) := (hB.cell (show w.heap.size < w2.heap.size by omega)).trans n0
      obtain ⟨y, hy⟩ : ∃ z, Lw.hornV p (sec :: more) ((k : Int) + 1) = z := ⟨_, rfl⟩
      rw [hy] at VK PK hk1
      have PK := Lib.hid PK
      have OWN := Lib.hid own
      clear own hy
      have kk : k ≤ 251 := by omega
      go_wp2_with fail
      refine VK.out.mono ?_
      rintro e w4 ⟨rfl, hb4⟩
      have hB4 := Lw.bt hB hb4
      have hsz4 := hB4.size
      have O4 := Lib.hid (Lw.ownsBelow OWN.out (Nat.le_refl _) hb4)
      go_wp2_with (at_builtin; go_loud (refine Lw.wpList_app elPnt rfl _ _ rfl rfl (O4.out.alloc _) rfl (by first | exact Lw.Rd.nil _ _ _ | exact Lw.Rd.lit (Lw.blk_new' (by simp) _ _) rfl rfl | exact Lw.Rd.lit (Lw.blk_alloc (Lw.blk_new' (by simp) _ _) _) rfl rfl) (Lw.pairs_one _ _) (by omega) (Lw.balloc hB4 _) (Nat.le_refl _) (by simp; omega) ?_); intro v2 w5 own5 hb5 _ _)
      have O5 := Lib.hid own5
      clear own5
      go_wp2
      go_roundw
      case rel => exact ⟨k + 1, by go_num, by omega, by rw [PK.out, Lw.pairsV_append]; exact O5.out, hb5⟩
      case measure => simp [intOf]; omega
    · have hkn : k = n := by omega
      subst hkn
      have hnl : ¬ (k : Int) + 1 ≤ (k : Int) := by omega
      obtain ⟨D, e, rfl, hg, _⟩ := Lw.ownsForm own
      have RR := Lib.hid (Lw.Rd.of_own own)
      clear own
      go_wp2
      go_ret2
      exact ⟨D, e, rfl, RR.out, hBW.trans ((Lw.bt hB2 hB).mono hBW.size)⟩
end Go.Proofs.Ytfocpbknckmmaaa
namespace Lw
open Go Go.RowKit
def PtsO (e2 : TypeId) (p : Int) (a : List Int) (n : Nat) (w : World) (e : Ending) (w' : World) : Prop := ∃ C g, e = .returned (.slice C n g) ∧ w'.ownsRow w.heap.size e2 2 (.slice C n g) n (pairsV .i64 .i64 (ptsL p a n)) ∧ Below w.heap.size w w'
end Lw
set_option linter.unusedVariables false
set_option linter.unusedSimpArgs false
namespace Go.Proofs.Ytfocpbknckmmaaa
open Go.RowKit
set_option maxRecDepth 100000 in
set_option maxHeartbeats 4000000 in
theorem ref_SplitO (p sec : Int) (n : Nat) (A : Option Addr) (m c : Nat) (more : List Int) (w : World) (RA : Lw.Rd w 1 A m (Lw.intsV .i64 more)) (p1 : 2 ≤ p) (p2 : p ≤ 251) (hm : m ≤ 12) (s0 : 0 ≤ sec) (s1 : sec < p) (hb : ∀ x ∈ more, 0 ≤ x ∧ x < p) (hn : (n : Int) < p) :
    Calls Try.prog 26 #[.int .i64 p, .int .i64 sec, .slice A m c, .int .i64 (n : Int)] w (Lw.PtsO 57 p (sec :: more) n w) := by
  have lm : more.length = m := by have := RA.1; simpa [Lw.intsV] using this
  have PS := Lib.hid (Lw.pts_succ p (sec :: more))
  have SH := Lib.hid (fun x (x0 : 0 ≤ x) (x1 : x < p) => Lw.spl_horn (p := p) (sec := sec) (x := x) (more := more) p1 s0 s1 x0 x1)
  rw [lm] at SH
  have PB := Lib.hid (fun x k => Lw.powS_bd (p := p) (x := x) p1 k)
  have SB := Lib.hid (fun x k => Lw.splS_bd (p := p) (sec := sec) (x := x) (more := more) p1 s0 s1 k)
  have PN : Hid (∀ x k, Lw.powS p x (k + 1) = Lw.powS p x k * x % p) := fun _ _ => rfl
  have SN : Hid (∀ x k, Lw.splS p sec more x (k + 1) = (Lw.splS p sec more x k + more.getD k 0 * Lw.powS p x (k + 1)) % p) := fun _ _ => rfl
  have S0 : Hid (∀ x, Lw.splS p sec more x 0 = sec) := fun _ => rfl
  have P0 : Hid (∀ x, Lw.powS p x 0 = 1) := fun _ => rfl
  have HBM := Lib.hid hb
  have LM := Lib.hid lm
  have RA := Lib.hid RA
  have p0 : ¬ p = 0 := by omega
  clear lm hb
  go_enter Try.func26, Try.ntmps26
  go_wp2_with fail
  go_loopw [9, 10, 11, 12, 14] (fun l x y pw cc wr => ∃ k : Nat, x = .int .i64 ((k : Int) + 1) ∧ k ≤ n ∧ wr.ownsRow w.heap.size 57 2 l k (Lw.pairsV .i64 .i64 (Lw.ptsL p (sec :: more) k)) ∧ Below w.heap.size w wr) (fun _ x _ _ _ _ => n + 1 - (intOf x).toNat)
  case atStart => exact ⟨0, rfl, by omega, World.ownsRow_nil _ _ _ _, Below.refl _ _⟩
  case round =>
    obtain ⟨k, rfl, hk, own, hB⟩ := hrel
    have hszr := hB.size
    by_cases hlt : k < n
    · have hlt' : (k : Int) + 1 ≤ (n : Int) := by omega
      have PK := PS.out k
      have SHK := SH.out ((k : Int) + 1) (by omega) (by omega)
      obtain ⟨x, hx⟩ : ∃ z : Int, (k : Int) + 1 = z := ⟨_, rfl⟩
      have x0 : 0 ≤ x := by omega
      have x1 : x < p := by omega
      rw [hx] at PK SHK hlt'
      rw [hx]
      obtain ⟨y, hy⟩ : ∃ z, Lw.hornV p (sec :: more) x = z := ⟨_, rfl⟩
      rw [hy] at PK SHK
      have HX := Lib.hid hx
      have PK := Lib.hid PK
      have SHK := Lib.hid SHK
      have OWN := Lib.hid own
      have RR := Lib.hid (RA.out.below (Nat.le_refl _) hB)
      have kk : k ≤ 251 := by omega
      clear own hx hy
      go_wp2_with fail
      go_loop [11, 12, 14, 23] (fun y pw cc i => ∃ j : Nat, i = .int .i64 (j : Int) ∧ j ≤ m ∧ y = .int .i64 (Lw.splS p sec more x j) ∧ pw = .int .i64 (Lw.powS p x j)) (fun _ _ _ i => m - (intOf i).toNat)
      case atStart => exact ⟨0, rfl, by omega, by rw [S0.out], by rw [P0.out]⟩
      case round =>
        obtain ⟨j, rfl, hj, rfl, rfl⟩ := hrel
        obtain ⟨q1, q2⟩ := PB.out x j
        obtain ⟨t1, t2⟩ := SB.out x j
        by_cases hjl : j < m
        · have hl : j < more.length := by rw [LM.out]; exact hjl
          obtain ⟨ad, rfl, had, hcell⟩ := RR.out.at1 hjl (Lw.intsV_get hl)
          obtain ⟨c1, c2⟩ := HBM.out _ (List.getElem_mem hl)
          have PNJ := PN.out x j
          have SNJ := SN.out x j
          obtain ⟨u1, u2⟩ := PB.out x (j + 1)
          rw [Lw.getD_at hl] at SNJ
          obtain ⟨cv, hc⟩ : ∃ z, more[j] = z := ⟨_, rfl⟩
          obtain ⟨P, hP⟩ : ∃ z, Lw.powS p x j = z := ⟨_, rfl⟩
          obtain ⟨P', hP'⟩ : ∃ z, Lw.powS p x (j + 1) = z := ⟨_, rfl⟩
          obtain ⟨S, hS⟩ : ∃ z, Lw.splS p sec more x j = z := ⟨_, rfl⟩
          rw [hc] at hcell SNJ c1 c2
          rw [hP] at q1 q2 PNJ
          rw [hP'] at PNJ SNJ u1 u2
          rw [hS] at SNJ t1 t2
          rw [hP, hS]
          obtain ⟨m1, m2⟩ := Lw.mul_ab (κ := P) (x := x) (by omega) (by omega) x0 (by omega)
          have m3 : 0 ≤ P * x := Int.mul_nonneg q1 x0
          obtain ⟨m4, m5⟩ := Lw.mul_ab (κ := cv) (x := P') (by omega) (by omega) u1 (by omega)
          have m6 : 0 ≤ cv * P' := Int.mul_nonneg c1 u1
          have e1 : IntKind.i64.wrap (P * x) = P * x := by rw [IntKind.wrap_i64]; omega
          have e2 : (P * x).tmod p = P' := by rw [Int.tmod_eq_emod_of_nonneg m3, PNJ]
          have e3 : IntKind.i64.wrap (cv * P') = cv * P' := by rw [IntKind.wrap_i64]; omega
          have e4 : IntKind.i64.wrap (S + cv * P') = S + cv * P' := by rw [IntKind.wrap_i64]; omega
          have e5 : (S + cv * P').tmod p = (S + cv * P') % p := Int.tmod_eq_emod_of_nonneg (by omega)
          have SNJ := Lib.hid SNJ
          have HP' := Lib.hid hP'
          have hjl' : (j : Int) < (m : Int) := by omega
          clear hc hP hP' hS PNJ hl had
          go_wp2_with fail
          go_round
          case rel => exact ⟨j + 1, by go_num, by omega, by rw [SNJ.out], by rw [HP'.out]⟩
          case measure => simp [intOf]; omega
        · have hjm : j = m := by omega
          subst hjm
          rw [SHK.out]
          clear q1 q2 t1 t2
          go_wp2_with (at_builtin; refine Lw.wpList_app elPnt rfl _ _ rfl rfl (OWN.out.alloc _) rfl (by first | exact Lw.Rd.nil _ _ _ | exact Lw.Rd.lit (Lw.blk_new' (by simp) _ _) rfl rfl | exact Lw.Rd.lit (Lw.blk_alloc (Lw.blk_new' (by simp) _ _) _) rfl rfl) (Lw.pairs_one _ _) (by omega) (Lw.balloc hB _) (Nat.le_refl _) (by simp; omega) ?_; intro v2 w5 own5 hb5 _ _)
          have O5 := Lib.hid own5
          clear own5
          go_wp2
          go_roundw
          case rel => exact ⟨k + 1, by rw [← HX.out]; go_num, by omega, by rw [PK.out, Lw.pairsV_append]; exact O5.out, hb5⟩
          case measure => simp [intOf]; omega
    · have hkn : k = n := by omega
      subst hkn
      have hnl : ¬ (k : Int) + 1 ≤ (k : Int) := by omega
      obtain ⟨D, e, rfl, hg, _⟩ := Lw.ownsForm own
      have RR := Lib.hid own
      clear own
      go_wp2
      go_ret
      exact ⟨D, e, rfl, RR.out, hB⟩
theorem ref_Split (p sec : Int) (n : Nat) (A : Option Addr) (m c : Nat) (more : List Int) (w : World) (RA : Lw.Rd w 1 A m (Lw.intsV .i64 more)) (p1 : 2 ≤ p) (p2 : p ≤ 251) (hm : m ≤ 12) (s0 : 0 ≤ sec) (s1 : sec < p) (hb : ∀ x ∈ more, 0 ≤ x ∧ x < p) (hn : (n : Int) < p) :
    Calls Try.prog 26 #[.int .i64 p, .int .i64 sec, .slice A m c, .int .i64 (n : Int)] w (Lw.PtsF p (sec :: more) n w) :=
  (ref_SplitO p sec n A m c more w RA p1 p2 hm s0 s1 hb hn).mono fun e w' ⟨C, g, he, ho, hb⟩ => ⟨C, g, he, Lw.Rd.of_own ho, hb⟩
end Go.Proofs.Ytfocpbknckmmaaa
set_option linter.unusedVariables false
set_option linter.unusedSimpArgs false
namespace Go.Proofs.Ytfocpbknckmmaaa
open Go.RowKit
end Go.Proofs.Ytfocpbknckmmaaa
set_option linter.unusedVariables false
set_option linter.unusedSimpArgs false
namespace Go.Proofs.Ytfocpbknckmmaaa
open Go.RowKit
set_option maxRecDepth 100000 in
set_option maxHeartbeats 4000000 in
theorem ref_Join (p : Int) (A : Option Addr) (n c : Nat) (L : List Lw.PtT) (w : World) (R : Lw.Rd w 2 A n (Lw.pairsV .i64 .i64 L)) (p1 : 2 ≤ p) (p2 : p ≤ 251) (pp : Lw.primeB p = true) (h13 : L.length ≤ 13) (hL : Lw.PtsOk p L) :
    Calls Try.prog 27 #[.int .i64 p, .slice A n c] w fun e w' => e = .returned (.int .i64 (Lw.jnS p L L.length)) ∧ Below w.heap.size w w' := by
  have lL := Lw.pairsV_len R
  have BD := Lib.hid (fun k hk => hL.bd (k := k) hk)
  have NE := Lib.hid (fun i j (hi : i < L.length) (hj : j < L.length) (e : j ≠ i) => hL.ne hj hi e)
  have IV := Lib.hid (fun x (x0 : 0 < x) (x1 : x < p) w => ref_inverse x p w pp (by omega) x0 x1)
  have IB := Lib.hid (fun a (h1 : 0 < a) (h2 : a < p) => (Lw.inv_prime (p := p) (b := a) pp (by omega) h1 h2).2)
  have KB := Lib.hid (fun i (hi : i < L.length) j => Lw.jnK_bd (p := p) (by omega) (hL.bd hi).2 j)
  have SB := Lib.hid (fun k => Lw.jnS_bd (p := p) (L := L) (by omega) k)
  have LL := Lib.hid lL
  have n13 : n ≤ 13 := by omega
  have R := Lib.hid R
  have hp0 : ¬ p = 0 := by omega
  clear hL pp lL h13
  go_enter Try.func27, Try.ntmps27
  go_wp2_with fail
  go_loopw [5, 6, 7, 8] (fun sv iv kv jv wr => ∃ (i : Nat), iv = .int .i64 (i : Int) ∧ i ≤ n ∧ sv = .int .i64 (Lw.jnS p L i) ∧ Below w.heap.size w wr) (fun _ iv _ _ _ => n - (intOf iv).toNat)
  case atStart => exact ⟨0, rfl, by omega, rfl, Below.refl _ _⟩
  case round =>
    obtain ⟨i, rfl, hi, rfl, hB⟩ := hrel
    obtain ⟨W0, hW0⟩ : ∃ W0, W0 = wr := ⟨_, rfl⟩
    subst hW0
    by_cases hlt : i < n
    · have hl : i < L.length := by rw [LL.out]; exact hlt
      obtain ⟨g0, g1⟩ := Lw.pairsV_get (k := .i64) (l := .i64) hl
      obtain ⟨ad, rfl, had, d0, d1⟩ := (R.out.below (Nat.le_refl _) hB).at2 hlt g0 g1
      rw [← Lw.ptG_at hl] at d0 d1
      have K0 : Hid (Lw.jnK p L i 0 = (Lw.ptG L i).2) := Lib.hid rfl
      have hlt' : (i : Int) < (n : Int) := by omega
      have NXT : Hid (Lw.jnS p L (i + 1) = (Lw.jnS p L i + Lw.jnK p L i n) % p) := Lib.hid (by rw [← LL.out]; rfl)
      obtain ⟨s0, s1⟩ := SB.out i
      generalize Lw.jnS p L i = s at *
      obtain ⟨⟨x0, x1⟩, y0, y1⟩ := BD.out i hl
      obtain ⟨⟨x, y⟩, hx⟩ : ∃ z, Lw.ptG L i = z := ⟨_, rfl⟩
      rw [hx] at d0 d1 K0 x0 x1
      simp only at d0 d1 K0 x0 x1
      have HX := Lib.hid hx
      clear hx g0 g1 y0 y1 SB
      go_wp2_with fail
      go_loopw [7, 8] (fun kv jv wr => ∃ (j : Nat), jv = .int .i64 (j : Int) ∧ j ≤ n ∧ kv = .int .i64 (Lw.jnK p L i j) ∧ Below W0.heap.size W0 wr) (fun _ jv _ => n - (intOf jv).toNat)
      case atStart => exact ⟨0, rfl, by omega, by rw [K0.out], Below.refl _ _⟩
      case round =>
        obtain ⟨j, rfl, hj, rfl, hZ⟩ := hrel
        by_cases hjl : j < n
        · have hjl' : (j : Int) < (n : Int) := by omega
          have jl : j < L.length := by rw [LL.out]; exact hjl
          by_cases e : j = i
          · have zb : ((j : Int) != (i : Int)) = false := by simp; omega
            have LN : Hid (Lw.jnK p L i (j + 1) = Lw.jnK p L i j) := Lib.hid (if_pos e)
            clear KB NE IV IB BD
            go_wp2_with fail
            go_roundw
            case rel => exact ⟨j + 1, by go_num, by omega, by rw [LN.out], hZ⟩
            case measure => simp [intOf]; omega
          · have zb : ((j : Int) != (i : Int)) = true := by simp; omega
            have LN : Hid (Lw.jnK p L i (j + 1) = Lw.jnK p L i j * (Lw.ptG L j).1 % p * Lw.invR (((Lw.ptG L j).1 - (Lw.ptG L i).1) % p) p % p) := Lib.hid (if_neg e)
            obtain ⟨k0, k1⟩ := KB.out i hl j
            have ne := NE.out i j hl jl e
            have xb := (BD.out j jl).1
            obtain ⟨g0, g1⟩ := Lw.pairsV_get (k := .i64) (l := .i64) jl
            obtain ⟨af, e1, haf, f0, f1⟩ := (R.out.below (Nat.le_refl _) (Lw.bt hB hZ)).at2 hjl g0 g1
            injection e1 with e1
            subst e1
            rw [← Lw.ptG_at jl] at f0
            rw [HX.out] at ne LN
            have d0' : wr.cell? (ad.add (i * 2)) = some (.int .i64 x) := (hZ.cell (p := ad.add (i * 2)) (by rw [Lw.add_block]; exact had)).trans d0
            have bl1 : (ad.add (i * 2)).block < wr.heap.size := by rw [Lw.add_block]; exact haf
            have bl2 : (ad.add (j * 2)).block < wr.heap.size := by rw [Lw.add_block]; exact haf
            generalize Lw.jnK p L i j = κ at *
            obtain ⟨⟨u, v⟩, hu⟩ : ∃ z, Lw.ptG L j = z := ⟨_, rfl⟩
            rw [hu] at f0 ne LN xb
            simp only at f0 ne LN xb
            obtain ⟨u0, u1⟩ := xb
            have a0 := Int.emod_nonneg (u - x) hp0
            have a1 := Int.emod_lt_of_pos (u - x) (by omega : 0 < p)
            have MD := Lib.hid (fun w => ref_Mod (u - x) p w (by omega) (by omega))
            obtain ⟨t, ht⟩ : ∃ t, (u - x) % p = t := ⟨_, rfl⟩
            rw [ht] at a0 a1 MD ne LN
            have IVV := Lib.hid (fun w => IV.out t (by omega) a1 w)
            obtain ⟨v0, v1⟩ := IB.out t (by omega) a1
            have w1' : IntKind.i64.wrap (u - x) = u - x := by rw [IntKind.wrap_i64]; omega
            obtain ⟨m0, m1⟩ := Lw.mul_bd' κ u 251 k0 (by omega) u0 (by omega)
            have e1 : IntKind.i64.wrap (κ * u) = κ * u := by rw [IntKind.wrap_i64]; omega
            have e2 : (κ * u).tmod p = κ * u % p := Int.tmod_eq_emod_of_nonneg m0
            have r0 := Int.emod_nonneg (κ * u) hp0
            have r1 := Int.emod_lt_of_pos (κ * u) (by omega : 0 < p)
            generalize κ * u % p = q at *
            generalize Lw.invR t p = ii at *
            obtain ⟨m2, m3⟩ := Lw.mul_bd' q ii 251 r0 (by omega) v0 (by omega)
            have e3 : IntKind.i64.wrap (q * ii) = q * ii := by rw [IntKind.wrap_i64]; omega
            have e4 : (q * ii).tmod p = q * ii % p := Int.tmod_eq_emod_of_nonneg m2
            clear m0 m1 m2 m3 r0 r1 v0 v1 a0 a1 ht u0 u1 k0 k1 ne g0 g1 f1 hu KB NE IV IB BD
            go_wp2_with fail
            refine wp_region_held_drew (S := Lw.Sm wr) (by kernel_rfl) (Lw.sm_drew wr) (fun hHeld => ?_)
            (refine Lw.take1 (i := 0) (v := ?_) rfl (by kernel_rfl) (by kernel_rfl) (by kernel_rfl) (fun _ _ _ h => h) (Or.inl ⟨by rfl, ?_⟩) (by assumption) ?_; rotate_left 1; (focus (intro wS hSw; obtain ⟨hS1, hS2, hS3, hS4⟩ := hSw; go_simp <;> with_reducible rfl)); (try simp only [Act.put, List.setIfInBounds_toArray, List.set_cons_zero, List.set_cons_succ]))
            (refine Lw.take1 (i := 1) (v := ?_) rfl (by kernel_rfl) (by kernel_rfl) (by kernel_rfl) (fun _ _ _ h => h) (Or.inl ⟨by rfl, ?_⟩) (by assumption) ?_; rotate_left 1; (focus (intro wS hSw; obtain ⟨hS1, hS2, hS3, hS4⟩ := hSw; go_simp <;> with_reducible rfl)); (try simp only [Act.put, List.setIfInBounds_toArray, List.set_cons_zero, List.set_cons_succ]))
            (refine Lw.take1 (i := 2) (v := ?_) rfl (by kernel_rfl) (by kernel_rfl) (by kernel_rfl) (fun _ _ _ h => h) (Or.inl ⟨by rfl, ?_⟩) (by assumption) ?_; rotate_left 1; (focus (intro wS hSw; obtain ⟨hS1, hS2, hS3, hS4⟩ := hSw; go_simp <;> with_reducible rfl)); (try simp only [Act.put, List.setIfInBounds_toArray, List.set_cons_zero, List.set_cons_succ]))
            (refine Lw.take1 (i := 3) (v := ?_) rfl (by kernel_rfl) (by kernel_rfl) (by kernel_rfl) (fun _ _ _ h => h) (Or.inl ⟨by rfl, ?_⟩) (by assumption) ?_; rotate_left 1; (focus (intro wS hSw; obtain ⟨hS1, hS2, hS3, hS4⟩ := hSw; go_simp <;> with_reducible rfl)); (try simp only [Act.put, List.setIfInBounds_toArray, List.set_cons_zero, List.set_cons_succ]))
            (refine Lw.take1 (i := 4) (v := ?_) rfl (by kernel_rfl) (by kernel_rfl) (by kernel_rfl) (fun _ _ _ h => h) (Or.inl ⟨by rfl, ?_⟩) (by assumption) ?_; rotate_left 1; (focus (intro wS hSw; obtain ⟨hS1, hS2, hS3, hS4⟩ := hSw; go_simp <;> with_reducible rfl)); (try simp only [Act.put, List.setIfInBounds_toArray, List.set_cons_zero, List.set_cons_succ]))
            (refine Lw.take1 (i := 5) (v := ?_) rfl (by kernel_rfl) (by kernel_rfl) (by kernel_rfl) (fun _ _ _ h => h) (Or.inl ⟨by rfl, ?_⟩) (by assumption) ?_; rotate_left 1; (focus (intro wS hSw; obtain ⟨hS1, hS2, hS3, hS4⟩ := hSw; go_simp <;> with_reducible rfl)); (try simp only [Act.put, List.setIfInBounds_toArray, List.set_cons_zero, List.set_cons_succ]))
            (refine Lw.take1 (i := 6) (v := ?_) rfl (by kernel_rfl) (by kernel_rfl) (by kernel_rfl) (fun _ _ _ h => h) (Or.inl ⟨by rfl, ?_⟩) (by assumption) ?_; rotate_left 1; (focus (intro wS hSw; obtain ⟨hS1, hS2, hS3, hS4⟩ := hSw; go_simp <;> with_reducible rfl)); (try simp only [Act.put, List.setIfInBounds_toArray, List.set_cons_zero, List.set_cons_succ]))
            (refine Lw.take1 (i := 7) (v := ?_) rfl (by kernel_rfl) (by kernel_rfl) (by kernel_rfl) (fun _ _ _ h => h) (Or.inl ⟨by rfl, ?_⟩) (by assumption) ?_; rotate_left 1; (focus (intro wS hSw; obtain ⟨hS1, hS2, hS3, hS4⟩ := hSw; go_simp <;> with_reducible rfl)); (try simp only [Act.put, List.setIfInBounds_toArray, List.set_cons_zero, List.set_cons_succ]))
            (refine Lw.take1 (i := 8) (v := ?_) rfl (by kernel_rfl) (by kernel_rfl) (by kernel_rfl) (fun _ _ _ h => h) (Or.inl ⟨by rfl, ?_⟩) (by assumption) ?_; rotate_left 1; (focus (intro wS hSw; obtain ⟨hS1, hS2, hS3, hS4⟩ := hSw; go_simp <;> with_reducible rfl)); (try simp only [Act.put, List.setIfInBounds_toArray, List.set_cons_zero, List.set_cons_succ]))
            (refine Lw.take1 (i := 9) (v := ?_) rfl (by kernel_rfl) (by kernel_rfl) (by kernel_rfl) (fun _ _ _ h => h) (Or.inl ⟨by rfl, ?_⟩) (by assumption) ?_; rotate_left 1; (focus (intro wS hSw; obtain ⟨hS1, hS2, hS3, hS4⟩ := hSw; go_simp <;> with_reducible rfl)); (try simp only [Act.put, List.setIfInBounds_toArray, List.set_cons_zero, List.set_cons_succ]))
            (refine Lw.take1 (i := 10) (v := ?_) rfl (by kernel_rfl) (by kernel_rfl) (by kernel_rfl) (fun _ _ _ h => h) (Or.inl ⟨by rfl, ?_⟩) (by assumption) ?_; rotate_left 1; (focus (intro wS hSw; obtain ⟨hS1, hS2, hS3, hS4⟩ := hSw; go_simp <;> with_reducible rfl)); (try simp only [Act.put, List.setIfInBounds_toArray, List.set_cons_zero, List.set_cons_succ]))
            (refine Lw.take1 (i := 11) (v := ?_) rfl (by kernel_rfl) (by kernel_rfl) (by kernel_rfl) (fun _ _ _ h => h) (Or.inl ⟨by rfl, ?_⟩) (by assumption) ?_; rotate_left 1; (focus (intro wS hSw; obtain ⟨hS1, hS2, hS3, hS4⟩ := hSw; go_simp <;> with_reducible rfl)); (try simp only [Act.put, List.setIfInBounds_toArray, List.set_cons_zero, List.set_cons_succ]))
            (refine Lw.take1 (i := 12) (v := ?_) rfl (by kernel_rfl) (by kernel_rfl) (by kernel_rfl) (fun _ _ _ h => h) (Or.inl ⟨by rfl, ?_⟩) (by assumption) ?_; rotate_left 1; (focus (intro wS hSw; obtain ⟨hS1, hS2, hS3, hS4⟩ := hSw; go_simp <;> with_reducible rfl)); (try simp only [Act.put, List.setIfInBounds_toArray, List.set_cons_zero, List.set_cons_succ]))
            (refine Lw.take1 (i := 13) (v := ?_) rfl (by kernel_rfl) (by kernel_rfl) (by kernel_rfl) (fun _ _ _ h => h) (Or.inl ⟨by rfl, ?_⟩) (by assumption) ?_; rotate_left 1; (focus (intro wS hSw; obtain ⟨hS1, hS2, hS3, hS4⟩ := hSw; go_simp <;> with_reducible rfl)); (try simp only [Act.put, List.setIfInBounds_toArray, List.set_cons_zero, List.set_cons_succ]))
            (refine Lw.take1 (i := 14) (v := ?_) rfl (by kernel_rfl) (by kernel_rfl) (by kernel_rfl) (fun _ _ _ h => h) (Or.inl ⟨by rfl, ?_⟩) (by assumption) ?_; rotate_left 1; (focus (intro wS hSw; obtain ⟨hS1, hS2, hS3, hS4⟩ := hSw; go_simp <;> with_reducible rfl)); (try simp only [Act.put, List.setIfInBounds_toArray, List.set_cons_zero, List.set_cons_succ]))
            (refine Lw.take1 (i := 15) (v := ?_) rfl (by kernel_rfl) (by kernel_rfl) (by kernel_rfl) (fun _ _ _ h => h) (Or.inl ⟨by rfl, ?_⟩) (by assumption) ?_; rotate_left 1; (focus (intro wS hSw; obtain ⟨hS1, hS2, hS3, hS4⟩ := hSw; go_simp <;> with_reducible rfl)); (try simp only [Act.put, List.setIfInBounds_toArray, List.set_cons_zero, List.set_cons_succ]))
            (refine Lw.take1 (i := 16) (v := ?_) rfl (by kernel_rfl) (by kernel_rfl) (by kernel_rfl) (fun _ _ _ h => h) (Or.inl ⟨by rfl, ?_⟩) (by assumption) ?_; rotate_left 1; (focus (intro wS hSw; obtain ⟨hS1, hS2, hS3, hS4⟩ := hSw; go_simp <;> with_reducible rfl)); (try simp only [Act.put, List.setIfInBounds_toArray, List.set_cons_zero, List.set_cons_succ]))
            (refine Lw.take1 (i := 17) (v := ?_) rfl (by kernel_rfl) (by kernel_rfl) (by kernel_rfl) (fun _ _ _ h => h) (Or.inl ⟨by rfl, ?_⟩) (by assumption) ?_; rotate_left 1; (focus (intro wS hSw; obtain ⟨hS1, hS2, hS3, hS4⟩ := hSw; go_simp <;> with_reducible rfl)); (try simp only [Act.put, List.setIfInBounds_toArray, List.set_cons_zero, List.set_cons_succ]))
            (refine Lw.take1 (i := 18) (v := ?_) rfl (by kernel_rfl) (by kernel_rfl) (by kernel_rfl) (fun _ _ _ h => h) (Or.inl ⟨by rfl, ?_⟩) (by assumption) ?_; rotate_left 1; (focus (intro wS hSw; obtain ⟨hS1, hS2, hS3, hS4⟩ := hSw; go_simp <;> with_reducible rfl)); (try simp only [Act.put, List.setIfInBounds_toArray, List.set_cons_zero, List.set_cons_succ]))
            (refine Lw.take1 (i := 19) (v := ?_) rfl (by kernel_rfl) (by kernel_rfl) (by kernel_rfl) (fun _ _ _ h => h) (Or.inl ⟨by rfl, ?_⟩) (by assumption) ?_; rotate_left 1; (focus (intro wS hSw; obtain ⟨hS1, hS2, hS3, hS4⟩ := hSw; go_simp <;> with_reducible rfl)); (try simp only [Act.put, List.setIfInBounds_toArray, List.set_cons_zero, List.set_cons_succ]))
            (refine Lw.take1 (i := 20) (v := ?_) rfl (by kernel_rfl) (by kernel_rfl) (by kernel_rfl) (fun _ _ _ h => h) (Or.inl ⟨by rfl, ?_⟩) (by assumption) ?_; rotate_left 1; (focus (intro wS hSw; obtain ⟨hS1, hS2, hS3, hS4⟩ := hSw; go_simp <;> with_reducible rfl)); (try simp only [Act.put, List.setIfInBounds_toArray, List.set_cons_zero, List.set_cons_succ]))
            (refine Lw.take1 (i := 22) (v := ?_) rfl (by kernel_rfl) (by kernel_rfl) (by kernel_rfl) (fun _ _ _ h => h) (Or.inl ⟨by rfl, ?_⟩) (by assumption) ?_; rotate_left 1; (focus (intro wS hSw; obtain ⟨hS1, hS2, hS3, hS4⟩ := hSw; go_simp <;> with_reducible rfl)); (try simp only [Act.put, List.setIfInBounds_toArray, List.set_cons_zero, List.set_cons_succ]))
            (refine Lw.take1 (i := 25) (v := ?_) rfl (by kernel_rfl) (by kernel_rfl) (by kernel_rfl) (fun _ _ _ h => h) (Or.inl ⟨by rfl, ?_⟩) (by assumption) ?_; rotate_left 1; (focus (intro wS hSw; obtain ⟨hS1, hS2, hS3, hS4⟩ := hSw; go_simp <;> with_reducible rfl)); (try simp only [Act.put, List.setIfInBounds_toArray, List.set_cons_zero, List.set_cons_succ]))
            (refine wpAnyH_ready (rs := [21]) (by kernel_rfl) (by simp) ?_; refine Lw.cons1 (i := 21) rfl (fun K hK => ?_) AllReadyH.nil; go_simp; go_at_call 47; (with_reducible refine (MD.out _).mono ?_); rintro e w' ⟨rfl, rfl⟩; refine hK.out _ _ ?_ (fun hHeld => ?_); (focus exact Lw.sm_drew wr); clear hK K; (try simp only [Act.put, List.setIfInBounds_toArray, List.set_cons_zero, List.set_cons_succ]))
            (refine wpAnyH_ready (rs := [23]) (by kernel_rfl) (by simp) ?_; refine Lw.cons1 (i := 23) rfl (fun K hK => ?_) AllReadyH.nil; go_simp; go_at_call 46; (with_reducible refine (IVV.out _).mono ?_); rintro e w' ⟨rfl, rfl⟩; refine hK.out _ _ ?_ (fun hHeld => ?_); (focus exact Lw.sm_drew wr); clear hK K; (try simp only [Act.put, List.setIfInBounds_toArray, List.set_cons_zero, List.set_cons_succ]))
            (refine Lw.take1 (i := 24) (v := ?_) rfl (by kernel_rfl) (by kernel_rfl) (by kernel_rfl) (fun _ _ _ h => h) (Or.inl ⟨by rfl, ?_⟩) (by assumption) ?_; rotate_left 1; (focus (intro wS hSw; obtain ⟨hS1, hS2, hS3, hS4⟩ := hSw; go_simp <;> with_reducible rfl)); (try simp only [Act.put, List.setIfInBounds_toArray, List.set_cons_zero, List.set_cons_succ]))
            (refine Lw.take1 (i := 26) (v := ?_) rfl (by kernel_rfl) (by kernel_rfl) (by kernel_rfl) (fun _ _ _ h => h) (Or.inl ⟨by rfl, ?_⟩) (by assumption) ?_; rotate_left 1; (focus (intro wS hSw; obtain ⟨hS1, hS2, hS3, hS4⟩ := hSw; go_simp <;> with_reducible rfl)); (try simp only [Act.put, List.setIfInBounds_toArray, List.set_cons_zero, List.set_cons_succ]))
            (refine Lw.take1 (i := 27) (v := ?_) rfl (by kernel_rfl) (by kernel_rfl) (by kernel_rfl) (fun _ _ _ h => h) (Or.inl ⟨by rfl, ?_⟩) (by assumption) ?_; rotate_left 1; (focus (intro wS hSw; obtain ⟨hS1, hS2, hS3, hS4⟩ := hSw; go_simp <;> with_reducible rfl)); (try simp only [Act.put, List.setIfInBounds_toArray, List.set_cons_zero, List.set_cons_succ]))
            refine wpAnyH_done (by kernel_rfl) ?_ _
            have hS := Lw.sm_drew wr
            go_wp2_with fail
            go_roundw
            case rel => exact ⟨j + 1, by go_num, by omega, by rw [LN.out], Lw.bt hZ (Lw.sm_bel hS)⟩
            case measure => simp [intOf]; omega
        · have hjn : j = n := by omega
          subst hjn
          obtain ⟨k0, k1⟩ := KB.out i hl j
          have e5 : IntKind.i64.wrap (s + Lw.jnK p L i j) = s + Lw.jnK p L i j := by rw [IntKind.wrap_i64]; omega
          have e6 : (s + Lw.jnK p L i j).tmod p = (s + Lw.jnK p L i j) % p := Int.tmod_eq_emod_of_nonneg (by omega)
          clear KB NE IV IB BD
          go_wp2_with fail
          go_roundw
          case rel => exact ⟨i + 1, by go_num, by omega, by rw [NXT.out], Lw.bt hB hZ⟩
          case measure => simp [intOf]; omega
    · have hin : i = n := by omega
      subst hin
      go_wp2_with fail
      go_ret
      exact ⟨by rw [LL.out]; rfl, hB⟩
end Go.Proofs.Ytfocpbknckmmaaa
namespace Lw
open Go Go.RowKit
theorem polyE_nil' (p : Int) : polyE p [] = pprE p := by
  by_cases h : pprE p = 0
  · rw [poly_in h (by decide), h]; rfl
  · rw [poly_p h]
def ParP (p t : Int) : Prop := 0 ≤ t ∧ t ≤ 4 ∧ 2 * t + 1 < p
instance (p t : Int) : Decidable (ParP p t) := inferInstanceAs (Decidable (0 ≤ t ∧ t ≤ 4 ∧ 2 * t + 1 < p))
/-- shares as points -/
def opL (ys : List Int) (k : Nat) : List PtT := (List.range k).map fun (i : Nat) => (((i : Nat) : Int) + 1, ys.getD i 0)
theorem opL_len (ys : List Int) (k : Nat) : (opL ys k).length = k := by simp [opL]
theorem opL_succ (ys : List Int) (k : Nat) : opL ys (k + 1) = opL ys k ++ [((k : Int) + 1, ys.getD k 0)] := by unfold opL; rw [List.range_succ, List.map_append, List.map_singleton]
theorem opL_at {ys : List Int} {n k : Nat} (h : k < n) : ptG (opL ys n) k = ((k : Int) + 1, ys.getD k 0) := by
  rw [ptG_at (by rw [opL_len]; exact h)]; simp [opL]
open Classical in
noncomputable def opnE (p t : Int) (ys : List Int) : Int := if ¬ pprE p = 0 then pprE p else if ¬ ParP p t ∨ outR p ys = true then 2 else if ¬ (ys.length : Int) = 2 * t + 1 then 4 else 0
theorem opn_p {p t : Int} {ys : List Int} (h : ¬ pprE p = 0) : opnE p t ys = pprE p := if_pos h
theorem opn_r {p t : Int} {ys : List Int} (h : pprE p = 0) (h1 : ¬ ParP p t ∨ outR p ys = true) : opnE p t ys = 2 := by unfold opnE; rw [if_neg (by simp [h]), if_pos h1]
theorem opn_f {p t : Int} {ys : List Int} (h : pprE p = 0) (h1 : ParP p t) (h2 : outR p ys = false) (h3 : ¬ (ys.length : Int) = 2 * t + 1) : opnE p t ys = 4 := by unfold opnE; rw [if_neg (by simp [h]), if_neg (by simp [h1, h2]), if_pos h3]
theorem opn_0 {p t : Int} {ys : List Int} (h : pprE p = 0) (h1 : ParP p t) (h2 : outR p ys = false) (h3 : (ys.length : Int) = 2 * t + 1) : opnE p t ys = 0 := by unfold opnE; rw [if_neg (by simp [h]), if_neg (by simp [h1, h2]), if_neg (by simp [h3])]
theorem opn_pts {p t : Int} {ys : List Int} (h : pprE p = 0) (h1 : ParP p t) (h2 : outR p ys = false) (h3 : (ys.length : Int) = 2 * t + 1) : joinE p (opL ys ys.length) = 0 := by
  obtain ⟨p1, p2, pp⟩ := ppr_ok h
  obtain ⟨t1, t2, t3⟩ := h1
  have hb := outR_in h2
  have e0 : ptsE p (opL ys ys.length) = 0 := by
    refine pts_zero h (by rw [opL_len]; omega) (fun k hk => ?_) ?_
    · have hk' : k < ys.length := by rw [opL_len] at hk; exact hk
      have e := opL_at (ys := ys) hk'
      rw [ptG_at hk] at e
      rw [e]
      have := getD_bd (by omega : 0 < p) hb k
      generalize ys.getD k 0 = v at *
      unfold outP; simp; omega
    · rw [opL_len]
      rintro ⟨i, j, hj, hi, e⟩
      rw [fst_getD, fst_getD, opL_at hi, opL_at (by omega)] at e
      simp at e; omega
  refine join_ok e0 ?_
  rw [Bool.eq_false_iff]
  intro hz
  obtain ⟨r, hr, h5⟩ := List.any_eq_true.1 hz
  obtain ⟨i, _, rfl⟩ := List.mem_map.1 hr
  simp at h5
  omega
end Lw
set_option linter.unusedVariables false
set_option linter.unusedSimpArgs false
namespace Go.Proofs.Ytfocpbknckmmaaa
open Go.RowKit
theorem parts_parties (p t : Int) (w : World) :
    Calls Try.prog 16 #[.int .i64 p, .int .i64 t] w fun e w' => e = .returned (.bool (decide (Lw.ParP p t))) ∧ w = w' := by
  by_cases h : Lw.ParP p t
  · obtain ⟨h1, h2, h3⟩ := h
    have E := Lib.hid (show decide (Lw.ParP p t) = true from decide_eq_true ⟨h1, h2, h3⟩)
    go_enter Try.func16, Try.ntmps16
    go_wp2
    go_ret
    exact ⟨by rw [E.out]; rfl, rfl⟩
  · have E := Lib.hid (show decide (Lw.ParP p t) = false from decide_eq_false h)
    have key : t < 0 ∨ (0 ≤ t ∧ 4 < t) ∨ (0 ≤ t ∧ t ≤ 4 ∧ p ≤ 2 * t + 1 ∧ ¬ 2 * t + 1 < p) := by unfold Lw.ParP at h; omega
    clear h
    rcases key with h1 | ⟨h1, h2⟩ | ⟨h1, h2, h3, h4⟩
    all_goals
      go_enter Try.func16, Try.ntmps16
      go_wp2
      go_ret
      exact ⟨by rw [E.out]; rfl, rfl⟩
theorem ref_PartiesCheck (p t : Int) (w : World) :
    Calls Try.prog 7 #[.int .i64 p, .int .i64 t] w fun e w' => e = .returned (.int .i64 (if Lw.ParP p t then 0 else 2)) ∧ w = w' := by
  by_cases h : Lw.ParP p t
  · obtain ⟨h1, h2, h3⟩ := h
    rw [if_pos ⟨h1, h2, h3⟩]
    go_enter Try.func7, Try.ntmps7
    go_wp2
    go_ret
    exact ⟨rfl, rfl⟩
  · rw [if_neg h]
    have key : t < 0 ∨ (0 ≤ t ∧ 4 < t) ∨ (0 ≤ t ∧ t ≤ 4 ∧ p ≤ 2 * t + 1 ∧ ¬ 2 * t + 1 < p) := by unfold Lw.ParP at h; omega
    clear h
    rcases key with h1 | ⟨h1, h2⟩ | ⟨h1, h2, h3, h4⟩
    all_goals
      go_enter Try.func7, Try.ntmps7
      go_wp2
      go_ret
      exact ⟨rfl, rfl⟩
end Go.Proofs.Ytfocpbknckmmaaa
set_option linter.unusedVariables false
namespace Lw
open Go Go.RowKit
/-- by a prime the same -/
def Cg (p a b : Int) : Prop := a % p = b % p
theorem Cg.rfl' {p a : Int} : Cg p a a := rfl
theorem Cg.symm {p a b : Int} (h : Cg p a b) : Cg p b a := Eq.symm h
theorem Cg.trans {p a b c : Int} (h : Cg p a b) (k : Cg p b c) : Cg p a c := Eq.trans h k
theorem Cg.mul {p a b c d : Int} (h : Cg p a b) (k : Cg p c d) : Cg p (a * c) (b * d) := by
  unfold Cg at *; rw [Int.mul_emod, h, k, ← Int.mul_emod]
theorem Cg.left {p a b : Int} : Cg p (a % p) a := Int.emod_emod_of_dvd _ (Int.dvd_refl p)
theorem Cg.eq {p a b : Int} (h : Cg p a b) (a0 : 0 ≤ a) (a1 : a < p) (b0 : 0 ≤ b) (b1 : b < p) : a = b := by
  unfold Cg at h; rwa [Int.emod_eq_of_lt a0 a1, Int.emod_eq_of_lt b0 b1] at h
/-- the program's rounds at the weight of x -/
def upS (p x : Int) : Nat → Int
  | 0 => 1
  | z + 1 => if ((z : Int) + 1) = x then upS p x z else upS p x z * ((z : Int) + 1) % p
def dnS (p x : Int) : Nat → Int
  | 0 => 1
  | z + 1 => if ((z : Int) + 1) = x then dnS p x z else dnS p x z * (((z : Int) + 1) - x) % p
def wgt (p : Int) (n : Nat) (x : Int) : Int := upS p x n * invR (dnS p x n) p % p
theorem upS_bd {p x : Int} (hp : 2 ≤ p) : ∀ z, 0 ≤ upS p x z ∧ upS p x z < p
  | 0 => ⟨by show (0 : Int) ≤ 1; omega, by show (1 : Int) < p; omega⟩
  | z + 1 => by
    by_cases e : ((z : Int) + 1) = x
    · have hk : upS p x (z + 1) = upS p x z := if_pos e
      rw [hk]; exact upS_bd hp z
    · have hk : upS p x (z + 1) = upS p x z * ((z : Int) + 1) % p := if_neg e
      rw [hk]; exact ⟨Int.emod_nonneg _ (by omega), Int.emod_lt_of_pos _ (by omega)⟩
theorem dnS_bd {p x : Int} (hp : 2 ≤ p) : ∀ z, 0 ≤ dnS p x z ∧ dnS p x z < p
  | 0 => ⟨by show (0 : Int) ≤ 1; omega, by show (1 : Int) < p; omega⟩
  | z + 1 => by
    by_cases e : ((z : Int) + 1) = x
    · have hk : dnS p x (z + 1) = dnS p x z := if_pos e
      rw [hk]; exact dnS_bd hp z
    · have hk : dnS p x (z + 1) = dnS p x z * (((z : Int) + 1) - x) % p := if_neg e
      rw [hk]; exact ⟨Int.emod_nonneg _ (by omega), Int.emod_lt_of_pos _ (by omega)⟩
theorem prime_mul {p a b : Int} (hp : primeB p = true) (ha : ¬ a % p = 0) (hb : ¬ b % p = 0) : ¬ a * b % p = 0 := by
  intro h
  have hpr : Prime p.toNat := by unfold primeB at hp; exact of_decide_eq_true hp
  have h2 := hpr.1
  have hpp : ((p.toNat : Nat) : Int) = p := by omega
  have hd : p.toNat ∣ a.natAbs * b.natAbs := by
    rw [← Int.natAbs_mul]
    have := Int.dvd_of_emod_eq_zero h
    rw [← hpp] at this
    exact Int.ofNat_dvd_left.1 this
  rcases hpr.dvd_mul hd with h3 | h3
  · exact ha (Int.emod_eq_zero_of_dvd (by rw [← hpp]; exact Int.ofNat_dvd_left.2 h3))
  · exact hb (Int.emod_eq_zero_of_dvd (by rw [← hpp]; exact Int.ofNat_dvd_left.2 h3))
theorem dnS_ne {p x : Int} (hp : primeB p = true) (p1 : 2 ≤ p) : ∀ (z : Nat), (z : Int) < p → 1 ≤ x → x < p → ¬ dnS p x z % p = 0
  | 0, _, _, _ => by
    show ¬ (1 : Int) % p = 0
    rw [Int.emod_eq_of_lt (by omega) (by omega)]; decide
  | z + 1, hz, x0, x1 => by
    have ih := dnS_ne hp p1 z (by omega) x0 x1
    by_cases hne : ((z : Int) + 1) = x
    · have hk : dnS p x (z + 1) = dnS p x z := if_pos hne
      rw [hk]; exact ih
    · have hk : dnS p x (z + 1) = dnS p x z * (((z : Int) + 1) - x) % p := if_neg hne
      rw [hk, Int.emod_emod_of_dvd _ (Int.dvd_refl p)]
      refine prime_mul hp ih (fun h => ?_)
      obtain ⟨c, hc⟩ := Int.dvd_of_emod_eq_zero h
      have hc0 : c = 0 := by
        rcases Int.lt_trichotomy c 0 with h1 | h1 | h1
        · have : p * c ≤ p * (-1) := Int.mul_le_mul_of_nonneg_left (by omega) (by omega)
          omega
        · exact h1
        · have : p * 1 ≤ p * c := Int.mul_le_mul_of_nonneg_left (by omega) (by omega)
          omega
      rw [hc0, Int.mul_zero] at hc
      omega
/-- the points of which the i-th has 1, and all others 0 -/
def dlL (n i : Nat) : List PtT := (List.range n).map fun (j : Nat) => (((j : Nat) : Int) + 1, if j = i then 1 else 0)
theorem dlL_len (n i : Nat) : (dlL n i).length = n := by simp [dlL]
theorem dlL_at {n i k : Nat} (h : k < n) : ptG (dlL n i) k = ((k : Int) + 1, if k = i then 1 else 0) := by
  rw [ptG_at (by rw [dlL_len]; exact h)]; simp [dlL]
theorem dlL_ok {p : Int} {n i : Nat} (hn : (n : Int) < p) (p1 : 2 ≤ p) : PtsOk p (dlL n i) := by
  refine ⟨fun r hr => ?_, fun a b hab hb => ?_⟩
  · obtain ⟨j, hj, rfl⟩ := List.mem_map.1 hr
    have := List.mem_range.1 hj
    refine ⟨⟨by show (0 : Int) ≤ (j : Int) + 1; omega, by show (j : Int) + 1 < p; omega⟩, ?_⟩
    show 0 ≤ (if j = i then (1 : Int) else 0) ∧ (if j = i then (1 : Int) else 0) < p
    split <;> omega
  · rw [dlL_len] at hb
    rw [dlL_at (by omega), dlL_at hb]
    simp; omega
theorem jnK_zero {p : Int} {L : List PtT} {i : Nat} (h : (ptG L i).2 = 0) : ∀ j, jnK p L i j = 0
  | 0 => h
  | j + 1 => by
    show (if j = i then jnK p L i j else jnK p L i j * (ptG L j).1 % p * invR (((ptG L j).1 - (ptG L i).1) % p) p % p) = 0
    rw [jnK_zero h j]; simp
theorem jnS_dl {p : Int} {n i : Nat} (hi : i < n) (hn : (n : Int) < p) (p1 : 2 ≤ p) : ∀ k, k ≤ n → jnS p (dlL n i) k = if i < k then jnK p (dlL n i) i n else 0
  | 0, _ => by rw [if_neg (by omega)]; rfl
  | k + 1, h => by
    have kb := jnK_bd (p := p) (by omega) (L := dlL n i) (i := i) ((dlL_ok hn p1).bd (k := i) (by rw [dlL_len]; exact hi)).2 n
    show (jnS p (dlL n i) k + jnK p (dlL n i) k (dlL n i).length) % p = _
    rw [jnS_dl hi hn p1 k (by omega), dlL_len]
    by_cases e : k = i
    · subst e
      rw [if_neg (by omega), if_pos (by omega), Int.zero_add, Int.emod_eq_of_lt kb.1 kb.2]
    · rw [jnK_zero (i := k) (by rw [dlL_at (by omega)]; simp [e]), Int.add_zero]
      by_cases h2 : i < k
      · rw [if_pos h2, if_pos (by omega), Int.emod_eq_of_lt kb.1 kb.2]
      · rw [if_neg h2, if_neg (by omega), Int.zero_emod]
theorem jnK_wgt {p : Int} (hp : primeB p = true) (p1 : 2 ≤ p) (p2 : p ≤ 251) {n i : Nat} (hi : i < n) (hn : (n : Int) < p) : ∀ j, j ≤ n → Cg p (jnK p (dlL n i) i j * dnS p ((i : Int) + 1) j) (upS p ((i : Int) + 1) j)
  | 0, _ => by
    have e : jnK p (dlL n i) i 0 = 1 := by show (ptG (dlL n i) i).2 = 1; rw [dlL_at hi]; simp
    rw [e]; exact Cg.rfl'
  | j + 1, h => by
    have ih := jnK_wgt hp p1 p2 hi hn j (by omega)
    by_cases e : j = i
    · have a1 : jnK p (dlL n i) i (j + 1) = jnK p (dlL n i) i j := if_pos e
      have a2 : dnS p ((i : Int) + 1) (j + 1) = dnS p ((i : Int) + 1) j := if_pos (by omega)
      have a3 : upS p ((i : Int) + 1) (j + 1) = upS p ((i : Int) + 1) j := if_pos (by omega)
      rw [a1, a2, a3]; exact ih
    · have a1 : jnK p (dlL n i) i (j + 1) = jnK p (dlL n i) i j * (ptG (dlL n i) j).1 % p * invR (((ptG (dlL n i) j).1 - (ptG (dlL n i) i).1) % p) p % p := if_neg e
      have a2 : dnS p ((i : Int) + 1) (j + 1) = dnS p ((i : Int) + 1) j * (((j : Int) + 1) - ((i : Int) + 1)) % p := if_neg (by omega)
      have a3 : upS p ((i : Int) + 1) (j + 1) = upS p ((i : Int) + 1) j * ((j : Int) + 1) % p := if_neg (by omega)
      rw [dlL_at (by omega : j < n), dlL_at hi] at a1
      simp only at a1
      rw [a1, a2, a3]
      generalize jnK p (dlL n i) i j = K at *
      generalize dnS p ((i : Int) + 1) j = D at *
      generalize upS p ((i : Int) + 1) j = U at *
      obtain ⟨d, hd⟩ : ∃ d, ((j : Int) + 1) - ((i : Int) + 1) = d := ⟨_, rfl⟩
      obtain ⟨a, ha⟩ : ∃ a, (j : Int) + 1 = a := ⟨_, rfl⟩
      rw [hd, ha]
      have hd0 : ¬ d % p = 0 := by
        intro h0
        obtain ⟨c, hc⟩ := Int.dvd_of_emod_eq_zero h0
        have hc0 : c = 0 := by
          rcases Int.lt_trichotomy c 0 with h1 | h1 | h1
          · have : p * c ≤ p * (-1) := Int.mul_le_mul_of_nonneg_left (by omega) (by omega)
            omega
          · exact h1
          · have : p * 1 ≤ p * c := Int.mul_le_mul_of_nonneg_left (by omega) (by omega)
            omega
        rw [hc0, Int.mul_zero] at hc
        omega
      have hb1 := Int.emod_nonneg d (show p ≠ 0 by omega)
      have hb2 := Int.emod_lt_of_pos d (show 0 < p by omega)
      have iv := (inv_prime (p := p) (b := d % p) hp (by omega) (by omega) hb2).1
      have iv2 : Cg p (invR (d % p) p * d) 1 := (Cg.mul Cg.rfl' (Cg.left (b := d)).symm).trans iv
      generalize invR (d % p) p = u at *
      have s1 : Cg p ((K * a % p * u % p) * (D * d % p)) ((K * a * u) * (D * d)) :=
        Cg.mul ((Cg.left (b := 0)).trans (Cg.mul (Cg.left (b := 0)) Cg.rfl')) (Cg.left (b := 0))
      have s2 : (K * a * u) * (D * d) = (K * D) * a * (u * d) := by grind
      rw [s2] at s1
      have s3 : Cg p ((K * D) * a * (u * d)) (U * a * 1) := Cg.mul (Cg.mul ih Cg.rfl') iv2
      rw [Int.mul_one] at s3
      exact s1.trans (s3.trans (Cg.left (b := 0)).symm)
/-- the weight that the program reckons is the reference's -/
theorem wgt_eq {p : Int} (hp : primeB p = true) (p1 : 2 ≤ p) (p2 : p ≤ 251) {n i : Nat} (hi : i < n) (hn : (n : Int) < p) : jnS p (dlL n i) n = wgt p n ((i : Int) + 1) := by
  rw [jnS_dl hi hn p1 n (Nat.le_refl _), if_pos hi]
  have kb := jnK_bd (p := p) (by omega) (L := dlL n i) (i := i) ((dlL_ok hn p1).bd (k := i) (by rw [dlL_len]; exact hi)).2 n
  have h1 := jnK_wgt hp p1 p2 hi hn n (Nat.le_refl _)
  have d0 := dnS_bd (p := p) (x := (i : Int) + 1) p1 n
  have dn := dnS_ne (x := (i : Int) + 1) hp p1 n (by omega) (by omega) (by omega)
  rw [Int.emod_eq_of_lt d0.1 d0.2] at dn
  have iv := (inv_prime (p := p) (b := dnS p ((i : Int) + 1) n) hp (by omega) (by omega) d0.2).1
  refine Cg.eq (p := p) ?_ kb.1 kb.2 (Int.emod_nonneg _ (by omega)) (Int.emod_lt_of_pos _ (by omega))
  unfold wgt
  generalize jnK p (dlL n i) i n = K at *
  generalize dnS p ((i : Int) + 1) n = D at *
  generalize upS p ((i : Int) + 1) n = U at *
  generalize invR D p = u at *
  have s1 : Cg p (K * 1) (K * (u * D)) := Cg.mul Cg.rfl' (Cg.symm iv)
  rw [Int.mul_one, show K * (u * D) = K * D * u by grind] at s1
  exact s1.trans ((Cg.mul h1 Cg.rfl').trans (Cg.left (b := 0)).symm)
theorem wgt_bd {p : Int} (p1 : 2 ≤ p) (n : Nat) (x : Int) : 0 ≤ wgt p n x ∧ wgt p n x < p := ⟨Int.emod_nonneg _ (by omega), Int.emod_lt_of_pos _ (by omega)⟩
/-- random numbers, so many from a place on; 0 beyond -/
def takR (random : List Int) (used t : Nat) : List Int := (List.range t).map fun k => random.getD (used + k) 0
theorem takR_len (random : List Int) (used t : Nat) : (takR random used t).length = t := by simp [takR]
theorem takR_succ (random : List Int) (used t : Nat) : takR random used (t + 1) = takR random used t ++ [random.getD (used + t) 0] := by unfold takR; rw [List.range_succ, List.map_append]; rfl
theorem takR_bd {p : Int} (hp : 0 < p) {random : List Int} (h : ∀ x ∈ random, 0 ≤ x ∧ x < p) (used t : Nat) : ∀ x ∈ takR random used t, 0 ≤ x ∧ x < p := by
  intro x hx
  obtain ⟨k, _, rfl⟩ := List.mem_map.1 hx
  rw [List.getD_eq_getElem?_getD]
  cases h2 : random[used + k]? with
  | none => exact ⟨Int.le_refl _, hp⟩
  | some y => exact h y (List.mem_of_getElem? h2)
/-- a value in shares -/
def shrL (p x : Int) (more : List Int) (n : Nat) : List Int := (List.range n).map fun (i : Nat) => hornV p (x :: more) ((i : Int) + 1)
theorem shrL_len (p x : Int) (more : List Int) (n : Nat) : (shrL p x more n).length = n := by simp [shrL]
theorem shrL_get {p x : Int} {more : List Int} {n i : Nat} (h : i < n) : (shrL p x more n)[i]'(by rw [shrL_len]; exact h) = hornV p (x :: more) ((i : Int) + 1) := by simp [shrL]
theorem shrL_succ (p x : Int) (more : List Int) (n : Nat) : shrL p x more (n + 1) = shrL p x more n ++ [hornV p (x :: more) ((n : Int) + 1)] := by unfold shrL; rw [List.range_succ, List.map_append]; rfl
theorem shrL_bd {p x : Int} (hp : 2 ≤ p) (more : List Int) (n : Nat) : ∀ y ∈ shrL p x more n, 0 ≤ y ∧ y < p := by
  intro y hy
  obtain ⟨k, _, rfl⟩ := List.mem_map.1 hy
  exact horn_bd hp _
/-- of each party's shares -/
def eaL (p : Int) (f : Int → Int → Int) (a b : List Int) : List Int := (List.range a.length).map fun i => f (a.getD i 0) (b.getD i 0) % p
theorem eaL_len (p : Int) (f : Int → Int → Int) (a b : List Int) : (eaL p f a b).length = a.length := by simp [eaL]
theorem eaL_get {p : Int} {f : Int → Int → Int} {a b : List Int} {i : Nat} (h : i < a.length) : (eaL p f a b)[i]'(by rw [eaL_len]; exact h) = f (a.getD i 0) (b.getD i 0) % p := by simp [eaL]
theorem eaL_bd {p : Int} (hp : 0 < p) (f : Int → Int → Int) (a b : List Int) : ∀ y ∈ eaL p f a b, 0 ≤ y ∧ y < p := by
  intro y hy
  obtain ⟨k, _, rfl⟩ := List.mem_map.1 hy
  exact ⟨Int.emod_nonneg _ (by omega), Int.emod_lt_of_pos _ hp⟩
/-- a product in shares, of i parties -/
def mulS (p : Int) (n t : Nat) (random prod : List Int) (used : Nat) : Nat → List Int
  | 0 => List.replicate n 0
  | i + 1 => eaL p (fun o y => o + wgt p n ((i : Int) + 1) * y) (mulS p n t random prod used i) (shrL p (prod.getD i 0) (takR random (used + i * t) t) n)
theorem mulS_len (p : Int) (n t : Nat) (random prod : List Int) (used : Nat) : ∀ i, (mulS p n t random prod used i).length = n
  | 0 => by simp [mulS]
  | i + 1 => by rw [mulS, eaL_len, mulS_len p n t random prod used i]
theorem mulS_bd {p : Int} (hp : 0 < p) (n t : Nat) (random prod : List Int) (used : Nat) : ∀ i, ∀ y ∈ mulS p n t random prod used i, 0 ≤ y ∧ y < p
  | 0, y, hy => by simp [mulS] at hy; omega
  | i + 1, y, hy => eaL_bd hp _ _ _ y hy
/-- one gate in shares, and how many random numbers are used behind it -/
def prG (p : Int) (t : Nat) (ins random : List Int) (T : List (List Int)) (used : Nat) (g : GateT) : List Int × Nat :=
  if g.K = 1 then (shrL p (ins.getD g.A.toNat 0) (takR random used t) (2 * t + 1), used + t)
  else if g.K = 2 then (List.replicate (2 * t + 1) g.N, used)
  else if g.K = 3 then (eaL p (fun x y => x + y) (T.getD g.A.toNat []) (T.getD g.B.toNat []), used)
  else (mulS p (2 * t + 1) t random (eaL p (fun x y => x * y) (T.getD g.A.toNat []) (T.getD g.B.toNat [])) used (2 * t + 1), used + (2 * t + 1) * t)
def prT (p : Int) (t : Nat) (ins random : List Int) (gs : List GateT) : Nat → List (List Int) × Nat
  | 0 => ([], 0)
  | k + 1 => ((prT p t ins random gs k).1 ++ [(prG p t ins random (prT p t ins random gs k).1 (prT p t ins random gs k).2 (gs.getD k ⟨0, 0, 0, 0⟩)).1], (prG p t ins random (prT p t ins random gs k).1 (prT p t ins random gs k).2 (gs.getD k ⟨0, 0, 0, 0⟩)).2)
theorem prT_len (p : Int) (t : Nat) (ins random : List Int) (gs : List GateT) : ∀ k, (prT p t ins random gs k).1.length = k
  | 0 => rfl
  | k + 1 => by rw [prT, List.length_append, prT_len p t ins random gs k]; rfl
theorem prG_row {p : Int} (p1 : 2 ≤ p) {t : Nat} {ins random : List Int} {T : List (List Int)} {used k : Nat} {g : GateT} (hT : ∀ r ∈ T, r.length = 2 * t + 1 ∧ ∀ y ∈ r, 0 ≤ y ∧ y < p) (hk : T.length = k) (hg : gateE p k ins.length g = 0) :
    (prG p t ins random T used g).1.length = 2 * t + 1 ∧ ∀ y ∈ (prG p t ins random T used g).1, 0 ≤ y ∧ y < p := by
  obtain ⟨K, A, B, N⟩ := g
  unfold prG
  rcases gate_ok hg with ⟨rfl, a0, a1⟩ | ⟨rfl, n0, n1⟩ | ⟨rfl, ⟨a0, a1⟩, b0, b1⟩ | ⟨rfl, ⟨a0, a1⟩, b0, b1⟩
  · rw [if_pos (show (1 : Int) = 1 from rfl)]
    exact ⟨shrL_len _ _ _ _, shrL_bd p1 _ _⟩
  · rw [if_neg (show ¬ (2 : Int) = 1 by decide), if_pos (show (2 : Int) = 2 from rfl)]
    refine ⟨List.length_replicate .., fun y hy => ?_⟩
    simp only [List.mem_replicate] at hy
    rw [hy.2]; exact ⟨n0, n1⟩
  · rw [if_neg (show ¬ (3 : Int) = 1 by decide), if_neg (show ¬ (3 : Int) = 2 by decide), if_pos (show (3 : Int) = 3 from rfl)]
    have hl : A.toNat < T.length := by omega
    have e : T.getD A.toNat [] = T[A.toNat] := by rw [List.getD_eq_getElem?_getD, List.getElem?_eq_getElem hl]; rfl
    refine ⟨?_, eaL_bd (by omega) _ _ _⟩
    simp only
    rw [eaL_len, e]; exact (hT _ (List.getElem_mem hl)).1
  · rw [if_neg (show ¬ (4 : Int) = 1 by decide), if_neg (show ¬ (4 : Int) = 2 by decide), if_neg (show ¬ (4 : Int) = 3 by decide)]
    exact ⟨mulS_len _ _ _ _ _ _ _, mulS_bd (by omega) _ _ _ _ _ _⟩
theorem prT_rows {p : Int} (p1 : 2 ≤ p) {t : Nat} {ins random : List Int} {gs : List GateT} (h : ∀ k (hk : k < gs.length), gateE p k ins.length gs[k] = 0) : ∀ k, k ≤ gs.length → ∀ r ∈ (prT p t ins random gs k).1, r.length = 2 * t + 1 ∧ ∀ y ∈ r, 0 ≤ y ∧ y < p
  | 0, _, r, hr => by cases hr
  | k + 1, hk, r, hr => by
    have ih := prT_rows p1 (t := t) (ins := ins) (random := random) h k (by omega)
    rw [prT] at hr
    rcases List.mem_append.1 hr with hr | hr
    · exact ih r hr
    · simp only [List.mem_singleton] at hr
      subst hr
      have e : gs.getD k ⟨0, 0, 0, 0⟩ = gs[k] := by rw [List.getD_eq_getElem?_getD, List.getElem?_eq_getElem (by omega)]; rfl
      rw [e]
      exact prG_row p1 ih (prT_len _ _ _ _ _ _) (h k (by omega))
theorem prT_next {p : Int} {t : Nat} {ins random : List Int} {gs : List GateT} {k : Nat} (hk : k < gs.length) : prT p t ins random gs (k + 1) = ((prT p t ins random gs k).1 ++ [(prG p t ins random (prT p t ins random gs k).1 (prT p t ins random gs k).2 gs[k]).1], (prG p t ins random (prT p t ins random gs k).1 (prT p t ins random gs k).2 gs[k]).2) := by
  have e : gs.getD k ⟨0, 0, 0, 0⟩ = gs[k] := by rw [List.getD_eq_getElem?_getD, List.getElem?_eq_getElem hk]; rfl
  rw [prT, e]
end Lw
namespace Lw
open Go Go.RowKit
/-- one block has turned, and new ones are there -/
structure Tn (b : Nat) (w w' : World) : Prop where
  os : w'.os = w.os
  tape : w'.tape = w.tape
  output : w'.output = w.output
  size : w.heap.size ≤ w'.heap.size
  block : ∀ k, k < w.heap.size → k ≠ b → w'.heap[k]? = w.heap[k]?
theorem Tn.refl (b : Nat) (w : World) : Tn b w w := ⟨rfl, rfl, rfl, Nat.le_refl _, fun _ _ _ => rfl⟩
theorem Tn.trans {b : Nat} {u v w : World} (h : Tn b u v) (k : Tn b v w) : Tn b u w :=
  ⟨k.os.trans h.os, k.tape.trans h.tape, k.output.trans h.output, Nat.le_trans h.size k.size, fun j hj h1 => (k.block j (Nat.lt_of_lt_of_le hj h.size) h1).trans (h.block j hj h1)⟩
theorem Tn.of {b : Nat} {w w' : World} (h : Below w.heap.size w w') : Tn b w w' := ⟨h.os, h.tape, h.output, h.size, fun k hk _ => h.block k hk⟩
theorem Tn.set {b : Nat} {w w' : World} (h : Tn b w w') (i : Nat) (v : Value) : Tn b w (w'.setCell ⟨b, i, none⟩ v) :=
  ⟨h.os, h.tape, h.output, by simpa using h.size, fun k hk h1 => (Below.heap_setCell _ _ _ _ (by show k ≠ b; exact h1)).trans (h.block k hk h1)⟩
theorem Tn.drew {b : Nat} {w w' : World} (h : Tn b w w') : Tn b w w'.drew := ⟨h.os, h.tape, h.output, h.size, h.block⟩
theorem Tn.below {b B : Nat} {w w' : World} (h : Tn b w w') (hb : B ≤ b) (hs : B ≤ w.heap.size) : Below B w w' := ⟨h.os, h.tape, h.output, h.size, fun k hk => h.block k (by omega) (by omega)⟩
theorem own_tn {base e s n b : Nat} {w w' : World} {v : Value} {xs : List Value} (h : w.ownsRow base e s v n xs) (hg : Tn b w w') (hb : v.ownBlock ≠ some b) : w'.ownsRow base e s v n xs := by
  obtain ⟨hl, h2⟩ := h
  refine ⟨hl, ?_⟩
  rcases h2 with ⟨h0, h1⟩ | ⟨g, cap, cur, hu, hbg, hh, rest⟩
  · exact .inl ⟨h0, h1⟩
  · refine .inr ⟨g, cap, cur, hu, hbg, ?_, rest⟩
    exact (hg.block g (Array.getElem?_eq_some_iff.1 hh).1 (fun e => hb (by subst hu; rw [← e]; rfl))).trans hh
theorem Rd.tn {b sz n : Nat} {A : Option Addr} {xs : List Value} {w w' : World} (R : Rd w sz A n xs) (T : Tn b w w') (hA : 0 < n → ∀ ad, A = some ad → ad.block ≠ b) : Rd w' sz A n xs :=
  ⟨R.1, fun h0 => by
    obtain ⟨ad, e, hb, hc⟩ := R.2 h0
    exact ⟨ad, e, Nat.lt_of_lt_of_le hb T.size, fun j u hu => (cell_of_blk _ (T.block _ (by rw [add_block]; exact hb) (by rw [add_block]; exact hA h0 ad e))).trans (hc j u hu)⟩⟩
/-- the same, and no panic -/
def NoP (Q : Exit → Act → World → Prop) : Exit → Act → World → Prop
  | .panic _, _, _ => False
  | e, a, w => Q e a w
theorem wp_nop {P : Program} {c : Code} {Q : Exit → Act → World → Prop} {a : Act} {w : World} (h : c.wp P (NoP Q) a w) : c.wp P Q a w :=
  wp_mono h (fun e a w hq => by cases e <;> first | exact hq | exact (show False from hq).elim)
theorem at_world {P : Program} {c : Code} {Q : Exit → Act → World → Prop} {a : Act} {w : World} (h : ∀ W, Hid (W = w) → c.wp P Q a W) : c.wp P Q a w := h w rfl
/-- below B only one block has turned -/
theorem eaL_next {p : Int} {f : Int → Int → Int} {a b : List Int} {k : Nat} (h : k < a.length) (h2 : k < b.length) : (eaL p f a b).take (k + 1) = (eaL p f a b).take k ++ [f a[k] b[k] % p] := by
  rw [List.take_succ_eq_append_getElem (by rw [eaL_len]; exact h), eaL_get h]
  congr 2
  rw [List.getD_eq_getElem?_getD, List.getElem?_eq_getElem h, List.getD_eq_getElem?_getD, List.getElem?_eq_getElem h2]; rfl
theorem eaL_all {p : Int} {f : Int → Int → Int} {a b : List Int} {n : Nat} (h : a.length = n) : (eaL p f a b).take n = eaL p f a b := List.take_of_length_le (by rw [eaL_len]; omega)
/-- a row of the call's own is returned -/
def OwF (e0 : TypeId) (l : List Int) (n : Nat) (w : World) (e : Ending) (w' : World) : Prop := ∃ C g, e = .returned (.slice C n g) ∧ w'.ownsRow w.heap.size e0 1 (.slice C n g) n (intsV .i64 l) ∧ Below w.heap.size w w'
theorem takR_drop (random : List Int) (used t : Nat) : takR (random.drop used) 0 t = takR random used t := by
  unfold takR
  apply List.map_congr_left
  intro k _
  rw [Nat.zero_add, List.getD_eq_getElem?_getD, List.getD_eq_getElem?_getD, List.getElem?_drop]
theorem mulS_next (p : Int) (n t : Nat) (random prod : List Int) (used i : Nat) : mulS p n t random prod used (i + 1) = eaL p (fun o y => o + wgt p n ((i : Int) + 1) * y) (mulS p n t random prod used i) (shrL p (prod.getD i 0) (takR random (used + i * t) t) n) := rfl
end Lw
set_option linter.unusedVariables false
set_option linter.unusedSimpArgs false
namespace Go.Proofs.Ytfocpbknckmmaaa
open Go.RowKit
theorem fn_add (x y : Int)  (w : World) (h : IntKind.i64.wrap (x + y) = x + y) :
    Calls Try.prog 21 #[.int .i64 x, .int .i64 y] w fun e w' => e = .returned (.int .i64 (x + y)) ∧ w = w' := by
  go_enter Try.func21, Try.ntmps21
  go_wp2
  go_ret
  exact ⟨rfl, rfl⟩
theorem fn_mul (x y : Int)  (w : World) (h : IntKind.i64.wrap (x * y) = x * y) :
    Calls Try.prog 43 #[.int .i64 x, .int .i64 y] w fun e w' => e = .returned (.int .i64 (x * y)) ∧ w = w' := by
  go_enter Try.func43, Try.ntmps43
  go_wp2
  go_ret
  exact ⟨rfl, rfl⟩
theorem fn_sum (x y : Int) (wt : Int) (bw : Nat) (w : World) (hw : w.cell? ⟨bw, 0, none⟩ = some (.int .i64 wt)) (h1 : IntKind.i64.wrap (wt * y) = wt * y) (h2 : IntKind.i64.wrap (x + wt * y) = x + wt * y) :
    Calls Try.prog 45 #[.int .i64 x, .int .i64 y, .pointer (some ⟨bw, 0, none⟩)] w fun e w' => e = .returned (.int .i64 (x + wt * y)) ∧ w = w' := by
  go_enter Try.func45, Try.ntmps45
  go_wp2
  go_ret
  exact ⟨rfl, rfl⟩
set_option maxRecDepth 100000 in
set_option maxHeartbeats 2000000 in
theorem each_add (p : Int) (A B : Option Addr) (n c m d : Nat) (a b : List Int) (w : World) (RA : Lw.Rd w 1 A n (Lw.intsV .i64 a)) (RB : Lw.Rd w 1 B m (Lw.intsV .i64 b)) (p1 : 2 ≤ p) (p2 : p ≤ 251) (ha : ∀ x ∈ a, 0 ≤ x ∧ x < p) (hb : ∀ x ∈ b, 0 ≤ x ∧ x < p) (hn : n ≤ 60) (hm : n ≤ m)  :
    Calls Try.prog 20 #[.slice A n c, .slice B m d, .int .i64 p, .func (.func 21) #[] #[]] w (Lw.OwF 2 (Lw.eaL p (fun x y => x + y) a b) n w) := by
  have la : a.length = n := by have := RA.1; simpa [Lw.intsV] using this
  have lb : b.length = m := by have := RB.1; simpa [Lw.intsV] using this
  have EN := Lib.hid (fun k (hk : k < a.length) (hk2 : k < b.length) => Lw.eaL_next (p := p) (f := fun x y => x + y) (a := a) (b := b) hk hk2)
  have EA := Lib.hid (Lw.eaL_all (p := p) (f := fun x y => x + y) (b := b) la)
  have FX := Lib.hid (show ∀ x y : Int, 0 ≤ x → x < p → 0 ≤ y → y < p → IntKind.i64.wrap (x + y) = x + y ∧ (x + y).tmod p = (x + y) % p from fun x y x0 x1 y0 y1 => by
    have M := Lw.mulb x0 x1 y0 y1 p2
    exact ⟨by rw [IntKind.wrap_i64]; omega, Int.tmod_eq_emod_of_nonneg (by omega)⟩)
  obtain ⟨L, hL⟩ : ∃ L, Lw.eaL p (fun x y => x + y) a b = L := ⟨_, rfl⟩
  rw [hL] at EA
  simp only [hL] at EN ⊢
  clear hL
  have RA := Lib.hid RA
  have RB := Lib.hid RB
  have LA := Lib.hid la
  have LB := Lib.hid lb
  have HA := Lib.hid ha
  have HB := Lib.hid hb
  have p0 : ¬ p = 0 := by omega
  clear la lb ha hb
  go_enter Try.func20, Try.ntmps20
  go_wp2
  go_loopw [9, 10, 11, 14] (fun l _ _ i wr => ∃ k : Nat, i = .int .i64 (k : Int) ∧ k ≤ n ∧ wr.ownsRow w.heap.size 2 1 l k (Lw.intsV .i64 (L.take k)) ∧ Below w.heap.size w wr) (fun _ _ _ i _ => n - (intOf i).toNat)
  case atStart => exact ⟨0, rfl, by omega, World.ownsRow_nil _ _ _ _, Below.refl _ _⟩
  case round =>
    obtain ⟨k, rfl, hk, own, hB⟩ := hrel
    have hszr := hB.size
    by_cases hlt : k < n
    · have hka : k < a.length := by rw [LA.out]; exact hlt
      have hkb : k < b.length := by rw [LB.out]; omega
      have hlt' : (k : Int) < (n : Int) := by omega
      have hltm : (k : Int) < (m : Int) := by omega
      obtain ⟨ad, rfl, had, c0⟩ := (RA.out.below (Nat.le_refl _) hB).at1 hlt (Lw.intsV_get hka)
      obtain ⟨bd, rfl, hbd, c1⟩ := (RB.out.below (Nat.le_refl _) hB).at1 (by omega : k < m) (Lw.intsV_get hkb)
      have NX := EN.out k hka hkb
      obtain ⟨x0, x1⟩ := HA.out _ (List.getElem_mem hka)
      obtain ⟨y0, y1⟩ := HB.out _ (List.getElem_mem hkb)
      obtain ⟨x, hx⟩ : ∃ z, a[k] = z := ⟨_, rfl⟩
      obtain ⟨y, hy⟩ : ∃ z, b[k] = z := ⟨_, rfl⟩
      rw [hx, hy] at NX
      rw [hx] at c0 x0 x1
      rw [hy] at c1 y0 y1
      have E := FX.out x y x0 x1 y0 y1
      obtain ⟨e1, e2⟩ := E; have FC := Lib.hid (fn_add x y wr e1)
      clear hx hy hka hkb had hbd x0 x1 y0 y1
      have NX := Lib.hid NX
      have OWN := Lib.hid own
      clear own
      go_wp2_with (first | (with_reducible refine (FC.out).mono ?_; rintro e w1 ⟨rfl, rfl⟩) | (at_builtin; go_loud (refine Lw.wpList_app elLng rfl _ _ rfl rfl (OWN.out.alloc _) rfl (by first | exact Lw.Rd.nil _ _ _ | exact Lw.Rd.lit (Lw.blk_new' (by simp) _ _) rfl rfl | exact Lw.Rd.lit (Lw.blk_alloc (Lw.blk_new' (by simp) _ _) _) rfl rfl) (Lw.one1 _ _) (by omega) (Lw.balloc hB _) (Nat.le_refl _) (by simp; omega) ?_); intro v2 w2 own2 hb2 _ _))
      have O2 := Lib.hid own2
      clear own2
      go_wp2
      go_roundw
      case rel => exact ⟨k + 1, by go_num, by omega, by rw [NX.out, Lw.intsV_snoc'']; exact O2.out, hb2⟩
      case measure => simp [intOf]; omega
    · have hkn : k = n := by omega
      subst hkn
      rw [EA.out] at own
      obtain ⟨D, e, rfl, hg, _⟩ := Lw.ownsForm own
      have RR := Lib.hid own
      clear own
      go_wp2
      go_ret
      exact ⟨D, e, rfl, RR.out, hB⟩

set_option maxRecDepth 100000 in
set_option maxHeartbeats 2000000 in
theorem each_mul (p : Int) (A B : Option Addr) (n c m d : Nat) (a b : List Int) (w : World) (RA : Lw.Rd w 1 A n (Lw.intsV .i64 a)) (RB : Lw.Rd w 1 B m (Lw.intsV .i64 b)) (p1 : 2 ≤ p) (p2 : p ≤ 251) (ha : ∀ x ∈ a, 0 ≤ x ∧ x < p) (hb : ∀ x ∈ b, 0 ≤ x ∧ x < p) (hn : n ≤ 60) (hm : n ≤ m)  :
    Calls Try.prog 20 #[.slice A n c, .slice B m d, .int .i64 p, .func (.func 43) #[] #[]] w (Lw.OwF 2 (Lw.eaL p (fun x y => x * y) a b) n w) := by
  have la : a.length = n := by have := RA.1; simpa [Lw.intsV] using this
  have lb : b.length = m := by have := RB.1; simpa [Lw.intsV] using this
  have EN := Lib.hid (fun k (hk : k < a.length) (hk2 : k < b.length) => Lw.eaL_next (p := p) (f := fun x y => x * y) (a := a) (b := b) hk hk2)
  have EA := Lib.hid (Lw.eaL_all (p := p) (f := fun x y => x * y) (b := b) la)
  have FX := Lib.hid (show ∀ x y : Int, 0 ≤ x → x < p → 0 ≤ y → y < p → IntKind.i64.wrap (x * y) = x * y ∧ (x * y).tmod p = (x * y) % p from fun x y x0 x1 y0 y1 => by
    have M := Lw.mulb x0 x1 y0 y1 p2
    exact ⟨by rw [IntKind.wrap_i64]; omega, Int.tmod_eq_emod_of_nonneg (by omega)⟩)
  obtain ⟨L, hL⟩ : ∃ L, Lw.eaL p (fun x y => x * y) a b = L := ⟨_, rfl⟩
  rw [hL] at EA
  simp only [hL] at EN ⊢
  clear hL
  have RA := Lib.hid RA
  have RB := Lib.hid RB
  have LA := Lib.hid la
  have LB := Lib.hid lb
  have HA := Lib.hid ha
  have HB := Lib.hid hb
  have p0 : ¬ p = 0 := by omega
  clear la lb ha hb
  go_enter Try.func20, Try.ntmps20
  go_wp2
  go_loopw [9, 10, 11, 14] (fun l _ _ i wr => ∃ k : Nat, i = .int .i64 (k : Int) ∧ k ≤ n ∧ wr.ownsRow w.heap.size 2 1 l k (Lw.intsV .i64 (L.take k)) ∧ Below w.heap.size w wr) (fun _ _ _ i _ => n - (intOf i).toNat)
  case atStart => exact ⟨0, rfl, by omega, World.ownsRow_nil _ _ _ _, Below.refl _ _⟩
  case round =>
    obtain ⟨k, rfl, hk, own, hB⟩ := hrel
    have hszr := hB.size
    by_cases hlt : k < n
    · have hka : k < a.length := by rw [LA.out]; exact hlt
      have hkb : k < b.length := by rw [LB.out]; omega
      have hlt' : (k : Int) < (n : Int) := by omega
      have hltm : (k : Int) < (m : Int) := by omega
      obtain ⟨ad, rfl, had, c0⟩ := (RA.out.below (Nat.le_refl _) hB).at1 hlt (Lw.intsV_get hka)
      obtain ⟨bd, rfl, hbd, c1⟩ := (RB.out.below (Nat.le_refl _) hB).at1 (by omega : k < m) (Lw.intsV_get hkb)
      have NX := EN.out k hka hkb
      obtain ⟨x0, x1⟩ := HA.out _ (List.getElem_mem hka)
      obtain ⟨y0, y1⟩ := HB.out _ (List.getElem_mem hkb)
      obtain ⟨x, hx⟩ : ∃ z, a[k] = z := ⟨_, rfl⟩
      obtain ⟨y, hy⟩ : ∃ z, b[k] = z := ⟨_, rfl⟩
      rw [hx, hy] at NX
      rw [hx] at c0 x0 x1
      rw [hy] at c1 y0 y1
      have E := FX.out x y x0 x1 y0 y1
      obtain ⟨e1, e2⟩ := E; have FC := Lib.hid (fn_mul x y wr e1)
      clear hx hy hka hkb had hbd x0 x1 y0 y1
      have NX := Lib.hid NX
      have OWN := Lib.hid own
      clear own
      go_wp2_with (first | (with_reducible refine (FC.out).mono ?_; rintro e w1 ⟨rfl, rfl⟩) | (at_builtin; go_loud (refine Lw.wpList_app elLng rfl _ _ rfl rfl (OWN.out.alloc _) rfl (by first | exact Lw.Rd.nil _ _ _ | exact Lw.Rd.lit (Lw.blk_new' (by simp) _ _) rfl rfl | exact Lw.Rd.lit (Lw.blk_alloc (Lw.blk_new' (by simp) _ _) _) rfl rfl) (Lw.one1 _ _) (by omega) (Lw.balloc hB _) (Nat.le_refl _) (by simp; omega) ?_); intro v2 w2 own2 hb2 _ _))
      have O2 := Lib.hid own2
      clear own2
      go_wp2
      go_roundw
      case rel => exact ⟨k + 1, by go_num, by omega, by rw [NX.out, Lw.intsV_snoc'']; exact O2.out, hb2⟩
      case measure => simp [intOf]; omega
    · have hkn : k = n := by omega
      subst hkn
      rw [EA.out] at own
      obtain ⟨D, e, rfl, hg, _⟩ := Lw.ownsForm own
      have RR := Lib.hid own
      clear own
      go_wp2
      go_ret
      exact ⟨D, e, rfl, RR.out, hB⟩

set_option maxRecDepth 100000 in
set_option maxHeartbeats 2000000 in
theorem each_sum (p : Int) (A B : Option Addr) (n c m d : Nat) (a b : List Int) (w : World) (RA : Lw.Rd w 1 A n (Lw.intsV .i64 a)) (RB : Lw.Rd w 1 B m (Lw.intsV .i64 b)) (p1 : 2 ≤ p) (p2 : p ≤ 251) (ha : ∀ x ∈ a, 0 ≤ x ∧ x < p) (hb : ∀ x ∈ b, 0 ≤ x ∧ x < p) (hn : n ≤ 60) (hm : n ≤ m) (wt : Int) (bw : Nat) (hw : w.cell? ⟨bw, 0, none⟩ = some (.int .i64 wt)) (w0 : 0 ≤ wt) (w1 : wt < p) :
    Calls Try.prog 20 #[.slice A n c, .slice B m d, .int .i64 p, .func (.func 45) #[] #[.pointer (some ⟨bw, 0, none⟩)]] w (Lw.OwF 2 (Lw.eaL p (fun x y => x + wt * y) a b) n w) := by
  have la : a.length = n := by have := RA.1; simpa [Lw.intsV] using this
  have lb : b.length = m := by have := RB.1; simpa [Lw.intsV] using this
  have EN := Lib.hid (fun k (hk : k < a.length) (hk2 : k < b.length) => Lw.eaL_next (p := p) (f := fun x y => x + wt * y) (a := a) (b := b) hk hk2)
  have EA := Lib.hid (Lw.eaL_all (p := p) (f := fun x y => x + wt * y) (b := b) la)
  have FX := Lib.hid (show ∀ x y : Int, 0 ≤ x → x < p → 0 ≤ y → y < p → IntKind.i64.wrap (wt * y) = wt * y ∧ IntKind.i64.wrap (x + wt * y) = x + wt * y ∧ (x + wt * y).tmod p = (x + wt * y) % p from fun x y x0 x1 y0 y1 => by
    have M := Lw.mulb x0 x1 y0 y1 p2
    have M2 := Lw.mulb w0 w1 y0 y1 p2; exact ⟨by rw [IntKind.wrap_i64]; omega, by rw [IntKind.wrap_i64]; omega, Int.tmod_eq_emod_of_nonneg (by omega)⟩)
  obtain ⟨L, hL⟩ : ∃ L, Lw.eaL p (fun x y => x + wt * y) a b = L := ⟨_, rfl⟩
  rw [hL] at EA
  simp only [hL] at EN ⊢
  clear hL
  have RA := Lib.hid RA
  have RB := Lib.hid RB
  have LA := Lib.hid la
  have LB := Lib.hid lb
  have HA := Lib.hid ha
  have HB := Lib.hid hb
  have p0 : ¬ p = 0 := by omega
  clear la lb ha hb
  go_enter Try.func20, Try.ntmps20
  go_wp2
  go_loopw [9, 10, 11, 14] (fun l _ _ i wr => ∃ k : Nat, i = .int .i64 (k : Int) ∧ k ≤ n ∧ wr.ownsRow w.heap.size 2 1 l k (Lw.intsV .i64 (L.take k)) ∧ Below w.heap.size w wr) (fun _ _ _ i _ => n - (intOf i).toNat)
  case atStart => exact ⟨0, rfl, by omega, World.ownsRow_nil _ _ _ _, Below.refl _ _⟩
  case round =>
    obtain ⟨k, rfl, hk, own, hB⟩ := hrel
    have hszr := hB.size
    by_cases hlt : k < n
    · have hka : k < a.length := by rw [LA.out]; exact hlt
      have hkb : k < b.length := by rw [LB.out]; omega
      have hlt' : (k : Int) < (n : Int) := by omega
      have hltm : (k : Int) < (m : Int) := by omega
      obtain ⟨ad, rfl, had, c0⟩ := (RA.out.below (Nat.le_refl _) hB).at1 hlt (Lw.intsV_get hka)
      obtain ⟨bd, rfl, hbd, c1⟩ := (RB.out.below (Nat.le_refl _) hB).at1 (by omega : k < m) (Lw.intsV_get hkb)
      have NX := EN.out k hka hkb
      obtain ⟨x0, x1⟩ := HA.out _ (List.getElem_mem hka)
      obtain ⟨y0, y1⟩ := HB.out _ (List.getElem_mem hkb)
      obtain ⟨x, hx⟩ : ∃ z, a[k] = z := ⟨_, rfl⟩
      obtain ⟨y, hy⟩ : ∃ z, b[k] = z := ⟨_, rfl⟩
      rw [hx, hy] at NX
      rw [hx] at c0 x0 x1
      rw [hy] at c1 y0 y1
      have E := FX.out x y x0 x1 y0 y1
      obtain ⟨e1, e2, e3⟩ := E; have cw := (hB.cell (p := ⟨bw, 0, none⟩) (Lw.cell_lt hw)).trans hw; have FC := Lib.hid (fn_sum x y wt bw wr cw e1 e2)
      clear hx hy hka hkb had hbd x0 x1 y0 y1
      have NX := Lib.hid NX
      have OWN := Lib.hid own
      clear own
      go_wp2_with (first | (with_reducible refine (FC.out).mono ?_; rintro e w1 ⟨rfl, rfl⟩) | (at_builtin; go_loud (refine Lw.wpList_app elLng rfl _ _ rfl rfl (OWN.out.alloc _) rfl (by first | exact Lw.Rd.nil _ _ _ | exact Lw.Rd.lit (Lw.blk_new' (by simp) _ _) rfl rfl | exact Lw.Rd.lit (Lw.blk_alloc (Lw.blk_new' (by simp) _ _) _) rfl rfl) (Lw.one1 _ _) (by omega) (Lw.balloc hB _) (Nat.le_refl _) (by simp; omega) ?_); intro v2 w2 own2 hb2 _ _))
      have O2 := Lib.hid own2
      clear own2
      go_wp2
      go_roundw
      case rel => exact ⟨k + 1, by go_num, by omega, by rw [NX.out, Lw.intsV_snoc'']; exact O2.out, hb2⟩
      case measure => simp [intOf]; omega
    · have hkn : k = n := by omega
      subst hkn
      rw [EA.out] at own
      obtain ⟨D, e, rfl, hg, _⟩ := Lw.ownsForm own
      have RR := Lib.hid own
      clear own
      go_wp2
      go_ret
      exact ⟨D, e, rfl, RR.out, hB⟩

end Go.Proofs.Ytfocpbknckmmaaa
namespace Lw
open Go Go.RowKit
theorem up_same {p x : Int} {k : Nat} (h : (k : Int) + 1 = x) : upS p x (k + 1) = upS p x k := if_pos h
theorem up_next {p x : Int} {k : Nat} (h : ¬ (k : Int) + 1 = x) : upS p x (k + 1) = upS p x k * ((k : Int) + 1) % p := if_neg h
theorem dn_same {p x : Int} {k : Nat} (h : (k : Int) + 1 = x) : dnS p x (k + 1) = dnS p x k := if_pos h
theorem dn_next {p x : Int} {k : Nat} (h : ¬ (k : Int) + 1 = x) : dnS p x (k + 1) = dnS p x k * (((k : Int) + 1) - x) % p := if_neg h
end Lw
set_option linter.unusedVariables false
set_option linter.unusedSimpArgs false
namespace Go.Proofs.Ytfocpbknckmmaaa
open Go.RowKit
/-- parties, and what is left of the random numbers -/
abbrev CrwB (b : Nat) (p t n : Int) (RA : Option Addr) (rn rc : Nat) (w : World) : Prop := w.heap[b]? = some (.cells #[.int .i64 p, .int .i64 t, .int .i64 n, .slice RA rn rc] 44 (0, 0))
set_option maxRecDepth 100000 in
set_option maxHeartbeats 4000000 in
theorem crowd_weight (p t x : Int) (n b : Nat) (RA : Option Addr) (rn rc : Nat) (w : World) (hb : CrwB b p t n RA rn rc w) (p1 : 2 ≤ p) (p2 : p ≤ 251) (hp : Lw.primeB p = true) (hn : (n : Int) < p) (x0 : 1 ≤ x) (x1 : x < p) :
    Calls Try.prog 44 #[.pointer (some ⟨b, 0, none⟩), .int .i64 x] w fun e w' => e = .returned (.int .i64 (Lw.wgt p n x)) ∧ Below w.heap.size w w' := by
  have X := Lib.hid (fun W => euclid_Inverse (Lw.dnS p x n) p W)
  have c0 := Lw.blk_cell hb 0; have c1 := Lw.blk_cell hb 1; have c2 := Lw.blk_cell hb 2
  simp at c0 c1 c2
  have hlt := Lw.blk_lt hb
  have hS0 := Lw.sm_drew w
  have UB := Lib.hid (fun k => Lw.upS_bd (x := x) p1 k)
  have DB := Lib.hid (fun k => Lw.dnS_bd (x := x) p1 k)
  have p0 : ¬ p = 0 := by omega
  have dv := Lw.dnS_ne (x := x) hp p1 n hn x0 x1
  have d0 := DB.out n
  rw [Int.emod_eq_of_lt d0.1 d0.2] at dv
  have iv := Lw.inv_prime (p := p) (b := Lw.dnS p x n) hp (by omega) (by omega) d0.2
  have IB := Lib.hid iv.2
  have IE : Hid (Lw.wgt p n x = Lw.upS p x n * Lw.invR (Lw.dnS p x n) p % p) := rfl
  have U0 : Hid (Lw.upS p x 0 = 1 ∧ Lw.dnS p x 0 = 1) := ⟨rfl, rfl⟩
  clear hb dv d0 iv
  go_enter Try.func44, Try.ntmps44
  go_wp2
  go_loopw [5, 6, 7] (fun up down z wr => ∃ k : Nat, z = .int .i64 ((k : Int) + 1) ∧ k ≤ n ∧ up = .int .i64 (Lw.upS p x k) ∧ down = .int .i64 (Lw.dnS p x k) ∧ Below w.heap.size w wr) (fun _ _ z _ => n + 1 - (intOf z).toNat)
  case atStart => exact ⟨0, rfl, by omega, by rw [U0.out.1], by rw [U0.out.2], Below.refl _ _⟩
  case round =>
    obtain ⟨k, rfl, hk, rfl, rfl, hB⟩ := hrel
    have q0 := (hB.cell (p := ⟨b, 0, none⟩) hlt).trans c0
    have q2 := (hB.cell (p := ⟨b, 2, none⟩) hlt).trans c2
    by_cases hlt : k < n
    · have hle : (k : Int) + 1 ≤ (n : Int) := by omega
      by_cases e : (k : Int) + 1 = x
      · have N1 := Lib.hid (Lw.up_same (p := p) e)
        have N2 := Lib.hid (Lw.dn_same (p := p) e)
        have z1 : (((k : Int) + 1) != x) = false := by simp [e]
        generalize Lw.upS p x k = U at *
        generalize Lw.dnS p x k = D at *
        go_wp2
        go_roundw
        case rel => exact ⟨k + 1, by go_num, by omega, by rw [N1.out], by rw [N2.out], hB⟩
        case measure => simp [intOf]; omega
      · have N1 := Lib.hid (Lw.up_next (p := p) e)
        have N2 := Lw.dn_next (p := p) e
        have z1 : (((k : Int) + 1) != x) = true := by simp [e]
        have ub := UB.out k
        have db := DB.out k
        generalize Lw.upS p x k = U at *
        generalize Lw.dnS p x k = D at *
        obtain ⟨m1, m2⟩ := Lw.mulb ub.1 ub.2 (by omega : 0 ≤ (k : Int) + 1) (by omega) p2
        obtain ⟨d, hd⟩ : ∃ d, (k : Int) + 1 - x = d := ⟨_, rfl⟩
        have m3 : -63001 ≤ D * d ∧ D * d ≤ 63001 := by
          have h1 : D * d ≤ D * 251 := Int.mul_le_mul_of_nonneg_left (by omega) db.1
          have h2 : D * (-251) ≤ D * d := Int.mul_le_mul_of_nonneg_left (by omega) db.1
          omega
        have e1 : IntKind.i64.wrap (U * ((k : Int) + 1)) = U * ((k : Int) + 1) := by rw [IntKind.wrap_i64]; omega
        have e2 : (U * ((k : Int) + 1)).tmod p = U * ((k : Int) + 1) % p := Int.tmod_eq_emod_of_nonneg m1
        have e3 : IntKind.i64.wrap ((k : Int) + 1 - x) = d := by rw [IntKind.wrap_i64]; omega
        have e4 : IntKind.i64.wrap (D * d) = D * d := by rw [IntKind.wrap_i64]; omega
        rw [hd] at N2
        replace N2 := Lib.hid N2
        go_wp2
        go_quiet ((go_at_call 68; exact Lw.quiet (euclid_Mod _ _ _ (by omega) (by omega))))
        go_wp2
        go_roundw
        case rel => exact ⟨k + 1, by go_num, by omega, by rw [N1.out], by rw [N2.out], by (repeat (first | exact Below.refl _ _ | refine Lw.bt ?_ (by assumption) | refine Lw.balloc ?_ _ | refine Lw.bdrewN ?_ _ | refine Below.drew ?_ | refine Lw.bset ?_ (by first | (simp; done) | (simp; omega) | omega) _))⟩
        case measure => simp [intOf]; omega
    · have hkn : k = n := by omega
      subst hkn
      have hle : ¬ (k : Int) + 1 ≤ (k : Int) := by omega
      have ub := UB.out k
      have ib := IB.out
      obtain ⟨m1, m2⟩ := Lw.mulb ub.1 ub.2 ib.1 ib.2 p2
      clear IB
      generalize Lw.invR (Lw.dnS p x k) p = I at *
      generalize Lw.upS p x k = U at *
      have e1 : IntKind.i64.wrap (U * I) = U * I := by rw [IntKind.wrap_i64]; omega
      have e2 : (U * I).tmod p = U * I % p := Int.tmod_eq_emod_of_nonneg m1
      go_wp2_with (go_at_call 69; go_loud ((with_reducible refine (X.out _).mono ?_); rintro e w1 ⟨rfl, hb1⟩); have r0 := (hb1.cell (p := ⟨b, 0, none⟩) (show b < wr.heap.size by have := hB.size; omega)).trans q0)
      go_ret
      exact ⟨Lw.ret_int IE.out.symm, Lw.bt hB hb1⟩
end Go.Proofs.Ytfocpbknckmmaaa
