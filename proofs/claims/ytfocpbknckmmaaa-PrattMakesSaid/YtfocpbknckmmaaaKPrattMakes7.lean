/-
  What goes through points, by Newton's way and by Lagrange's: the same (plain).
  What is wrong with points: poly.wrong (a map of counts), the reference's PointsCheck.
  The reference's PointsCheck.
  The primes that are needed for a prime, and the lines of its proof, plain.
  poly.Through: Newton's way walked.
  What points have in common at 0: products of quotients (plain).
  share.Split and the reference's Split: values of a polynomial at 1, 2, ..
  The reference's Split and Points.
  share.Join walked: the value at 0 of what goes through the points.
  The reference's JoinCheck and Join walked.
  parts.Open: what all know together.
  Package parts, plain: shares of values; the weight of a party's share; what gates are worth in shares.
  One block has turned (package parts).
  pratt.factors and pratt.need: a map of what is needed.
  pratt.need: what is needed, in a map.
-/
import Derived.Test.YtfocpbknckmmaaaKPrattMakes5
import Derived.Test.YtfocpbknckmmaaaKPrattMakes1
import Derived.Test.YtfocpbknckmmaaaKPrattMakes6
import Derived.Test.YtfocpbknckmmaaaKPrattMakes0
import Derived.Test.YtfocpbknckmmaaaKPrattMakes3
import Derived.Maps.OwnSet
namespace Lw
abbrev PtT := Int × Int
def ptG (L : List PtT) (k : Nat) : PtT := L.getD k (0, 0)
def PtsOk (p : Int) (L : List PtT) : Prop := (∀ r ∈ L, (0 ≤ r.1 ∧ r.1 < p) ∧ 0 ≤ r.2 ∧ r.2 < p) ∧ ∀ i j, i < j → j < L.length → (ptG L i).1 ≠ (ptG L j).1
theorem ptG_at {L : List PtT} {k : Nat} (h : k < L.length) : ptG L k = L[k] := by unfold ptG; rw [List.getD_eq_getElem?_getD, List.getElem?_eq_getElem h]; rfl
theorem PtsOk.bd {p : Int} {L : List PtT} (h : PtsOk p L) {k : Nat} (hk : k < L.length) : (0 ≤ (ptG L k).1 ∧ (ptG L k).1 < p) ∧ 0 ≤ (ptG L k).2 ∧ (ptG L k).2 < p := by
  rw [ptG_at hk]; exact h.1 _ (List.getElem_mem hk)
theorem PtsOk.ne {p : Int} {L : List PtT} (h : PtsOk p L) {i j : Nat} (hi : i < L.length) (hj : j < L.length) (e : i ≠ j) : ((ptG L i).1 - (ptG L j).1) % p ≠ 0 := by
  intro h0
  have a := (h.bd hi).1; have b := (h.bd hj).1
  have h5 := Int.emod_eq_emod_iff_emod_sub_eq_zero.2 h0
  rw [Int.emod_eq_of_lt a.1 a.2, Int.emod_eq_of_lt b.1 b.2] at h5
  rcases Nat.lt_or_gt_of_ne e with h1 | h1
  · exact h.2 i j h1 hj h5
  · exact h.2 j i h1 hi h5.symm
def gapK (p : Int) (a z : List Int) (P : PtT) : Int := (P.2 - hornV p a P.1) % p * invR (hornV p z P.1) p % p
/-- Newton's way: what goes through the first k, and what is 0 at them -/
def nst (p : Int) (L : List PtT) : Nat → List Int × List Int
  | 0 => ([], [1])
  | k + 1 => (plusL p (nst p L k).1 (nst p L k).2 (gapK p (nst p L k).1 (nst p L k).2 (ptG L k)) 0, timesK p (nst p L k).2 [(-(ptG L k).1) % p, 1] (nst p L k).2.length)
/-- Lagrange's: what is 0 at the first j but at i -/
def lsK (p : Int) (L : List PtT) (i j : Nat) : Int := invR (((ptG L i).1 - (ptG L j).1) % p) p
def lsF (p : Int) (L : List PtT) (i j : Nat) : List Int := trimL [(-(ptG L j).1 * lsK p L i j) % p, lsK p L i j]
def lst (p : Int) (L : List PtT) (i : Nat) : Nat → List Int
  | 0 => [(ptG L i).2]
  | j + 1 => if j = i then lst p L i j else timesK p (trimL (lst p L i j)) (lsF p L i j) (trimL (lst p L i j)).length
def sst (p : Int) (L : List PtT) : Nat → List Int
  | 0 => []
  | k + 1 => plusL p (sst p L k) (trimL (lst p L k L.length)) 1 0
theorem horn_at {p x : Int} (x0 : 0 ≤ x) (x1 : x < p) (zs : List Int) : hornV p zs x = evalI zs x % p := by
  rw [← horn_eval, Int.emod_eq_of_lt x0 x1]
theorem plusL_trim (p : Int) (a b : List Int) (κ : Int) (u : Nat) : trimL (plusL p a b κ u) = plusL p a b κ u := trim_trim _
def NewI (p : Int) (L : List PtT) (k : Nat) : Prop :=
  (∀ x ∈ (nst p L k).1, 0 ≤ x ∧ x < p) ∧ (∀ x ∈ (nst p L k).2, 0 ≤ x ∧ x < p) ∧ (nst p L k).1.length ≤ k ∧ (nst p L k).2.length ≤ k + 1 ∧ trimL (nst p L k).1 = (nst p L k).1 ∧
  (∀ i, i < k → evalI (nst p L k).1 (ptG L i).1 % p = (ptG L i).2) ∧ (∀ i, i < k → evalI (nst p L k).2 (ptG L i).1 % p = 0) ∧ ∀ i, k ≤ i → i < L.length → evalI (nst p L k).2 (ptG L i).1 % p ≠ 0
theorem new_zero {p : Int} (p1 : 2 ≤ p) (L : List PtT) : NewI p L 0 :=
  ⟨fun x h => by simp [nst] at h, fun x h => (by simp [nst] at h; omega), Nat.le_refl _, Nat.le_refl _, rfl, fun i h => by omega, fun i h => by omega, fun i _ _ => by
    show (0 * _ + 1) % p ≠ 0
    rw [Int.zero_mul, Int.zero_add, Int.emod_eq_of_lt (by omega) (by omega)]; omega⟩
theorem gap_bd {p : Int} (hp : 0 < p) (a z : List Int) (P : PtT) : 0 ≤ gapK p a z P ∧ gapK p a z P < p := ⟨Int.emod_nonneg _ (by omega), Int.emod_lt_of_pos _ hp⟩
theorem lin_at (p X x : Int) : evalI [(-X) % p, 1] x % p = (x - X) % p := by
  rw [eval_two, Int.add_emod, Int.emod_emod_of_dvd _ (Int.dvd_refl p), ← Int.add_emod]
  congr 1; omega
theorem gap_hits {p A B Y i : Int} (hi : i * B % p = 1 % p) : (A + (Y - A) % p * i % p * B) % p = Y % p := by
  obtain ⟨q1, h1⟩ := emod_q (Y - A) p
  obtain ⟨q2, h2⟩ := emod_q ((Y - A) % p * i) p
  have h3 : p ∣ i * B - 1 := Int.dvd_of_emod_eq_zero (Int.emod_eq_emod_iff_emod_sub_eq_zero.1 hi)
  obtain ⟨q3, h3⟩ := h3
  rw [h2, h1]
  have e : A + ((Y - A - p * q1) * i - p * q2) * B = Y + p * ((Y - A) * q3 - q1 * (i * B) - q2 * B) := by grind
  rw [e, Int.add_mul_emod_self_left]
theorem add_mul_mod (A κ B p : Int) : (A + κ * B) % p = (A % p + κ * (B % p)) % p := by
  obtain ⟨q1, h1⟩ := emod_q A p
  obtain ⟨q2, h2⟩ := emod_q B p
  rw [h1, h2, show A - p * q1 + κ * (B - p * q2) = A + κ * B + p * (-q1 - κ * q2) by grind, Int.add_mul_emod_self_left]
theorem new_next {p : Int} (p1 : 2 ≤ p) (p2 : p ≤ 251) (hp : primeB p = true) {L : List PtT} (hL : PtsOk p L) {k : Nat} (hk : k < L.length) (h : NewI p L k) : NewI p L (k + 1) := by
  obtain ⟨h1, h2, h3, h4, h5, h6, h7, h8⟩ := h
  obtain ⟨⟨x0, x1⟩, y0, y1⟩ := hL.bd hk
  have hn : nst p L (k + 1) = (plusL p (nst p L k).1 (nst p L k).2 (gapK p (nst p L k).1 (nst p L k).2 (ptG L k)) 0, timesK p (nst p L k).2 [(-(ptG L k).1) % p, 1] (nst p L k).2.length) := rfl
  unfold NewI
  rw [hn]
  have hB := h8 k (Nat.le_refl _) hk
  have lin : ∀ i, evalI (timesK p (nst p L k).2 [(-(ptG L k).1) % p, 1] (nst p L k).2.length) (ptG L i).1 % p = (evalI (nst p L k).2 (ptG L i).1 * ((ptG L i).1 - (ptG L k).1)) % p := fun i => by
    rw [eval_times, Int.mul_emod, lin_at, ← Int.mul_emod]
  refine ⟨plusL_bd (by omega), timesK_bd (by omega) _, ?_, ?_, plusL_trim _ _ _ _ _, fun i hi => ?_, fun i hi => ?_, fun i hi hl => ?_⟩
  · have := plusL_len (p := p) (a := (nst p L k).1) (b := (nst p L k).2) (κ := gapK p (nst p L k).1 (nst p L k).2 (ptG L k)) (u := 0)
    simp only; omega
  · have := times_short (p := p) (a := (nst p L k).2) (b := [(-(ptG L k).1) % p, 1]) (nst p L k).2.length
    simp at this ⊢; omega
  · simp only
    rw [eval_plus, Int.pow_zero, Int.one_mul]
    by_cases e : i = k
    · subst e
      have b0 := Int.emod_nonneg (evalI (nst p L i).2 (ptG L i).1) (by omega : p ≠ 0)
      have b1 := Int.emod_lt_of_pos (evalI (nst p L i).2 (ptG L i).1) (by omega : 0 < p)
      have hi := (inv_prime hp (by omega) (by omega) b1).1
      unfold gapK
      rw [horn_at x0 x1, horn_at x0 x1]
      have := gap_hits (A := evalI (nst p L i).1 (ptG L i).1 % p) (Y := (ptG L i).2) hi
      rw [Int.emod_eq_of_lt y0 y1] at this
      rw [add_mul_mod]
      exact this
    · rw [Int.add_emod, Int.mul_emod, h7 i (by omega), h6 i (by omega)]
      obtain ⟨_, w0, w1⟩ := hL.bd (show i < L.length by omega)
      simp only [Int.mul_zero, Int.zero_emod, Int.add_zero]
      exact Int.emod_eq_of_lt w0 w1
  · simp only
    rw [lin i]
    by_cases e : i = k
    · subst e; simp
    · rw [Int.mul_emod, h7 i (by omega)]; simp
  · simp only
    rw [lin i]
    intro h0
    rcases pri_mul hp h0 with h9 | h9
    · exact h8 i (by omega) hl h9
    · exact hL.ne hl hk (by omega) h9
theorem new_all {p : Int} (p1 : 2 ≤ p) (p2 : p ≤ 251) (hp : primeB p = true) {L : List PtT} (hL : PtsOk p L) : ∀ k, k ≤ L.length → NewI p L k
  | 0, _ => new_zero p1 L
  | k + 1, h => new_next p1 p2 hp hL (by omega) (new_all p1 p2 hp hL k (by omega))
theorem lsK_ok {p : Int} (p1 : 2 ≤ p) (p2 : p ≤ 251) (hp : primeB p = true) {L : List PtT} (hL : PtsOk p L) {i j : Nat} (hi : i < L.length) (hj : j < L.length) (e : j ≠ i) :
    lsK p L i j * ((ptG L i).1 - (ptG L j).1) % p = 1 % p ∧ 0 ≤ lsK p L i j ∧ lsK p L i j < p := by
  have h0 := hL.ne hi hj (fun h => e h.symm)
  have b0 := Int.emod_nonneg ((ptG L i).1 - (ptG L j).1) (by omega : p ≠ 0)
  have b1 := Int.emod_lt_of_pos ((ptG L i).1 - (ptG L j).1) (by omega : 0 < p)
  have h1 := inv_prime (b := ((ptG L i).1 - (ptG L j).1) % p) hp (by omega) (by omega) b1
  unfold lsK
  refine ⟨?_, h1.2⟩
  rw [← h1.1, Int.mul_emod, Int.mul_emod (invR _ p) (_ % p), Int.emod_emod_of_dvd _ (Int.dvd_refl p)]
theorem lsF_bd {p : Int} (p1 : 2 ≤ p) (p2 : p ≤ 251) (hp : primeB p = true) {L : List PtT} (hL : PtsOk p L) {i j : Nat} (hi : i < L.length) (hj : j < L.length) (e : j ≠ i) : (∀ x ∈ lsF p L i j, 0 ≤ x ∧ x < p) ∧ (lsF p L i j).length ≤ 2 := by
  obtain ⟨_, k1, k2⟩ := lsK_ok p1 p2 hp hL hi hj e
  refine ⟨fun x hx => ?_, Nat.le_trans (trim_len _) (Nat.le_refl _)⟩
  have := trim_mem hx
  simp at this
  rcases this with rfl | rfl
  · exact ⟨Int.emod_nonneg _ (by omega), Int.emod_lt_of_pos _ (by omega)⟩
  · exact ⟨k1, k2⟩
def LagI (p : Int) (L : List PtT) (i j : Nat) : Prop :=
  (∀ x ∈ lst p L i j, 0 ≤ x ∧ x < p) ∧ (lst p L i j).length ≤ 1 + (if i < j then j - 1 else j) ∧ evalI (lst p L i j) (ptG L i).1 % p = (ptG L i).2 ∧ ∀ m, m < j → m ≠ i → evalI (lst p L i j) (ptG L m).1 % p = 0
theorem lag_next {p : Int} (p1 : 2 ≤ p) (p2 : p ≤ 251) (hp : primeB p = true) {L : List PtT} (hL : PtsOk p L) {i j : Nat} (hi : i < L.length) (hj : j < L.length) (h : LagI p L i j) : LagI p L i (j + 1) := by
  obtain ⟨h1, h2, h3, h4⟩ := h
  unfold LagI
  by_cases e : j = i
  · have hl : lst p L i (j + 1) = lst p L i j := if_pos e
    rw [hl]
    refine ⟨h1, ?_, h3, fun m hm hme => h4 m (by omega) hme⟩
    subst e
    rw [if_pos (by omega)]; rw [if_neg (by omega)] at h2; omega
  · have hl : lst p L i (j + 1) = timesK p (trimL (lst p L i j)) (lsF p L i j) (trimL (lst p L i j)).length := if_neg e
    obtain ⟨k0, k1, k2⟩ := lsK_ok p1 p2 hp hL hi hj e
    have f2 := (lsF_bd p1 p2 hp hL hi hj e).2
    have ev : ∀ m, evalI (lst p L i (j + 1)) (ptG L m).1 % p = (evalI (lst p L i j) (ptG L m).1 * (lsK p L i j * ((ptG L m).1 - (ptG L j).1))) % p := fun m => by
      rw [hl, eval_times, eval_trim]
      unfold lsF
      rw [eval_trim, eval_two, Int.mul_emod, Int.add_emod, Int.emod_emod_of_dvd _ (Int.dvd_refl p), ← Int.add_emod, ← Int.mul_emod]
      congr 1; grind
    refine ⟨?_, ?_, ?_, fun m hm hme => ?_⟩
    · rw [hl]; exact timesK_bd (by omega) _
    · have := times_short (p := p) (a := trimL (lst p L i j)) (b := lsF p L i j) (trimL (lst p L i j)).length
      have h5 := trim_len (lst p L i j)
      rw [hl]
      by_cases hij : i < j
      · rw [if_pos hij] at h2; rw [if_pos (by omega)]; omega
      · rw [if_neg hij] at h2; rw [if_neg (by omega)]; omega
    · rw [ev, Int.mul_emod, h3, k0]
      obtain ⟨_, w0, w1⟩ := hL.bd hi
      have : (ptG L i).2 * (1 % p) % p = (ptG L i).2 := by
        rw [Int.emod_eq_of_lt (by omega : (0 : Int) ≤ 1) (by omega), Int.mul_one]; exact Int.emod_eq_of_lt w0 w1
      exact this
    · rw [ev]
      by_cases em : m = j
      · subst em; simp
      · rw [Int.mul_emod, h4 m (by omega) hme]; simp
theorem lag_all {p : Int} (p1 : 2 ≤ p) (p2 : p ≤ 251) (hp : primeB p = true) {L : List PtT} (hL : PtsOk p L) {i : Nat} (hi : i < L.length) : ∀ j, j ≤ L.length → LagI p L i j
  | 0, _ => by
    obtain ⟨_, w0, w1⟩ := hL.bd hi
    refine ⟨fun x hx => ?_, by simp [lst], ?_, fun m hm => by omega⟩
    · simp [lst] at hx; subst hx; exact ⟨w0, w1⟩
    · show (0 * _ + (ptG L i).2) % p = _
      rw [Int.zero_mul, Int.zero_add]; exact Int.emod_eq_of_lt w0 w1
  | j + 1, h => lag_next p1 p2 hp hL hi (by omega) (lag_all p1 p2 hp hL hi j (by omega))
theorem sum_all {p : Int} (p1 : 2 ≤ p) (p2 : p ≤ 251) (hp : primeB p = true) {L : List PtT} (hL : PtsOk p L) : ∀ k, k ≤ L.length → (∀ x ∈ sst p L k, 0 ≤ x ∧ x < p) ∧ (sst p L k).length ≤ L.length ∧ trimL (sst p L k) = sst p L k ∧ ∀ m, m < L.length → evalI (sst p L k) (ptG L m).1 % p = if m < k then (ptG L m).2 else 0
  | 0, _ => ⟨fun x h => by simp [sst] at h, Nat.zero_le _, rfl, fun m _ => by simp [sst, evalI]⟩
  | k + 1, h => by
    obtain ⟨h1, h2, h3, h4⟩ := sum_all p1 p2 hp hL k (by omega)
    obtain ⟨l1, l2, l3, l4⟩ := lag_all p1 p2 hp hL (show k < L.length by omega) L.length (Nat.le_refl _)
    refine ⟨plusL_bd (by omega), ?_, plusL_trim _ _ _ _ _, fun m hm => ?_⟩
    · have := plusL_len (p := p) (a := sst p L k) (b := trimL (lst p L k L.length)) (κ := 1) (u := 0)
      have h5 := trim_len (lst p L k L.length)
      rw [if_pos (by omega)] at l2
      show (plusL p (sst p L k) (trimL (lst p L k L.length)) 1 0).length ≤ _
      omega
    · show evalI (plusL p (sst p L k) (trimL (lst p L k L.length)) 1 0) _ % p = _
      rw [eval_plus, eval_trim, Int.pow_zero, Int.one_mul, Int.one_mul, Int.add_emod, h4 m hm]
      obtain ⟨_, w0, w1⟩ := hL.bd hm
      by_cases e : m = k
      · subst e
        rw [l3, if_neg (by omega), if_pos (by omega), Int.zero_add]; exact Int.emod_eq_of_lt w0 w1
      · rw [l4 m hm e, Int.add_zero]
        by_cases e2 : m < k
        · rw [if_pos e2, if_pos (by omega)]; exact Int.emod_eq_of_lt w0 w1
        · rw [if_neg e2, if_neg (by omega)]; simp
theorem thr_eq {p : Int} (p1 : 2 ≤ p) (p2 : p ≤ 251) (hp : primeB p = true) {L : List PtT} (hL : PtsOk p L) : (nst p L L.length).1 = sst p L L.length := by
  obtain ⟨h1, _, h3, _, h5, h6, _⟩ := new_all p1 p2 hp hL L.length (Nat.le_refl _)
  obtain ⟨s1, s2, s3, s4⟩ := sum_all p1 p2 hp hL L.length (Nat.le_refl _)
  have hl : (L.map Prod.fst).length = L.length := by simp
  refine same_poly hp (xs := L.map Prod.fst) h1 s1 (by omega) (by rw [hl]; exact h3) (by rw [hl]; exact s2) h5 s3 ?_ fun x hx => ?_
  · rw [List.pairwise_iff_getElem]
    intro i j hi hj hij
    have e := hL.ne (by simpa using hj) (by simpa using hi) (by omega : j ≠ i)
    rw [ptG_at (by simpa using hj), ptG_at (by simpa using hi)] at e
    simpa using e
  · obtain ⟨r, hr, rfl⟩ := List.mem_map.1 hx
    obtain ⟨i, hi, rfl⟩ := List.getElem_of_mem hr
    rw [← ptG_at hi, h6 i hi, s4 i hi, if_pos hi]
end Lw
namespace Lw
open Go Go.RowKit Go.Maps
def outP (p : Int) (r : PtT) : Bool := decide (r.1 < 0) || decide (p ≤ r.1) || decide (r.2 < 0) || decide (p ≤ r.2)
open Classical in
noncomputable def ptsE (p : Int) (L : List PtT) : Int := if ¬ pprE p = 0 then pprE p else if 13 < L.length then 1 else if L.any (outP p) = true then 2 else if DupP (L.map Prod.fst) L.length then 4 else 0
theorem pts_p {p : Int} {L : List PtT} (h : ¬ pprE p = 0) : ptsE p L = pprE p := if_pos h
theorem pts_len {p : Int} {L : List PtT} (h : pprE p = 0) (h1 : 13 < L.length) : ptsE p L = 1 := by unfold ptsE; rw [if_neg (by simp [h]), if_pos h1]
theorem pts_out {p : Int} {L : List PtT} (h : pprE p = 0) (h1 : ¬ 13 < L.length) {k : Nat} (hk : k < L.length) (ho : outP p L[k] = true) : ptsE p L = 2 := by
  unfold ptsE; rw [if_neg (by simp [h]), if_neg h1, if_pos (List.any_eq_true.2 ⟨_, List.getElem_mem hk, ho⟩)]
theorem noOut {p : Int} {L : List PtT} (h : ∀ k (hk : k < L.length), outP p L[k] = false) : ¬ L.any (outP p) = true := by
  intro ha
  obtain ⟨r, hr, h1⟩ := List.any_eq_true.1 ha
  obtain ⟨i, hi, rfl⟩ := List.getElem_of_mem hr
  rw [h i hi] at h1; cases h1
theorem pts_dup {p : Int} {L : List PtT} (h : pprE p = 0) (h1 : ¬ 13 < L.length) (h2 : ∀ k (hk : k < L.length), outP p L[k] = false) (h3 : DupP (L.map Prod.fst) L.length) : ptsE p L = 4 := by
  unfold ptsE; rw [if_neg (by simp [h]), if_neg h1, if_neg (noOut h2), if_pos h3]
theorem pts_zero {p : Int} {L : List PtT} (h : pprE p = 0) (h1 : ¬ 13 < L.length) (h2 : ∀ k (hk : k < L.length), outP p L[k] = false) (h3 : ¬ DupP (L.map Prod.fst) L.length) : ptsE p L = 0 := by
  unfold ptsE; rw [if_neg (by simp [h]), if_neg h1, if_neg (noOut h2), if_neg h3]
theorem outP_no {p x y : Int} (h : outP p (x, y) = false) : 0 ≤ x ∧ x < p ∧ 0 ≤ y ∧ y < p := by
  unfold outP at h; simp at h; omega
theorem outP_yes {p x y : Int} (h : outP p (x, y) = true) : x < 0 ∨ p ≤ x ∨ y < 0 ∨ p ≤ y := by
  unfold outP at h; simp at h; omega
theorem fst_getD {L : List PtT} {k : Nat} : (L.map Prod.fst).getD k 0 = (ptG L k).1 := by
  unfold ptG
  rw [List.getD_eq_getElem?_getD, List.getD_eq_getElem?_getD, List.getElem?_map]
  cases L[k]? <;> rfl
theorem pts_ok {p : Int} {L : List PtT} (h : ptsE p L = 0) : pprE p = 0 ∧ L.length ≤ 13 ∧ PtsOk p L := by
  by_cases h0 : pprE p = 0
  · by_cases h1 : 13 < L.length
    · rw [pts_len h0 h1] at h; cases h
    · by_cases h2 : ∀ k (hk : k < L.length), outP p L[k] = false
      · by_cases h3 : DupP (L.map Prod.fst) L.length
        · rw [pts_dup h0 h1 h2 h3] at h; cases h
        · refine ⟨h0, by omega, fun r hr => ?_, fun i j hij hj e => h3 ⟨j, i, hij, hj, by rw [fst_getD, fst_getD]; exact e.symm⟩⟩
          obtain ⟨i, hi, rfl⟩ := List.getElem_of_mem hr
          have := outP_no (h2 i hi)
          exact ⟨⟨this.1, this.2.1⟩, this.2.2⟩
      · obtain ⟨k, hk⟩ := Classical.not_forall.1 h2
        obtain ⟨hk, ho⟩ := Classical.not_forall.1 hk
        rw [pts_out h0 h1 hk (by simpa using ho)] at h; cases h
  · rw [pts_p h0] at h; exact absurd h h0
/-- none of the first k is out of bounds -/
def InK (p : Int) (L : List PtT) (k : Nat) : Prop := ∀ i (hi : i < L.length), i < k → outP p L[i] = false
theorem inK_next {p : Int} {L : List PtT} {k : Nat} (hk : k < L.length) (h : InK p L k) (h1 : outP p L[k] = false) : InK p L (k + 1) := fun i hi hik => by
  by_cases e : i = k
  · subst e; exact h1
  · exact h i hi (by omega)
theorem pairsV_len {k l : IntKind} {L : List PtT} {w : World} {A : Option Addr} {n : Nat} (R : Rd w 2 A n (pairsV k l L)) : L.length = n := by have := R.1; rw [pairsV_length] at this; omega
end Lw
set_option linter.unusedVariables false
set_option linter.unusedSimpArgs false
namespace Go.Proofs.Ytfocpbknckmmaaa
open Go.RowKit
open Go.Maps
end Go.Proofs.Ytfocpbknckmmaaa
set_option linter.unusedVariables false
set_option linter.unusedSimpArgs false
namespace Go.Proofs.Ytfocpbknckmmaaa
open Go.RowKit
end Go.Proofs.Ytfocpbknckmmaaa
set_option linter.unusedVariables false
namespace Lw
open Go Go.RowKit
/-- numbers as they stand in memory -/
def cN (l : List Nat) : List Int := l.map fun d : Nat => (d : Int)
theorem cN_len (l : List Nat) : (cN l).length = l.length := by simp [cN]
theorem cN_snoc (l : List Nat) (x : Nat) : cN (l ++ [x]) = cN l ++ [(x : Int)] := by simp [cN]
theorem cN_get {l : List Nat} {i : Nat} (h : i < l.length) : (cN l)[i]'(by rw [cN_len]; exact h) = (l[i] : Int) := by simp [cN]
/-- the primes of a number -/
def fq (n : Nat) : List Nat := (fac n).map (·.1)
theorem facN_mem : ∀ (k n : Nat), n ≤ k → ∀ x ∈ fac n, Prime x.1 ∧ x.1 ∣ n ∧ 0 < n
  | 0, n, h, x, hx => by rw [fac_small (by omega)] at hx; cases hx
  | k + 1, n, h, x, hx => by
    by_cases h2 : 2 ≤ n
    · rw [fac_cons h2] at hx
      obtain ⟨m2, md, _⟩ := minFac_spec h2
      rcases List.mem_cons.1 hx with rfl | hx
      · exact ⟨minFac_prime h2, md, by omega⟩
      · have hl := strip_lt m2 (by omega) (Nat.mod_eq_zero_of_dvd md) (n := n)
        obtain ⟨p1, p2, p3⟩ := facN_mem k _ (by omega) x hx
        exact ⟨p1, Nat.dvd_trans p2 (strip_dvd m2 (by omega)), by omega⟩
    · rw [fac_small (by omega)] at hx; cases hx
theorem fq_mem {n q : Nat} (h : q ∈ fq n) : Prime q ∧ q ∣ n ∧ 0 < n := by
  obtain ⟨x, hx, rfl⟩ := List.mem_map.1 h
  exact facN_mem n n (Nat.le_refl _) x hx
theorem fq_lt {p q : Nat} (h : q ∈ fq (p - 1)) : q < p ∧ 2 ≤ q := by
  obtain ⟨a, b, c⟩ := fq_mem h
  have := Nat.le_of_dvd c b
  exact ⟨by omega, a.1⟩
/-- what is needed, found depth first -/
def dfs : Nat → Nat → List Nat → List Nat
  | 0, _, K => K
  | f + 1, p, K => if p ∈ K then K else (fq (p - 1)).foldl (fun K q => dfs f q K) (K ++ [p])
def dfsL (f : Nat) (qs : List Nat) (K : List Nat) : List Nat := qs.foldl (fun K q => dfs f q K) K
theorem dfs_in {f p : Nat} {K : List Nat} (h : p ∈ K) : dfs (f + 1) p K = K := if_pos h
theorem dfs_out {f p : Nat} {K : List Nat} (h : ¬ p ∈ K) : dfs (f + 1) p K = dfsL f (fq (p - 1)) (K ++ [p]) := if_neg h
theorem dfsL_cons (f q : Nat) (qs K : List Nat) : dfsL f (q :: qs) K = dfsL f qs (dfs f q K) := rfl
theorem dfsL_snoc (f q : Nat) (qs K : List Nat) : dfsL f (qs ++ [q]) K = dfs f q (dfsL f qs K) := by unfold dfsL; rw [List.foldl_append]; rfl
theorem dfsL_take {f : Nat} {qs K : List Nat} {i : Nat} (h : i < qs.length) : dfsL f (qs.take (i + 1)) K = dfs f qs[i] (dfsL f (qs.take i) K) := by rw [List.take_succ_eq_append_getElem h, dfsL_snoc]
/-- what a call leaves -/
structure DfR (f p : Nat) (qs K K' : List Nat) : Prop where
  sub : ∀ z ∈ K, z ∈ K'
  nd : K.Nodup → K'.Nodup
  new : ∀ z ∈ K', z ∈ K ∨ (Prime z ∧ z ≤ p ∧ ∀ q ∈ fq (z - 1), q ∈ K')
  got : ∀ q ∈ qs, q ∈ K'
theorem DfR.refl (f p : Nat) (K : List Nat) : DfR f p [] K K := ⟨fun _ h => h, fun h => h, fun _ h => .inl h, fun _ h => (by cases h)⟩
theorem dfr_list {f p : Nat} (ih : ∀ q K, q ≤ p → Prime q → q ≤ f → DfR f q [q] K (dfs f q K)) : ∀ (qs K : List Nat), (∀ q ∈ qs, q ≤ p ∧ Prime q ∧ q ≤ f) → DfR f p qs K (dfsL f qs K)
  | [], K, _ => DfR.refl f p K
  | q :: qs, K, h => by
    obtain ⟨a1, a2, a3⟩ := h q (by simp)
    have h1 := ih q K a1 a2 a3
    have h2 := dfr_list ih qs (dfs f q K) (fun q hq => h q (List.mem_cons_of_mem _ hq))
    rw [dfsL_cons]
    refine ⟨fun z hz => h2.sub z (h1.sub z hz), fun hn => h2.nd (h1.nd hn), fun z hz => ?_, fun r hr => ?_⟩
    · rcases h2.new z hz with hz | hz
      · rcases h1.new z hz with hz | ⟨b1, b2, b3⟩
        · exact .inl hz
        · exact .inr ⟨b1, by omega, fun q hq => h2.sub q (b3 q hq)⟩
      · exact .inr hz
    · rcases List.mem_cons.1 hr with rfl | hr
      · exact h2.sub _ (h1.got _ (by simp))
      · exact h2.got r hr
theorem dfr_one : ∀ (f p : Nat) (K : List Nat), Prime p → p ≤ f → DfR f p [p] K (dfs f p K)
  | 0, p, K, hp, h => by have := hp.1; omega
  | f + 1, p, K, hp, h => by
    by_cases hk : p ∈ K
    · rw [dfs_in hk]
      exact ⟨fun _ h => h, fun h => h, fun _ h => .inl h, fun q hq => by simp at hq; subst hq; exact hk⟩
    · rw [dfs_out hk]
      have h1 := dfr_list (f := f) (p := p) (fun q K _ hq hf => dfr_one f q K hq hf) (fq (p - 1)) (K ++ [p]) (fun q hq => by
        have h2 := fq_lt hq
        exact ⟨by omega, (fq_mem hq).1, by omega⟩)
      have hp' : p ∈ dfsL f (fq (p - 1)) (K ++ [p]) := h1.sub p (by simp)
      refine ⟨fun z hz => h1.sub z (by simp [hz]), fun hn => h1.nd (by
        rw [List.nodup_append]
        refine ⟨hn, by simp, fun a ha b hb => ?_⟩
        simp at hb; subst hb
        exact fun e => hk (e ▸ ha)), fun z hz => ?_, fun q hq => by simp at hq; subst hq; exact hp'⟩
      rcases h1.new z hz with hz | hz
      · rcases List.mem_append.1 hz with hz | hz
        · exact .inl hz
        · simp at hz; subst hz
          exact .inr ⟨hp, Nat.le_refl _, fun q hq => h1.got q hq⟩
      · exact .inr hz
/-- all that are needed -/
def ned (n : Nat) : List Nat := dfs n n []
theorem ned_nd {n : Nat} (hn : Prime n) : (ned n).Nodup := (dfr_one n n [] hn (Nat.le_refl _)).nd List.nodup_nil
theorem ned_in {n z : Nat} (hn : Prime n) (hz : z ∈ ned n) : Prime z ∧ z ≤ n ∧ ∀ q ∈ fq (z - 1), q ∈ ned n := by
  rcases (dfr_one n n [] hn (Nat.le_refl _)).new z hz with h | h
  · cases h
  · exact h
theorem len_le_of_nodup : ∀ (n : Nat) (K : List Nat), K.Nodup → (∀ z ∈ K, z < n) → K.length ≤ n
  | 0, K, _, h => by
    cases K with
    | nil => simp
    | cons x l => exact absurd (h x (by simp)) (by omega)
  | n + 1, K, hn, h => by
    have h1 := len_le_of_nodup n (K.erase n) (hn.erase n) (fun z hz => by
      have h2 := h z (List.mem_of_mem_erase hz)
      have h3 : z ≠ n := fun e => by subst e; exact absurd hz (List.Nodup.not_mem_erase hn)
      omega)
    have := List.length_erase_le (a := n) (l := K)
    rw [List.length_erase] at h1
    split at h1 <;> omega
/-- .. in their order -/
def sq (n : Nat) : List Nat := (List.range (n + 1)).filter fun z => decide (z ∈ ned n)
theorem sq_mem {n z : Nat} (hn : Prime n) : z ∈ sq n ↔ z ∈ ned n := by
  unfold sq
  simp only [List.mem_filter, List.mem_range, decide_eq_true_eq]
  exact ⟨fun h => h.2, fun h => ⟨by have := (ned_in hn h).2.1; omega, h⟩⟩
theorem sq_lt (n : Nat) : (sq n).Pairwise (· < ·) := List.Pairwise.filter _ List.pairwise_lt_range
theorem sq_nd (n : Nat) : (sq n).Nodup := (sq_lt n).imp_of_mem fun {a b} _ _ h => by omega
theorem sq_perm {n : Nat} (hn : Prime n) : (sq n).Perm (ned n) :=
  (List.perm_ext_iff_of_nodup (sq_nd n) (ned_nd hn)).2 fun z => sq_mem hn
theorem sq_sorted {n : Nat} (hn : Prime n) {ss : List Int} (h : ss.Perm (cN (ned n))) : ss.mergeSort (fun x y => decide (x ≤ y)) = cN (sq n) := by
  have tr : ∀ a b c : Int, decide (a ≤ b) = true → decide (b ≤ c) = true → decide (a ≤ c) = true := fun a b c h1 h2 => by simp only [decide_eq_true_eq] at *; omega
  have to : ∀ a b : Int, (decide (a ≤ b) || decide (b ≤ a)) = true := fun a b => by simp only [Bool.or_eq_true, decide_eq_true_eq]; omega
  have hs : (cN (sq n)).Pairwise (fun a b => decide (a ≤ b) = true) := by
    unfold cN
    rw [List.pairwise_map]
    exact (sq_lt n).imp_of_mem fun {a b} _ _ h => by simp only [decide_eq_true_eq]; omega
  refine List.Perm.eq_of_pairwise (le := fun a b => decide (a ≤ b) = true) (fun a b _ _ h1 h2 => by simp only [decide_eq_true_eq] at h1 h2; omega) (List.pairwise_mergeSort tr to _) hs ?_
  exact (List.mergeSort_perm _ _).trans (h.trans ((sq_perm hn).symm.map _))
/-- where a number lies -/
def idx (S : List Nat) (q : Nat) : Nat := S.countP fun z => decide (z < q)
theorem idx_spec : ∀ {S : List Nat} {q : Nat}, S.Pairwise (· < ·) → q ∈ S → S[idx S q]? = some q
  | [], q, _, h => by cases h
  | x :: S, q, hs, h => by
    obtain ⟨h1, h2⟩ := List.pairwise_cons.1 hs
    rcases List.mem_cons.1 h with rfl | h
    · have e : idx (q :: S) q = 0 := by
        unfold idx
        rw [List.countP_eq_zero]
        intro z hz
        rcases List.mem_cons.1 hz with rfl | hz
        · simp
        · have := h1 z hz; simp; omega
      rw [e]; rfl
    · have := h1 q h
      have e : idx (x :: S) q = idx S q + 1 := by
        unfold idx
        rw [List.countP_cons_of_pos (by simpa using this)]
      rw [e, List.getElem?_cons_succ]
      exact idx_spec h2 h
theorem idx_only {S : List Nat} {q k : Nat} (hs : S.Pairwise (· < ·)) (h : S[k]? = some q) : k = idx S q := by
  have hm : q ∈ S := List.mem_of_getElem? h
  have h2 := idx_spec hs hm
  obtain ⟨k1, e1⟩ := List.getElem?_eq_some_iff.1 h
  obtain ⟨k2, e2⟩ := List.getElem?_eq_some_iff.1 h2
  have hp := List.pairwise_iff_getElem.1 hs
  rcases Nat.lt_trichotomy k (idx S q) with h3 | h3 | h3
  · have := hp k _ k1 k2 h3; omega
  · exact h3
  · have := hp _ k k2 k1 h3; omega
theorem idx_lt {S : List Nat} {q i : Nat} (hs : S.Pairwise (· < ·)) (hq : q ∈ S) (hi : i < S.length) (h : q < S[i]) : idx S q < i := by
  obtain ⟨k2, e2⟩ := List.getElem?_eq_some_iff.1 (idx_spec hs hq)
  have hp := List.pairwise_iff_getElem.1 hs
  rcases Nat.lt_trichotomy i (idx S q) with h3 | h3 | h3
  · have := hp i _ hi k2 h3; omega
  · subst h3; omega
  · exact h3
theorem idx_cN (S : List Nat) (q : Nat) : (cN S).countP (fun z => decide (z < (q : Int))) = idx S q := by
  unfold cN idx
  rw [List.countP_map]
  congr 1
  funext z
  simp
/-- has g the order p - 1? -/
def genB (p : Nat) (g : Int) : Bool := (pw g ((p : Int) - 1) (p : Int) == 1) && !((cN (fq (p - 1))).any (oneB g (p : Int)))
def GenL (p G : Nat) : Prop := 1 ≤ G ∧ G < p ∧ genB p (G : Int) = true ∧ ∀ g : Nat, 1 ≤ g → g < G → genB p (g : Int) = false
theorem gen_any {p : Nat} (hp : Prime p) (h3 : 3 ≤ p) : ∃ G : Nat, 1 ≤ G ∧ G < p ∧ genB p (G : Int) = true := by
  obtain ⟨g, g1, g2, hg⟩ := prim_root hp
  refine ⟨g, g1, g2, ?_⟩
  have one : ∀ j : Nat, pw (g : Int) (j : Int) (p : Int) = 1 ↔ (p - 1) ∣ j := fun j => by
    rw [← hg j]
    unfold One
    rw [Int.emod_eq_of_lt (by omega : (0 : Int) ≤ 1) (by omega : (1 : Int) < (p : Int))]
  have e : ((p : Int) - 1) = ((p - 1 : Nat) : Int) := by omega
  unfold genB
  rw [Bool.and_eq_true, beq_iff_eq]
  refine ⟨by rw [e, one]; exact Nat.dvd_refl _, ?_⟩
  rw [Bool.not_eq_true', Bool.eq_false_iff]
  intro h
  obtain ⟨q', hq', h2⟩ := List.any_eq_true.1 h
  obtain ⟨q, hq, rfl⟩ := List.mem_map.1 hq'
  obtain ⟨a1, a2, a3⟩ := fq_mem hq
  unfold oneB at h2
  rw [beq_iff_eq, e, show (((p - 1 : Nat) : Int) / (q : Int)) = (((p - 1) / q : Nat) : Int) from rfl, one] at h2
  have hq2 := a1.1
  have h4 : 0 < (p - 1) / q := Nat.div_pos (Nat.le_of_dvd a3 a2) (by omega)
  have h5 := Nat.le_of_dvd h4 h2
  have h6 := Nat.div_lt_self a3 (by omega : 1 < q)
  omega
theorem gen_least {p : Nat} : ∀ (k : Nat), (∃ G : Nat, 1 ≤ G ∧ G < p ∧ G ≤ k ∧ genB p (G : Int) = true) → ∃ G, GenL p G
  | 0, ⟨G, h1, _, h3, _⟩ => by omega
  | k + 1, ⟨G, h1, h2, h3, h4⟩ => by
    by_cases h : ∃ G : Nat, 1 ≤ G ∧ G < p ∧ G ≤ k ∧ genB p (G : Int) = true
    · exact gen_least k h
    · have e : G = k + 1 := Classical.byContradiction fun hne => h ⟨G, h1, h2, by omega, h4⟩
      subst e
      refine ⟨k + 1, h1, h2, h4, fun g g1 g2 => ?_⟩
      rw [Bool.eq_false_iff]
      exact fun h5 => h ⟨g, g1, by omega, by omega, h5⟩
noncomputable def gL (p : Nat) : Nat := @dite Nat (∃ G, GenL p G) (Classical.propDecidable _) (fun h => h.choose) (fun _ => 0)
theorem gL_spec {p : Nat} (hp : Prime p) (h3 : 3 ≤ p) : GenL p (gL p) := by
  obtain ⟨G, h1, h2, h4⟩ := gen_any hp h3
  have h := gen_least G ⟨G, h1, h2, Nat.le_refl _, h4⟩
  unfold gL
  rw [dif_pos h]
  exact h.choose_spec
theorem gL_only {p G : Nat} (hp : Prime p) (h3 : 3 ≤ p) (h1 : 1 ≤ G) (hg : genB p (G : Int) = true) (hl : ∀ g : Nat, 1 ≤ g → g < G → genB p (g : Int) = false) : G = gL p := by
  obtain ⟨a1, a2, a3, a4⟩ := gL_spec hp h3
  rcases Nat.lt_trichotomy G (gL p) with h | h | h
  · have := a4 G h1 h; rw [hg] at this; cases this
  · exact h
  · have := hl _ a1 h; rw [a3] at this; cases this
/-- the line of a prime -/
noncomputable def lnG (p : Nat) : Nat := if p ≤ 2 then 0 else gL p
def lnF (S : List Nat) (p : Nat) : List Int := (fq (p - 1)).map fun q => ((idx S q : Nat) : Int)
theorem lnF_len (S : List Nat) (p : Nat) : (lnF S p).length = (fq (p - 1)).length := by simp [lnF]
/-- stripping by all primes leaves 1 -/
theorem stripI_nat {q : Nat} (hq : 2 ≤ q) : ∀ (k x : Nat), x ≤ k → 0 < x → x < 2097152 → stripI (q : Int) (x : Int) = ((strip q x : Nat) : Int)
  | 0, x, h, h0, _ => by omega
  | k + 1, x, h, h0, h1 => by
    by_cases hd : x % q = 0
    · rw [strip_yes hq h0 hd, stripI_step (by omega) (by omega) (by omega) (by omega), show ((x : Int) / (q : Int)) = ((x / q : Nat) : Int) from rfl]
      have h2 := Nat.div_lt_self h0 (by omega : 1 < q)
      exact stripI_nat hq k _ (by omega) (Nat.div_pos (Nat.le_of_dvd h0 (Nat.dvd_of_mod_eq_zero hd)) (by omega)) (by omega)
    · rw [strip_no hd, stripI_stop (by omega)]
theorem fold_one : ∀ (k n : Nat), n ≤ k → 0 < n → n < 2097152 → ((fac n).map (·.1)).foldl (fun x q => stripI ((q : Nat) : Int) x) (n : Int) = 1
  | 0, n, h, h0, _ => by omega
  | k + 1, n, h, h0, h1 => by
    by_cases h2 : 2 ≤ n
    · obtain ⟨m2, md, _⟩ := minFac_spec h2
      have hl := strip_lt m2 (by omega) (Nat.mod_eq_zero_of_dvd md) (n := n)
      rw [fac_cons h2, List.map_cons, List.foldl_cons, stripI_nat m2 n n (Nat.le_refl _) h0 h1]
      exact fold_one k _ (by omega) (strip_spec _ m2 n h0).2.1 (by omega)
    · rw [fac_small (by omega)]
      have : n = 1 := by omega
      subst this; rfl
theorem lef_fold {Ns : List Int} {N : Int} {F : List Int} {qs : List Nat} (hl : F.length = qs.length) (h : ∀ j (h : j < qs.length), qAt Ns (F.getD j 0) = (qs[j] : Int)) : ∀ j, j ≤ qs.length → lef Ns N F j = (qs.take j).foldl (fun x q => stripI ((q : Nat) : Int) x) (N - 1)
  | 0, _ => rfl
  | j + 1, hj => by
    show stripI (qAt Ns (F.getD j 0)) (lef Ns N F j) = _
    rw [lef_fold hl h j (by omega), h j (by omega), List.take_succ_eq_append_getElem (by omega), List.foldl_append]; rfl
/-- a line with all primes holds by its g -/
theorem hold_gen {Ns : List Int} {i p : Nat} {G : Int} {F : List Int} (h3 : 3 ≤ p) (hp2 : p ≤ 1048576) (hl : F.length = (fq (p - 1)).length)
    (hF : ∀ j (h : j < (fq (p - 1)).length), 0 ≤ F.getD j 0 ∧ F.getD j 0 < i ∧ qAt Ns (F.getD j 0) = ((fq (p - 1))[j] : Int)) (g1 : 1 ≤ G) (g2 : G < p) : HoldP Ns i (p : Int) G F ↔ genB p G = true := by
  have LF := lef_fold (Ns := Ns) (N := (p : Int)) hl (fun j h => (hF j h).2.2) (fq (p - 1)).length (Nat.le_refl _)
  have e : ((p : Int) - 1) = ((p - 1 : Nat) : Int) := by omega
  rw [List.take_length, e, show fq (p - 1) = (fac (p - 1)).map (·.1) from rfl, fold_one (p - 1) (p - 1) (Nat.le_refl _) (by omega) (by omega)] at LF
  have hl' : F.length = (List.map (fun x => x.1) (fac (p - 1))).length := hl
  unfold HoldP genB
  rw [Bool.and_eq_true, beq_iff_eq, Bool.not_eq_true', Bool.eq_false_iff]
  constructor
  · rintro (h | ⟨_, h1, h2, _, h5⟩)
    · omega
    · refine ⟨h1, fun h => ?_⟩
      obtain ⟨q', hq', h6⟩ := List.any_eq_true.1 h
      obtain ⟨q, hq, rfl⟩ := List.mem_map.1 hq'
      obtain ⟨j, hj, rfl⟩ := List.mem_iff_getElem.1 hq
      have h7 := h5 j (by omega)
      rw [(hF j hj).2.2] at h7
      unfold oneB at h6
      rw [beq_iff_eq] at h6
      exact h7 h6
  · rintro ⟨h1, h2⟩
    refine .inr ⟨⟨by omega, by omega, g1, g2⟩, h1, fun j hj => ?_, by rw [hl']; exact LF, fun j hj h => ?_⟩
    · obtain ⟨a, b, c⟩ := hF j (by omega)
      refine ⟨a, b, ?_⟩
      rw [c, e]
      obtain ⟨_, d, _⟩ := fq_mem (List.getElem_mem (l := fq (p - 1)) (by omega : j < _))
      have := Nat.mod_eq_zero_of_dvd d
      omega
    · rw [(hF j (by omega)).2.2] at h
      refine h2 (List.any_eq_true.2 ⟨(((fq (p - 1))[j]'(by omega) : Nat) : Int), List.mem_map.2 ⟨_, List.getElem_mem _, rfl⟩, ?_⟩)
      unfold oneB
      rw [beq_iff_eq]; exact h
end Lw
set_option linter.unusedVariables false
set_option linter.unusedSimpArgs false
namespace Go.Proofs.Ytfocpbknckmmaaa
open Go.RowKit
end Go.Proofs.Ytfocpbknckmmaaa
namespace Lw
open Go Go.RowKit
/-- the reference's rounds -/
def jnK (p : Int) (L : List PtT) (i : Nat) : Nat → Int
  | 0 => (ptG L i).2
  | j + 1 => if j = i then jnK p L i j else jnK p L i j * (ptG L j).1 % p * invR (((ptG L j).1 - (ptG L i).1) % p) p % p
def jnS (p : Int) (L : List PtT) : Nat → Int
  | 0 => 0
  | k + 1 => (jnS p L k + jnK p L k L.length) % p
theorem opp_inv {p d e u v : Int} (h1 : u * d % p = 1 % p) (h2 : v * e % p = 1 % p) (h3 : (d + e) % p = 0) : (u + v) % p = 0 := by
  obtain ⟨a, ha⟩ := Int.dvd_of_emod_eq_zero (Int.emod_eq_emod_iff_emod_sub_eq_zero.1 h1)
  obtain ⟨b, hb⟩ := Int.dvd_of_emod_eq_zero (Int.emod_eq_emod_iff_emod_sub_eq_zero.1 h2)
  obtain ⟨c, hc⟩ := Int.dvd_of_emod_eq_zero h3
  have e1 : u * d = p * a + 1 := by omega
  have e2 : v * e = p * b + 1 := by omega
  refine Int.emod_eq_zero_of_dvd ⟨u * v * c - (u * b + v * a), ?_⟩
  have : u + v = u * v * (d + e) - v * (u * d - 1) - u * (v * e - 1) := by grind
  rw [this, hc, e1, e2]; grind
theorem jnK_step {p a b k u v : Int} (h : (u + v) % p = 0) (hk : k % p = b % p) : (k * a % p * u % p) % p = (b * (-a * v)) % p := by
  obtain ⟨c, hc⟩ := Int.dvd_of_emod_eq_zero h
  obtain ⟨q, hq⟩ := Int.dvd_of_emod_eq_zero (Int.emod_eq_emod_iff_emod_sub_eq_zero.1 hk)
  have e1 : v = p * c - u := by omega
  have e2 : k = b + p * q := by omega
  rw [Int.emod_emod_of_dvd _ (Int.dvd_refl p), Int.mul_emod, Int.emod_emod_of_dvd _ (Int.dvd_refl p), ← Int.mul_emod]
  refine Int.emod_eq_emod_iff_emod_sub_eq_zero.2 (Int.emod_eq_zero_of_dvd ⟨q * a * u + b * a * c, ?_⟩)
  rw [e1, e2]; grind
theorem jnK_eval {p : Int} (p1 : 2 ≤ p) (p2 : p ≤ 251) (hp : primeB p = true) {L : List PtT} (hL : PtsOk p L) {i : Nat} (hi : i < L.length) : ∀ j, j ≤ L.length → jnK p L i j % p = evalI (lst p L i j) 0 % p
  | 0, _ => by
    show (ptG L i).2 % p = (0 * 0 + (ptG L i).2) % p
    rw [Int.zero_mul, Int.zero_add]
  | j + 1, h => by
    have ih := jnK_eval p1 p2 hp hL hi j (by omega)
    by_cases e : j = i
    · have hl : lst p L i (j + 1) = lst p L i j := if_pos e
      have hk : jnK p L i (j + 1) = jnK p L i j := if_pos e
      rw [hl, hk, ih]
    · have hl : lst p L i (j + 1) = timesK p (trimL (lst p L i j)) (lsF p L i j) (trimL (lst p L i j)).length := if_neg e
      have hk : jnK p L i (j + 1) = jnK p L i j * (ptG L j).1 % p * invR (((ptG L j).1 - (ptG L i).1) % p) p % p := if_neg e
      have e1 : evalI (lst p L i (j + 1)) 0 % p = (evalI (lst p L i j) 0 * (-(ptG L j).1 * lsK p L i j)) % p := by
        rw [hl, eval_times, eval_trim]
        unfold lsF
        rw [eval_trim, eval_two, Int.mul_zero, Int.zero_add, Int.mul_emod, Int.emod_emod_of_dvd _ (Int.dvd_refl p), ← Int.mul_emod]
      obtain ⟨k0, _⟩ := lsK_ok p1 p2 hp hL hi (by omega : j < L.length) e
      obtain ⟨k1, _⟩ := lsK_ok p1 p2 hp hL (by omega : j < L.length) hi (fun h => e h.symm)
      rw [e1, hk]
      refine jnK_step (opp_inv k1 k0 ?_) ih
      rw [show (ptG L j).1 - (ptG L i).1 + ((ptG L i).1 - (ptG L j).1) = 0 by omega]; rfl
theorem jnS_eval {p : Int} (p1 : 2 ≤ p) (p2 : p ≤ 251) (hp : primeB p = true) {L : List PtT} (hL : PtsOk p L) : ∀ k, k ≤ L.length → jnS p L k % p = evalI (sst p L k) 0 % p
  | 0, _ => rfl
  | k + 1, h => by
    have ih := jnS_eval p1 p2 hp hL k (by omega)
    have jk := jnK_eval p1 p2 hp hL (show k < L.length by omega) L.length (Nat.le_refl _)
    show (jnS p L k + jnK p L k L.length) % p % p = evalI (plusL p (sst p L k) (trimL (lst p L k L.length)) 1 0) 0 % p
    rw [eval_plus, eval_trim, Int.pow_zero, Int.one_mul, Int.one_mul, Int.emod_emod_of_dvd _ (Int.dvd_refl p), Int.add_emod, ih, jk, ← Int.add_emod]
theorem jnK_bd {p : Int} (hp : 0 < p) {L : List PtT} {i : Nat} (h0 : 0 ≤ (ptG L i).2 ∧ (ptG L i).2 < p) : ∀ j, 0 ≤ jnK p L i j ∧ jnK p L i j < p
  | 0 => h0
  | j + 1 => by
    by_cases e : j = i
    · have hk : jnK p L i (j + 1) = jnK p L i j := if_pos e
      rw [hk]; exact jnK_bd hp h0 j
    · have hk : jnK p L i (j + 1) = jnK p L i j * (ptG L j).1 % p * invR (((ptG L j).1 - (ptG L i).1) % p) p % p := if_neg e
      rw [hk]; exact ⟨Int.emod_nonneg _ (by omega), Int.emod_lt_of_pos _ hp⟩
theorem jnS_bd {p : Int} (hp : 0 < p) {L : List PtT} : ∀ k, 0 ≤ jnS p L k ∧ jnS p L k < p
  | 0 => ⟨Int.le_refl _, hp⟩
  | _ + 1 => ⟨Int.emod_nonneg _ (by omega), Int.emod_lt_of_pos _ hp⟩
theorem join_eq {p : Int} (p1 : 2 ≤ p) (p2 : p ≤ 251) (hp : primeB p = true) {L : List PtT} (hL : PtsOk p L) : hornV p (nst p L L.length).1 0 = jnS p L L.length := by
  rw [thr_eq p1 p2 hp hL, horn_at (Int.le_refl _) (by omega), ← jnS_eval p1 p2 hp hL L.length (Nat.le_refl _)]
  exact Int.emod_eq_of_lt (jnS_bd (by omega) _).1 (jnS_bd (by omega) _).2
/-- has a point the X 0? -/
def zeroX (L : List PtT) : Bool := L.any fun r => decide (r.1 = 0)
noncomputable def joinE (p : Int) (L : List PtT) : Int := if ¬ ptsE p L = 0 then ptsE p L else if zeroX L = true then 3 else 0
theorem join_p {p : Int} {L : List PtT} (h : ¬ ptsE p L = 0) : joinE p L = ptsE p L := if_pos h
theorem join_z {p : Int} {L : List PtT} (h : ptsE p L = 0) (h1 : zeroX L = true) : joinE p L = 3 := by unfold joinE; rw [if_neg (by simp [h]), if_pos h1]
theorem join_ok {p : Int} {L : List PtT} (h : ptsE p L = 0) (h1 : zeroX L = false) : joinE p L = 0 := by unfold joinE; rw [if_neg (by simp [h]), if_neg (by simp [h1])]
theorem join_0 {p : Int} {L : List PtT} (h : joinE p L = 0) : ptsE p L = 0 ∧ zeroX L = false := by
  by_cases h1 : ptsE p L = 0
  · cases h2 : zeroX L with
    | false => exact ⟨h1, rfl⟩
    | true => rw [join_z h1 h2] at h; cases h
  · rw [join_p h1] at h; exact absurd h h1
end Lw
namespace Lw
open Go Go.RowKit
theorem polyE_nil (p : Int) : polyE p [] = pprE p := by
  by_cases h : pprE p = 0
  · rw [poly_in h (by decide), h]; rfl
  · rw [poly_p h]
/-- the reference's rounds: power and sum -/
def powS (p x : Int) : Nat → Int
  | 0 => 1
  | k + 1 => powS p x k * x % p
def splS (p sec : Int) (more : List Int) (x : Int) : Nat → Int
  | 0 => sec
  | k + 1 => (splS p sec more x k + more.getD k 0 * powS p x (k + 1)) % p
theorem powS_eq {p x : Int} (hp : 2 ≤ p) : ∀ k, powS p x k = x ^ k % p
  | 0 => by show (1 : Int) = x ^ 0 % p; rw [Int.pow_zero, Int.emod_eq_of_lt (by omega) (by omega)]
  | k + 1 => by
    show powS p x k * x % p = x ^ (k + 1) % p
    rw [powS_eq hp k, Int.pow_succ, Int.mul_emod, Int.emod_emod_of_dvd _ (Int.dvd_refl p), ← Int.mul_emod]
theorem splS_sum {p sec x : Int} {more : List Int} (hp : 2 ≤ p) (s0 : 0 ≤ sec) (s1 : sec < p) : ∀ k, splS p sec more x k = sumI (sec :: more) x (k + 1) % p
  | 0 => by
    show sec = (0 + sec * x ^ 0) % p
    rw [Int.pow_zero, Int.mul_one, Int.zero_add, Int.emod_eq_of_lt s0 s1]
  | k + 1 => by
    show (splS p sec more x k + more.getD k 0 * powS p x (k + 1)) % p = (sumI (sec :: more) x (k + 1) + (sec :: more).getD (k + 1) 0 * x ^ (k + 1)) % p
    rw [splS_sum hp s0 s1 k, powS_eq hp, List.getD_cons_succ, Int.add_emod, Int.emod_emod_of_dvd _ (Int.dvd_refl p), Int.mul_emod, Int.emod_emod_of_dvd _ (Int.dvd_refl p), ← Int.mul_emod, ← Int.add_emod]
theorem spl_horn {p sec x : Int} {more : List Int} (hp : 2 ≤ p) (s0 : 0 ≤ sec) (s1 : sec < p) (x0 : 0 ≤ x) (x1 : x < p) : splS p sec more x more.length = hornV p (sec :: more) x := by
  have h := horn_eval p x (sec :: more)
  rw [Int.emod_eq_of_lt x0 x1] at h
  rw [splS_sum hp s0 s1, h, ← sumI_all]; rfl
theorem powS_bd {p x : Int} (hp : 2 ≤ p) (k : Nat) : 0 ≤ powS p x k ∧ powS p x k < p := by
  rw [powS_eq hp]; exact ⟨Int.emod_nonneg _ (by omega), Int.emod_lt_of_pos _ (by omega)⟩
theorem splS_bd {p sec x : Int} {more : List Int} (hp : 2 ≤ p) (s0 : 0 ≤ sec) (s1 : sec < p) (k : Nat) : 0 ≤ splS p sec more x k ∧ splS p sec more x k < p := by
  rw [splS_sum hp s0 s1]; exact ⟨Int.emod_nonneg _ (by omega), Int.emod_lt_of_pos _ (by omega)⟩
theorem horn_bd {p x : Int} (hp : 2 ≤ p) (zs : List Int) : 0 ≤ hornV p zs x ∧ hornV p zs x < p := by
  cases zs with
  | nil => exact ⟨Int.le_refl _, by show (0 : Int) < p; omega⟩
  | cons z zs => exact ⟨Int.emod_nonneg _ (by omega), Int.emod_lt_of_pos _ (by omega)⟩
/-- the shares -/
def ptsL (p : Int) (a : List Int) (n : Nat) : List (Int × Int) := (List.range n).map fun (i : Nat) => (((i : Nat) : Int) + 1, hornV p a (((i : Nat) : Int) + 1))
theorem pts_succ (p : Int) (a : List Int) (n : Nat) : ptsL p a (n + 1) = ptsL p a n ++ [((n : Int) + 1, hornV p a ((n : Int) + 1))] := by unfold ptsL; rw [List.range_succ, List.map_append, List.map_singleton]
theorem ptsL_len (p : Int) (a : List Int) (n : Nat) : (ptsL p a n).length = n := by simp [ptsL]
theorem pairs_one (x y : Int) : ∀ u ∈ [Value.int .i64 x, Value.int .i64 y], u.oneCell' = true := by intro u hu; simp at hu; rcases hu with rfl | rfl <;> rfl
def PtsR (p : Int) (a : List Int) (n : Nat) (w : World) (e : Ending) (w' : World) : Prop := ∃ C g, e = .returned (.tuple #[.slice C n g, .int .i64 0]) ∧ Rd w' 2 C n (pairsV .i64 .i64 (ptsL p a n)) ∧ Below w.heap.size w w'
def PtsF (p : Int) (a : List Int) (n : Nat) (w : World) (e : Ending) (w' : World) : Prop := ∃ C g, e = .returned (.slice C n g) ∧ Rd w' 2 C n (pairsV .i64 .i64 (ptsL p a n)) ∧ Below w.heap.size w w'
end Lw
set_option linter.unusedVariables false
set_option linter.unusedSimpArgs false
namespace Go.Proofs.Ytfocpbknckmmaaa
open Go.RowKit
theorem elPnt : Lw.El Try.prog 54 57 (.agg #[.int .i64 0, .int .i64 0]) 2 16 := Lw.El.mk' Try.underlying54 (by kernel_rfl) rfl (by decide) (by decide)
set_option maxHeartbeats 1000000 in
theorem longs_grow (n : Nat) (w : World) (hn : n ≤ 16777216) :
    Calls Try.prog 76 #[.slice none 0 0, .int .i64 (n : Int)] w fun e w' => ∃ v, e = .returned v ∧ w'.ownsRow w.heap.size 2 1 v 0 [] ∧ Below w.heap.size w w' := by
  by_cases h0 : 0 < n
  · go_enter Try.func76, Try.ntmps76
    go_wp2_with (at_builtin; refine Lw.wpList_made elPly Try.underlying3 rfl _ _ rfl rfl rfl h0 hn ?_; intro c cs hc1 hc2 hc3)
    go_ret
    refine ⟨_, rfl, ⟨by simp, .inr ⟨w.heap.size, c, cs, rfl, Nat.le_refl _, heap_alloc_new _ _, Nat.zero_le _, hc2, by omega, by simp⟩⟩, Lw.balloc (Below.drew (Below.refl _ _)) _⟩
  · have hn0 : n = 0 := by omega
    subst hn0
    go_enter Try.func76, Try.ntmps76
    go_wp2
    go_ret
    exact ⟨_, rfl, World.ownsRow_nil _ _ _ _, Below.refl _ _⟩
set_option maxHeartbeats 2000000 in
theorem longs_cat (A A1 A2 : Option Addr) (c c1 c2 n1 n2 : Nat) (xs ys : List Value) (w : World) (R : Lw.Rd w 1 A 2 [.slice A1 n1 c1, .slice A2 n2 c2]) (R1 : Lw.Rd w 1 A1 n1 xs) (R2 : Lw.Rd w 1 A2 n2 ys) (o1 : ∀ u ∈ xs, u.oneCell' = true) (o2 : ∀ u ∈ ys, u.oneCell' = true) (hn : n1 + n2 ≤ 16777216) :
    Calls Try.prog 63 #[.slice A 2 c] w (Lw.OwnRes 2 1 (xs ++ ys) (n1 + n2) w) := by
  obtain ⟨ad, rfl, had, q0⟩ := R.at1 (k := 0) (by decide) rfl
  obtain ⟨ad', e', _, q1⟩ := R.at1 (k := 1) (by decide) rfl
  obtain rfl : ad = ad' := by injection e'
  rw [Lw.add_zero'] at q0
  rw [show ad.add 1 = ⟨ad.block, ad.off + 1, none⟩ from Lw.add_succ' ad 0] at q1
  clear R e'
  go_enter Try.func63, Try.ntmps63
  go_wp2
  go_loop [3, 5, 11] (fun s l i => ∃ k : Nat, i = .int .i64 (k : Int) ∧ k ≤ 2 ∧ ∃ m : Nat, s = .int .i64 (m : Int) ∧ ((k = 0 ∧ m = 0) ∨ (k = 1 ∧ n1 = m) ∨ (k = 2 ∧ n1 + n2 = m))) (fun _ _ i => 2 - (intOf i).toNat)
  case atStart => exact ⟨0, rfl, by omega, 0, rfl, .inl ⟨rfl, rfl⟩⟩
  case round =>
    obtain ⟨k, rfl, k1, m, rfl, h⟩ := hrel
    rcases h with ⟨rfl, rfl⟩ | ⟨rfl, rfl⟩ | ⟨rfl, rfl⟩
    · go_wp2
      go_round
      case rel => exact ⟨1, rfl, by omega, n1, by simp, .inr (.inl ⟨rfl, rfl⟩)⟩
      case measure => simp [intOf]
    · go_wp2
      go_round
      case rel => exact ⟨2, rfl, by omega, n1 + n2, by go_num, .inr (.inr ⟨rfl, rfl⟩)⟩
      case measure => simp [intOf]
    · go_wp2_with (go_at_call 76; refine (longs_grow (n1 + n2) _ hn).mono ?_; rintro e w1 ⟨v, rfl, own1, hb⟩)
      go_loopw [6, 8, 27] (fun l x i wr => ∃ k : Nat, i = .int .i64 (k : Int) ∧ k ≤ 2 ∧ ∃ m zs, ((k = 0 ∧ m = 0 ∧ zs = []) ∨ (k = 1 ∧ n1 = m ∧ xs = zs) ∨ (k = 2 ∧ n1 + n2 = m ∧ xs ++ ys = zs)) ∧ wr.ownsRow w.heap.size 2 1 l m zs ∧ Below w.heap.size w wr) (fun _ _ i _ => 2 - (intOf i).toNat)
      case atStart => exact ⟨0, rfl, by omega, 0, [], .inl ⟨rfl, rfl, rfl⟩, own1, hb⟩
      case round =>
        clear own1 hb
        obtain ⟨k, rfl, k1, m, zs, h, own, hB⟩ := hrel
        have hsz := hB.size
        have p0 := (hB.cell (p := ad) had).trans q0
        have p1 := (hB.cell (p := ⟨ad.block, ad.off + 1, none⟩) had).trans q1
        rcases h with ⟨rfl, rfl, rfl⟩ | ⟨rfl, rfl, rfl⟩ | ⟨rfl, rfl, rfl⟩
        · have OWN := Lib.hid own
          clear own
          go_wp2_with (at_builtin; refine Lw.wpList_app elPly rfl _ _ rfl rfl OWN.out rfl (R1.below (Nat.le_refl _) hB) o1 (by omega) hB (Nat.le_refl _) hsz ?_; intro v1 w2 own1 hb1 _ _)
          have O1 := Lib.hid own1
          clear own1
          go_wp2
          go_roundw
          case rel => exact ⟨1, rfl, by omega, n1, xs, .inr (.inl ⟨rfl, rfl, rfl⟩), by simpa using O1.out, hb1⟩
          case measure => simp [intOf]
        · have OWN := Lib.hid own
          clear own
          go_wp2_with (at_builtin; refine Lw.wpList_app elPly rfl _ _ rfl rfl OWN.out rfl (R2.below (Nat.le_refl _) hB) o2 (by omega) hB (Nat.le_refl _) hsz ?_; intro v1 w2 own1 hb1 _ _)
          have O1 := Lib.hid own1
          clear own1
          go_wp2
          go_roundw
          case rel => exact ⟨2, rfl, by omega, n1 + n2, xs ++ ys, .inr (.inr ⟨rfl, rfl, rfl⟩), O1.out, hb1⟩
          case measure => simp [intOf]
        · have OWN := Lib.hid own
          clear own
          go_wp2
          go_ret
          obtain ⟨B, c', rfl, _⟩ := Lw.ownsForm OWN.out
          exact ⟨B, c', rfl, OWN.out, hB⟩

set_option maxHeartbeats 1000000 in
theorem spl_idx (A : Option Addr) (n c b : Nat) (p : Int) (zs : List Int) (w : World) (R : Lw.Rd w 1 A n (Lw.intsV .i64 zs)) (hn : n ≤ 9223372036854775807) (hb : w.cell? ⟨b, 0, none⟩ = some (.int .i64 p)) :
    Calls Try.prog 62 #[.slice A n c, .func (.func 64) #[] #[.pointer (some ⟨b, 0, none⟩)]] w (Lw.IdxT (Lw.outR p zs) w) := by
  have R := Lib.hid R
  have l1 : zs.length = n := by have := R.out.1; simpa [Lw.intsV] using this
  have L := Lib.hid l1
  clear l1
  go_enter Try.func62, Try.ntmps62
  go_wp2
  go_loop [5, 8] (fun x i => ∃ k : Nat, i = .int .i64 (k : Int) ∧ k ≤ n ∧ Hid (Lw.outR p (zs.take k) = false)) (fun _ i => n - (intOf i).toNat)
  case atStart => exact ⟨0, rfl, by omega, rfl⟩
  case round =>
    obtain ⟨k, rfl, k1, T⟩ := hrel
    by_cases hlt : k < n
    · have hl : k < zs.length := by rw [L.out]; exact hlt
      obtain ⟨ad, rfl, had, hcell⟩ := R.out.at1 hlt (Lw.intsV_get hl)
      have N := Lib.hid (Lw.any_take (p := fun x => decide (x < 0) || decide (p ≤ x)) hl T.out)
      have D := Lib.hid (Lw.any_at (p := fun x : Int => decide (x < 0) || decide (p ≤ x)) hl)
      obtain ⟨x, hx⟩ : ∃ x, zs[k] = x := ⟨_, rfl⟩
      rw [hx] at hcell N D
      clear hx
      rcases (show x < 0 ∨ (0 ≤ x ∧ p ≤ x) ∨ (0 ≤ x ∧ x < p) by omega) with h0 | ⟨h0, h1⟩ | ⟨h0, h1⟩
      · have D1 : Hid (Lw.outR p zs = true) := D.out (by simp [h0])
        clear N D
        go_wp2
        go_ret
        exact ⟨_, rfl, rfl, .inr ⟨D1.out, by omega⟩⟩
      · have D1 : Hid (Lw.outR p zs = true) := D.out (by simp [h1])
        clear N D
        go_wp2
        go_ret
        exact ⟨_, rfl, rfl, .inr ⟨D1.out, by omega⟩⟩
      · have N1 : Hid (Lw.outR p (zs.take (k + 1)) = false) := N.out (by simp; omega)
        clear N D
        go_wp2
        go_round
        case rel => exact ⟨k + 1, by go_num, by omega, N1⟩
        case measure => simp [intOf]; omega
    · have hk : zs.take k = zs := List.take_of_length_le (by rw [L.out]; omega)
      have E : Hid (Lw.outR p zs = false) := by have := T.out; rwa [hk] at this
      clear hk
      go_wp2
      go_ret
      exact ⟨_, rfl, rfl, .inl ⟨E.out, rfl⟩⟩
theorem spl_con (A : Option Addr) (n c b : Nat) (p : Int) (zs : List Int) (w : World) (R : Lw.Rd w 1 A n (Lw.intsV .i64 zs)) (hn : n ≤ 9223372036854775807) (hb : w.cell? ⟨b, 0, none⟩ = some (.int .i64 p)) :
    Calls Try.prog 39 #[.slice A n c, .func (.func 64) #[] #[.pointer (some ⟨b, 0, none⟩)]] w fun e w' => e = .returned (.bool (Lw.outR p zs)) ∧ w = w' := by
  have X := Lib.hid (spl_idx A n c b p zs w R hn hb)
  clear R hb
  go_enter Try.func39, Try.ntmps39
  go_wp2_with (go_at_call 62; (with_reducible refine (X.out).mono ?_); rintro e w1 ⟨r, rfl, rfl, hr⟩)
  go_ret
  exact ⟨Lw.ret_bool (Lw.IdxT.ge hr), rfl⟩

theorem share_Split_ppr (p sec n : Int) (A : Option Addr) (m c : Nat) (w : World) (h : ¬ Lw.pprE p = 0) :
    Calls Try.prog 41 #[.int .i64 p, .int .i64 sec, .slice A m c, .int .i64 n] w fun e w' => e = .returned (.tuple #[.slice none 0 0, .int .i64 (Lw.pprE p)]) ∧ Below w.heap.size w w' := by
  have X := fun w => poly_Check p none 0 0 [] w (Lw.Rd.nil _ _ _)
  rw [Lw.polyE_nil] at X
  replace X := Lib.hid X
  have z : (Lw.pprE p != 0) = true := by simpa using h
  have z' : (Lw.pprE p == 0) = false := by simpa using h
  generalize Lw.pprE p = E at *
  clear h
  go_enter Try.func41, Try.ntmps41
  go_wp2_with (go_at_call 37; (with_reducible refine (X.out _).mono ?_); rintro e w1 ⟨rfl, hb1⟩)
  go_ret2
  exact ⟨rfl, Lw.bt (Lw.balloc (Below.refl _ _) _) hb1⟩
theorem share_Split_long (p sec n : Int) (A : Option Addr) (m c : Nat) (w : World) (h : Lw.pprE p = 0) (hm : 12 < m) :
    Calls Try.prog 41 #[.int .i64 p, .int .i64 sec, .slice A m c, .int .i64 n] w fun e w' => e = .returned (.tuple #[.slice none 0 0, .int .i64 1]) ∧ Below w.heap.size w w' := by
  have X := fun w => poly_Check p none 0 0 [] w (Lw.Rd.nil _ _ _)
  rw [Lw.polyE_nil, h] at X
  replace X := Lib.hid X
  have hm' : (12 : Int) < (m : Int) := by omega
  clear h
  go_enter Try.func41, Try.ntmps41
  go_wp2_with (go_at_call 37; (with_reducible refine (X.out _).mono ?_); rintro e w1 ⟨rfl, hb1⟩)
  go_ret2
  exact ⟨rfl, Lw.bt (Lw.balloc (Below.refl _ _) _) hb1⟩
set_option maxRecDepth 100000 in
set_option maxHeartbeats 4000000 in
theorem share_Split_range (p sec n : Int) (A : Option Addr) (m c : Nat) (more : List Int) (w : World) (RA : Lw.Rd w 1 A m (Lw.intsV .i64 more)) (h : Lw.pprE p = 0) (hm : m ≤ 12) (h2 : Lw.outR p (sec :: more) = true ∨ n < 0 ∨ p ≤ n) :
    Calls Try.prog 41 #[.int .i64 p, .int .i64 sec, .slice A m c, .int .i64 n] w fun e w' => e = .returned (.tuple #[.slice none 0 0, .int .i64 2]) ∧ Below w.heap.size w w' := by
  have X := fun w => poly_Check p none 0 0 [] w (Lw.Rd.nil _ _ _)
  rw [Lw.polyE_nil, h] at X
  replace X := Lib.hid X
  have hm' : ¬ (12 : Int) < (m : Int) := by omega
  obtain ⟨W, hW⟩ : ∃ W, w.alloc (.cells #[.int .i64 p] 2) = W := ⟨_, rfl⟩
  have B0 := Lib.hid (show W.heap[w.heap.size]? = some (.cells #[.int .i64 p] 2 (0, 0)) from hW ▸ Lw.blk_new _ _ _)
  have hBW : Below w.heap.size w W := by rw [← hW]; exact Lw.balloc (Below.refl _ _) _
  have hWs : w.heap.size < W.heap.size := by rw [← hW]; simp
  have l0 := Lw.blk_cell B0.out 0
  simp at l0
  have RW := Lib.hid (RA.below (Nat.le_refl _) hBW)
  have HW := Lib.hid hW
  clear h hW RA
  go_enter Try.func41, Try.ntmps41
  go_wp2_with fail
  rw [HW.out]
  go_wp2_with (go_at_call 37; (with_reducible refine (X.out _).mono ?_); rintro e w1 ⟨rfl, hb1⟩)
  refine (longs_cat _ _ A _ _ c 1 m _ _ _ (by exact (by first | exact Lw.Rd.nil _ _ _ | exact Lw.Rd.lit (Lw.blk_new' (by simp) _ _) rfl rfl | exact Lw.Rd.lit (Lw.blk_alloc (Lw.blk_new' (by simp) _ _) _) rfl rfl)) (by exact Lw.Rd.lit (Lw.blk_alloc (Lw.blk_new' (by simp) _ _) _) rfl rfl) (((RW.out.below (Nat.le_refl _) hb1).alloc _).alloc _) (Lw.one1 .i64 sec) (Lw.intsV_one _ _) (by omega)).mono ?_
  rintro e w2 ⟨C, g, rfl, own2, hb2⟩
  have hB2 : Below W.heap.size W w2 := Lw.bt (Lw.balloc (Lw.balloc hb1 _) _) hb2
  have R2 : Lw.Rd w2 1 C (1 + m) (Lw.intsV .i64 (sec :: more)) := Lw.Rd.of_own own2
  have n0 : w2.cell? ⟨w.heap.size, 0, none⟩ = some (.int .i64 p) := (hB2.cell hWs).trans l0
  have CN := Lib.hid (spl_con C (1 + m) g w.heap.size p (sec :: more) w2 R2 (by omega) n0)
  clear own2 R2
  rcases (show Lw.outR p (sec :: more) = true ∨ (Lw.outR p (sec :: more) = false ∧ n < 0) ∨ (Lw.outR p (sec :: more) = false ∧ ¬ n < 0 ∧ p ≤ n) by
    cases ho : Lw.outR p (sec :: more) with
    | true => exact .inl rfl
    | false => rw [ho] at h2; rcases h2 with h | h | h; exact absurd h (by decide); exact .inr (.inl ⟨rfl, h⟩); (by_cases h3 : n < 0; exact .inr (.inl ⟨rfl, h3⟩); exact .inr (.inr ⟨rfl, h3, h⟩))) with h3 | ⟨h3, h4⟩ | ⟨h3, h4, h5⟩
  all_goals
    rw [h3] at CN
    clear h2 h3
    go_wp2_with (go_at_call 39; (with_reducible refine (CN.out).mono ?_); rintro e w3 ⟨rfl, rfl⟩)
    go_ret2
    exact ⟨rfl, hBW.trans (hB2.mono hBW.size)⟩
set_option maxRecDepth 100000 in
set_option maxHeartbeats 4000000 in
theorem share_Split_ok (p sec : Int) (n : Nat) (A : Option Addr) (m c : Nat) (more : List Int) (w : World) (RA : Lw.Rd w 1 A m (Lw.intsV .i64 more)) (h : Lw.pprE p = 0) (hm : m ≤ 12) (h2 : Lw.outR p (sec :: more) = false) (hn : (n : Int) < p) :
    Calls Try.prog 41 #[.int .i64 p, .int .i64 sec, .slice A m c, .int .i64 (n : Int)] w (Lw.PtsR p (sec :: more) n w) := by
  obtain ⟨p1, p2, pp⟩ := Lw.ppr_ok h
  have X := fun w => poly_Check p none 0 0 [] w (Lw.Rd.nil _ _ _)
  rw [Lw.polyE_nil, h] at X
  replace X := Lib.hid X
  have hm' : ¬ (12 : Int) < (m : Int) := by omega
  obtain ⟨W, hW⟩ : ∃ W, w.alloc (.cells #[.int .i64 p] 2) = W := ⟨_, rfl⟩
  have B0 := Lib.hid (show W.heap[w.heap.size]? = some (.cells #[.int .i64 p] 2 (0, 0)) from hW ▸ Lw.blk_new _ _ _)
  have hBW : Below w.heap.size w W := by rw [← hW]; exact Lw.balloc (Below.refl _ _) _
  have hWs : w.heap.size < W.heap.size := by rw [← hW]; simp
  have l0 := Lw.blk_cell B0.out 0
  simp at l0
  have RW := Lib.hid (RA.below (Nat.le_refl _) hBW)
  have HW := Lib.hid hW
  have ZB := Lib.hid (Lw.outR_in h2)
  have PS := Lib.hid (Lw.pts_succ p (sec :: more))
  have HB := Lib.hid (fun x => Lw.horn_bd (p := p) (x := x) p1 (sec :: more))
  have nn : ¬ (n : Int) < 0 := by omega
  have np : ¬ p ≤ (n : Int) := by omega
  clear h hW RA pp
  go_enter Try.func41, Try.ntmps41
  go_wp2_with fail
  rw [HW.out]
  go_wp2_with (go_at_call 37; (with_reducible refine (X.out _).mono ?_); rintro e w1 ⟨rfl, hb1⟩)
  refine (longs_cat _ _ A _ _ c 1 m _ _ _ (by exact (by first | exact Lw.Rd.nil _ _ _ | exact Lw.Rd.lit (Lw.blk_new' (by simp) _ _) rfl rfl | exact Lw.Rd.lit (Lw.blk_alloc (Lw.blk_new' (by simp) _ _) _) rfl rfl)) (by exact Lw.Rd.lit (Lw.blk_alloc (Lw.blk_new' (by simp) _ _) _) rfl rfl) (((RW.out.below (Nat.le_refl _) hb1).alloc _).alloc _) (Lw.one1 .i64 sec) (Lw.intsV_one _ _) (by omega)).mono ?_
  rintro e w2 ⟨C, g, rfl, own2, hb2⟩
  have hB2 : Below W.heap.size W w2 := Lw.bt (Lw.balloc (Lw.balloc hb1 _) _) hb2
  have R2 : Lw.Rd w2 1 C (1 + m) (Lw.intsV .i64 (sec :: more)) := Lw.Rd.of_own own2
  have n0 : w2.cell? ⟨w.heap.size, 0, none⟩ = some (.int .i64 p) := (hB2.cell hWs).trans l0
  have CN := Lib.hid (spl_con C (1 + m) g w.heap.size p (sec :: more) w2 R2 (by omega) n0)
  rw [h2] at CN
  have VL := Lib.hid (fun W' (hb : Below w2.heap.size w2 W') x (x1 : 0 ≤ x) (x2 : x < p) => poly_Value p C (1 + m) g (sec :: more) x W' (R2.below (Nat.le_refl w2.heap.size) hb) ZB.out p1 p2 (by omega) x1 x2)
  have z2 := hB2.size
  clear own2 R2 h2
  go_wp2_with (go_at_call 39; (with_reducible refine (CN.out).mono ?_); rintro e w3 ⟨rfl, rfl⟩)
  go_loopw [12, 13] (fun l x wr => ∃ k : Nat, x = .int .i64 ((k : Int) + 1) ∧ k ≤ n ∧ wr.ownsRow w2.heap.size 57 2 l k (Lw.pairsV .i64 .i64 (Lw.ptsL p (sec :: more) k)) ∧ Below w2.heap.size w2 wr) (fun _ x _ => n + 1 - (intOf x).toNat)
  case atStart => exact ⟨0, rfl, by omega, World.ownsRow_nil _ _ _ _, Below.refl _ _⟩
  case round =>
    obtain ⟨k, rfl, hk, own, hB⟩ := hrel
    by_cases hlt : k < n
    · have hlt' : (k : Int) + 1 ≤ (n : Int) := by omega
      have VK := Lib.hid (VL.out wr hB ((k : Int) + 1) (by omega) (by omega))
      have PK := PS.out k
      have hk1 := HB.out ((k : Int) + 1)
      have m0 : wr.cell? ⟨w.heap.size, 0, none⟩ = some (.int .i64 p) := (hB.cell (show w.heap.size < w2.heap.size by omega)).trans n0
      obtain ⟨y, hy⟩ : ∃ z, Lw.hornV p (sec :: more) ((k : Int) + 1) = z := ⟨_, rfl⟩
      rw [hy] at VK PK hk1
      have PK := Lib.hid PK
      have OWN := Lib.hid own
      clear own hy
      have kk : k ≤ 251 := by omega
      go_wp2_with fail
      refine VK.out.mono ?_
      rintro e w4 ⟨rfl, hb4⟩
      have hB4 := Lw.bt hB hb4
      have hsz4 := hB4.size
      have O4 := Lib.hid (Lw.ownsBelow OWN.out (Nat.le_refl _) hb4)
      go_wp2_with (at_builtin; go_loud (refine Lw.wpList_app elPnt rfl _ _ rfl rfl (O4.out.alloc _) rfl (by first | exact Lw.Rd.nil _ _ _ | exact Lw.Rd.lit (Lw.blk_new' (by simp) _ _) rfl rfl | exact Lw.Rd.lit (Lw.blk_alloc (Lw.blk_new' (by simp) _ _) _) rfl rfl) (Lw.pairs_one _ _) (by omega) (Lw.balloc hB4 _) (Nat.le_refl _) (by simp; omega) ?_); intro v2 w5 own5 hb5 _ _)
      have O5 := Lib.hid own5
      clear own5
      go_wp2
      go_roundw
      case rel => exact ⟨k + 1, by go_num, by omega, by rw [PK.out, Lw.pairsV_append]; exact O5.out, hb5⟩
      case measure => simp [intOf]; omega
    · have hkn : k = n := by omega
      subst hkn
      have hnl : ¬ (k : Int) + 1 ≤ (k : Int) := by omega
      obtain ⟨D, e, rfl, hg, _⟩ := Lw.ownsForm own
      have RR := Lib.hid (Lw.Rd.of_own own)
      clear own
      go_wp2
      go_ret2
      exact ⟨D, e, rfl, RR.out, hBW.trans ((Lw.bt hB2 hB).mono hBW.size)⟩
end Go.Proofs.Ytfocpbknckmmaaa
namespace Lw
open Go Go.RowKit
def PtsO (e2 : TypeId) (p : Int) (a : List Int) (n : Nat) (w : World) (e : Ending) (w' : World) : Prop := ∃ C g, e = .returned (.slice C n g) ∧ w'.ownsRow w.heap.size e2 2 (.slice C n g) n (pairsV .i64 .i64 (ptsL p a n)) ∧ Below w.heap.size w w'
end Lw
set_option linter.unusedVariables false
set_option linter.unusedSimpArgs false
namespace Go.Proofs.Ytfocpbknckmmaaa
open Go.RowKit
set_option maxRecDepth 100000 in
set_option maxHeartbeats 4000000 in
theorem ref_SplitO (p sec : Int) (n : Nat) (A : Option Addr) (m c : Nat) (more : List Int) (w : World) (RA : Lw.Rd w 1 A m (Lw.intsV .i64 more)) (p1 : 2 ≤ p) (p2 : p ≤ 251) (hm : m ≤ 12) (s0 : 0 ≤ sec) (s1 : sec < p) (hb : ∀ x ∈ more, 0 ≤ x ∧ x < p) (hn : (n : Int) < p) :
    Calls Try.prog 26 #[.int .i64 p, .int .i64 sec, .slice A m c, .int .i64 (n : Int)] w (Lw.PtsO 57 p (sec :: more) n w) := by
  have lm : more.length = m := by have := RA.1; simpa [Lw.intsV] using this
  have PS := Lib.hid (Lw.pts_succ p (sec :: more))
  have SH := Lib.hid (fun x (x0 : 0 ≤ x) (x1 : x < p) => Lw.spl_horn (p := p) (sec := sec) (x := x) (more := more) p1 s0 s1 x0 x1)
  rw [lm] at SH
  have PB := Lib.hid (fun x k => Lw.powS_bd (p := p) (x := x) p1 k)
  have SB := Lib.hid (fun x k => Lw.splS_bd (p := p) (sec := sec) (x := x) (more := more) p1 s0 s1 k)
  have PN : Hid (∀ x k, Lw.powS p x (k + 1) = Lw.powS p x k * x % p) := fun _ _ => rfl
  have SN : Hid (∀ x k, Lw.splS p sec more x (k + 1) = (Lw.splS p sec more x k + more.getD k 0 * Lw.powS p x (k + 1)) % p) := fun _ _ => rfl
  have S0 : Hid (∀ x, Lw.splS p sec more x 0 = sec) := fun _ => rfl
  have P0 : Hid (∀ x, Lw.powS p x 0 = 1) := fun _ => rfl
  have HBM := Lib.hid hb
  have LM := Lib.hid lm
  have RA := Lib.hid RA
  have p0 : ¬ p = 0 := by omega
  clear lm hb
  go_enter Try.func26, Try.ntmps26
  go_wp2_with fail
  go_loopw [9, 10, 11, 12, 14] (fun l x y pw cc wr => ∃ k : Nat, x = .int .i64 ((k : Int) + 1) ∧ k ≤ n ∧ wr.ownsRow w.heap.size 57 2 l k (Lw.pairsV .i64 .i64 (Lw.ptsL p (sec :: more) k)) ∧ Below w.heap.size w wr) (fun _ x _ _ _ _ => n + 1 - (intOf x).toNat)
  case atStart => exact ⟨0, rfl, by omega, World.ownsRow_nil _ _ _ _, Below.refl _ _⟩
  case round =>
    obtain ⟨k, rfl, hk, own, hB⟩ := hrel
    have hszr := hB.size
    by_cases hlt : k < n
    · have hlt' : (k : Int) + 1 ≤ (n : Int) := by omega
      have PK := PS.out k
      have SHK := SH.out ((k : Int) + 1) (by omega) (by omega)
      obtain ⟨x, hx⟩ : ∃ z : Int, (k : Int) + 1 = z := ⟨_, rfl⟩
      have x0 : 0 ≤ x := by omega
      have x1 : x < p := by omega
      rw [hx] at PK SHK hlt'
      rw [hx]
      obtain ⟨y, hy⟩ : ∃ z, Lw.hornV p (sec :: more) x = z := ⟨_, rfl⟩
      rw [hy] at PK SHK
      have HX := Lib.hid hx
      have PK := Lib.hid PK
      have SHK := Lib.hid SHK
      have OWN := Lib.hid own
      have RR := Lib.hid (RA.out.below (Nat.le_refl _) hB)
      have kk : k ≤ 251 := by omega
      clear own hx hy
      go_wp2_with fail
      go_loop [11, 12, 14, 23] (fun y pw cc i => ∃ j : Nat, i = .int .i64 (j : Int) ∧ j ≤ m ∧ y = .int .i64 (Lw.splS p sec more x j) ∧ pw = .int .i64 (Lw.powS p x j)) (fun _ _ _ i => m - (intOf i).toNat)
      case atStart => exact ⟨0, rfl, by omega, by rw [S0.out], by rw [P0.out]⟩
      case round =>
        obtain ⟨j, rfl, hj, rfl, rfl⟩ := hrel
        obtain ⟨q1, q2⟩ := PB.out x j
        obtain ⟨t1, t2⟩ := SB.out x j
        by_cases hjl : j < m
        · have hl : j < more.length := by rw [LM.out]; exact hjl
          obtain ⟨ad, rfl, had, hcell⟩ := RR.out.at1 hjl (Lw.intsV_get hl)
          obtain ⟨c1, c2⟩ := HBM.out _ (List.getElem_mem hl)
          have PNJ := PN.out x j
          have SNJ := SN.out x j
          obtain ⟨u1, u2⟩ := PB.out x (j + 1)
          rw [Lw.getD_at hl] at SNJ
          obtain ⟨cv, hc⟩ : ∃ z, more[j] = z := ⟨_, rfl⟩
          obtain ⟨P, hP⟩ : ∃ z, Lw.powS p x j = z := ⟨_, rfl⟩
          obtain ⟨P', hP'⟩ : ∃ z, Lw.powS p x (j + 1) = z := ⟨_, rfl⟩
          obtain ⟨S, hS⟩ : ∃ z, Lw.splS p sec more x j = z := ⟨_, rfl⟩
          rw [hc] at hcell SNJ c1 c2
          rw [hP] at q1 q2 PNJ
          rw [hP'] at PNJ SNJ u1 u2
          rw [hS] at SNJ t1 t2
          rw [hP, hS]
          obtain ⟨m1, m2⟩ := Lw.mul_ab (κ := P) (x := x) (by omega) (by omega) x0 (by omega)
          have m3 : 0 ≤ P * x := Int.mul_nonneg q1 x0
          obtain ⟨m4, m5⟩ := Lw.mul_ab (κ := cv) (x := P') (by omega) (by omega) u1 (by omega)
          have m6 : 0 ≤ cv * P' := Int.mul_nonneg c1 u1
          have e1 : IntKind.i64.wrap (P * x) = P * x := by rw [IntKind.wrap_i64]; omega
          have e2 : (P * x).tmod p = P' := by rw [Int.tmod_eq_emod_of_nonneg m3, PNJ]
          have e3 : IntKind.i64.wrap (cv * P') = cv * P' := by rw [IntKind.wrap_i64]; omega
          have e4 : IntKind.i64.wrap (S + cv * P') = S + cv * P' := by rw [IntKind.wrap_i64]; omega
          have e5 : (S + cv * P').tmod p = (S + cv * P') % p := Int.tmod_eq_emod_of_nonneg (by omega)
          have SNJ := Lib.hid SNJ
          have HP' := Lib.hid hP'
          have hjl' : (j : Int) < (m : Int) := by omega
          clear hc hP hP' hS PNJ hl had
          go_wp2_with fail
          go_round
          case rel => exact ⟨j + 1, by go_num, by omega, by rw [SNJ.out], by rw [HP'.out]⟩
          case measure => simp [intOf]; omega
        · have hjm : j = m := by omega
          subst hjm
          rw [SHK.out]
          clear q1 q2 t1 t2
          go_wp2_with (at_builtin; refine Lw.wpList_app elPnt rfl _ _ rfl rfl (OWN.out.alloc _) rfl (by first | exact Lw.Rd.nil _ _ _ | exact Lw.Rd.lit (Lw.blk_new' (by simp) _ _) rfl rfl | exact Lw.Rd.lit (Lw.blk_alloc (Lw.blk_new' (by simp) _ _) _) rfl rfl) (Lw.pairs_one _ _) (by omega) (Lw.balloc hB _) (Nat.le_refl _) (by simp; omega) ?_; intro v2 w5 own5 hb5 _ _)
          have O5 := Lib.hid own5
          clear own5
          go_wp2
          go_roundw
          case rel => exact ⟨k + 1, by rw [← HX.out]; go_num, by omega, by rw [PK.out, Lw.pairsV_append]; exact O5.out, hb5⟩
          case measure => simp [intOf]; omega
    · have hkn : k = n := by omega
      subst hkn
      have hnl : ¬ (k : Int) + 1 ≤ (k : Int) := by omega
      obtain ⟨D, e, rfl, hg, _⟩ := Lw.ownsForm own
      have RR := Lib.hid own
      clear own
      go_wp2
      go_ret
      exact ⟨D, e, rfl, RR.out, hB⟩
theorem ref_Split (p sec : Int) (n : Nat) (A : Option Addr) (m c : Nat) (more : List Int) (w : World) (RA : Lw.Rd w 1 A m (Lw.intsV .i64 more)) (p1 : 2 ≤ p) (p2 : p ≤ 251) (hm : m ≤ 12) (s0 : 0 ≤ sec) (s1 : sec < p) (hb : ∀ x ∈ more, 0 ≤ x ∧ x < p) (hn : (n : Int) < p) :
    Calls Try.prog 26 #[.int .i64 p, .int .i64 sec, .slice A m c, .int .i64 (n : Int)] w (Lw.PtsF p (sec :: more) n w) :=
  (ref_SplitO p sec n A m c more w RA p1 p2 hm s0 s1 hb hn).mono fun e w' ⟨C, g, he, ho, hb⟩ => ⟨C, g, he, Lw.Rd.of_own ho, hb⟩
end Go.Proofs.Ytfocpbknckmmaaa
set_option linter.unusedVariables false
set_option linter.unusedSimpArgs false
namespace Go.Proofs.Ytfocpbknckmmaaa
open Go.RowKit
end Go.Proofs.Ytfocpbknckmmaaa
set_option linter.unusedVariables false
set_option linter.unusedSimpArgs false
namespace Go.Proofs.Ytfocpbknckmmaaa
open Go.RowKit
set_option maxRecDepth 100000 in
set_option maxHeartbeats 4000000 in
theorem ref_Join (p : Int) (A : Option Addr) (n c : Nat) (L : List Lw.PtT) (w : World) (R : Lw.Rd w 2 A n (Lw.pairsV .i64 .i64 L)) (p1 : 2 ≤ p) (p2 : p ≤ 251) (pp : Lw.primeB p = true) (h13 : L.length ≤ 13) (hL : Lw.PtsOk p L) :
    Calls Try.prog 27 #[.int .i64 p, .slice A n c] w fun e w' => e = .returned (.int .i64 (Lw.jnS p L L.length)) ∧ Below w.heap.size w w' := by
  have lL := Lw.pairsV_len R
  have BD := Lib.hid (fun k hk => hL.bd (k := k) hk)
  have NE := Lib.hid (fun i j (hi : i < L.length) (hj : j < L.length) (e : j ≠ i) => hL.ne hj hi e)
  have IV := Lib.hid (fun x (x0 : 0 < x) (x1 : x < p) w => ref_inverse x p w pp (by omega) x0 x1)
  have IB := Lib.hid (fun a (h1 : 0 < a) (h2 : a < p) => (Lw.inv_prime (p := p) (b := a) pp (by omega) h1 h2).2)
  have KB := Lib.hid (fun i (hi : i < L.length) j => Lw.jnK_bd (p := p) (by omega) (hL.bd hi).2 j)
  have SB := Lib.hid (fun k => Lw.jnS_bd (p := p) (L := L) (by omega) k)
  have LL := Lib.hid lL
  have n13 : n ≤ 13 := by omega
  have R := Lib.hid R
  have hp0 : ¬ p = 0 := by omega
  clear hL pp lL h13
  go_enter Try.func27, Try.ntmps27
  go_wp2_with fail
  go_loopw [5, 6, 7, 8] (fun sv iv kv jv wr => ∃ (i : Nat), iv = .int .i64 (i : Int) ∧ i ≤ n ∧ sv = .int .i64 (Lw.jnS p L i) ∧ Below w.heap.size w wr) (fun _ iv _ _ _ => n - (intOf iv).toNat)
  case atStart => exact ⟨0, rfl, by omega, rfl, Below.refl _ _⟩
  case round =>
    obtain ⟨i, rfl, hi, rfl, hB⟩ := hrel
    obtain ⟨W0, hW0⟩ : ∃ W0, W0 = wr := ⟨_, rfl⟩
    subst hW0
    by_cases hlt : i < n
    · have hl : i < L.length := by rw [LL.out]; exact hlt
      obtain ⟨g0, g1⟩ := Lw.pairsV_get (k := .i64) (l := .i64) hl
      obtain ⟨ad, rfl, had, d0, d1⟩ := (R.out.below (Nat.le_refl _) hB).at2 hlt g0 g1
      rw [← Lw.ptG_at hl] at d0 d1
      have K0 : Hid (Lw.jnK p L i 0 = (Lw.ptG L i).2) := Lib.hid rfl
      have hlt' : (i : Int) < (n : Int) := by omega
      have NXT : Hid (Lw.jnS p L (i + 1) = (Lw.jnS p L i + Lw.jnK p L i n) % p) := Lib.hid (by rw [← LL.out]; rfl)
      obtain ⟨s0, s1⟩ := SB.out i
      generalize Lw.jnS p L i = s at *
      obtain ⟨⟨x0, x1⟩, y0, y1⟩ := BD.out i hl
      obtain ⟨⟨x, y⟩, hx⟩ : ∃ z, Lw.ptG L i = z := ⟨_, rfl⟩
      rw [hx] at d0 d1 K0 x0 x1
      simp only at d0 d1 K0 x0 x1
      have HX := Lib.hid hx
      clear hx g0 g1 y0 y1 SB
      go_wp2_with fail
      go_loopw [7, 8] (fun kv jv wr => ∃ (j : Nat), jv = .int .i64 (j : Int) ∧ j ≤ n ∧ kv = .int .i64 (Lw.jnK p L i j) ∧ Below W0.heap.size W0 wr) (fun _ jv _ => n - (intOf jv).toNat)
      case atStart => exact ⟨0, rfl, by omega, by rw [K0.out], Below.refl _ _⟩
      case round =>
        obtain ⟨j, rfl, hj, rfl, hZ⟩ := hrel
        by_cases hjl : j < n
        · have hjl' : (j : Int) < (n : Int) := by omega
          have jl : j < L.length := by rw [LL.out]; exact hjl
          by_cases e : j = i
          · have zb : ((j : Int) != (i : Int)) = false := by simp; omega
            have LN : Hid (Lw.jnK p L i (j + 1) = Lw.jnK p L i j) := Lib.hid (if_pos e)
            clear KB NE IV IB BD
            go_wp2_with fail
            go_roundw
            case rel => exact ⟨j + 1, by go_num, by omega, by rw [LN.out], hZ⟩
            case measure => simp [intOf]; omega
          · have zb : ((j : Int) != (i : Int)) = true := by simp; omega
            have LN : Hid (Lw.jnK p L i (j + 1) = Lw.jnK p L i j * (Lw.ptG L j).1 % p * Lw.invR (((Lw.ptG L j).1 - (Lw.ptG L i).1) % p) p % p) := Lib.hid (if_neg e)
            obtain ⟨k0, k1⟩ := KB.out i hl j
            have ne := NE.out i j hl jl e
            have xb := (BD.out j jl).1
            obtain ⟨g0, g1⟩ := Lw.pairsV_get (k := .i64) (l := .i64) jl
            obtain ⟨af, e1, haf, f0, f1⟩ := (R.out.below (Nat.le_refl _) (Lw.bt hB hZ)).at2 hjl g0 g1
            injection e1 with e1
            subst e1
            rw [← Lw.ptG_at jl] at f0
            rw [HX.out] at ne LN
            have d0' : wr.cell? (ad.add (i * 2)) = some (.int .i64 x) := (hZ.cell (p := ad.add (i * 2)) (by rw [Lw.add_block]; exact had)).trans d0
            have bl1 : (ad.add (i * 2)).block < wr.heap.size := by rw [Lw.add_block]; exact haf
            have bl2 : (ad.add (j * 2)).block < wr.heap.size := by rw [Lw.add_block]; exact haf
            generalize Lw.jnK p L i j = κ at *
            obtain ⟨⟨u, v⟩, hu⟩ : ∃ z, Lw.ptG L j = z := ⟨_, rfl⟩
            rw [hu] at f0 ne LN xb
            simp only at f0 ne LN xb
            obtain ⟨u0, u1⟩ := xb
            have a0 := Int.emod_nonneg (u - x) hp0
            have a1 := Int.emod_lt_of_pos (u - x) (by omega : 0 < p)
            have MD := Lib.hid (fun w => ref_Mod (u - x) p w (by omega) (by omega))
            obtain ⟨t, ht⟩ : ∃ t, (u - x) % p = t := ⟨_, rfl⟩
            rw [ht] at a0 a1 MD ne LN
            have IVV := Lib.hid (fun w => IV.out t (by omega) a1 w)
            obtain ⟨v0, v1⟩ := IB.out t (by omega) a1
            have w1' : IntKind.i64.wrap (u - x) = u - x := by rw [IntKind.wrap_i64]; omega
            obtain ⟨m0, m1⟩ := Lw.mul_bd' κ u 251 k0 (by omega) u0 (by omega)
            have e1 : IntKind.i64.wrap (κ * u) = κ * u := by rw [IntKind.wrap_i64]; omega
            have e2 : (κ * u).tmod p = κ * u % p := Int.tmod_eq_emod_of_nonneg m0
            have r0 := Int.emod_nonneg (κ * u) hp0
            have r1 := Int.emod_lt_of_pos (κ * u) (by omega : 0 < p)
            generalize κ * u % p = q at *
            generalize Lw.invR t p = ii at *
            obtain ⟨m2, m3⟩ := Lw.mul_bd' q ii 251 r0 (by omega) v0 (by omega)
            have e3 : IntKind.i64.wrap (q * ii) = q * ii := by rw [IntKind.wrap_i64]; omega
            have e4 : (q * ii).tmod p = q * ii % p := Int.tmod_eq_emod_of_nonneg m2
            clear m0 m1 m2 m3 r0 r1 v0 v1 a0 a1 ht u0 u1 k0 k1 ne g0 g1 f1 hu KB NE IV IB BD
            go_wp2_with fail
            refine wp_region_held_drew (S := Lw.Sm wr) (by kernel_rfl) (Lw.sm_drew wr) (fun hHeld => ?_)
            (refine Lw.take1 (i := 0) (v := ?_) rfl (by kernel_rfl) (by kernel_rfl) (by kernel_rfl) (fun _ _ _ h => h) (Or.inl ⟨by rfl, ?_⟩) (by assumption) ?_; rotate_left 1; (focus (intro wS hSw; obtain ⟨hS1, hS2, hS3, hS4⟩ := hSw; go_simp <;> with_reducible rfl)); (try simp only [Act.put, List.setIfInBounds_toArray, List.set_cons_zero, List.set_cons_succ]))
            (refine Lw.take1 (i := 1) (v := ?_) rfl (by kernel_rfl) (by kernel_rfl) (by kernel_rfl) (fun _ _ _ h => h) (Or.inl ⟨by rfl, ?_⟩) (by assumption) ?_; rotate_left 1; (focus (intro wS hSw; obtain ⟨hS1, hS2, hS3, hS4⟩ := hSw; go_simp <;> with_reducible rfl)); (try simp only [Act.put, List.setIfInBounds_toArray, List.set_cons_zero, List.set_cons_succ]))
            (refine Lw.take1 (i := 2) (v := ?_) rfl (by kernel_rfl) (by kernel_rfl) (by kernel_rfl) (fun _ _ _ h => h) (Or.inl ⟨by rfl, ?_⟩) (by assumption) ?_; rotate_left 1; (focus (intro wS hSw; obtain ⟨hS1, hS2, hS3, hS4⟩ := hSw; go_simp <;> with_reducible rfl)); (try simp only [Act.put, List.setIfInBounds_toArray, List.set_cons_zero, List.set_cons_succ]))
            (refine Lw.take1 (i := 3) (v := ?_) rfl (by kernel_rfl) (by kernel_rfl) (by kernel_rfl) (fun _ _ _ h => h) (Or.inl ⟨by rfl, ?_⟩) (by assumption) ?_; rotate_left 1; (focus (intro wS hSw; obtain ⟨hS1, hS2, hS3, hS4⟩ := hSw; go_simp <;> with_reducible rfl)); (try simp only [Act.put, List.setIfInBounds_toArray, List.set_cons_zero, List.set_cons_succ]))
            (refine Lw.take1 (i := 4) (v := ?_) rfl (by kernel_rfl) (by kernel_rfl) (by kernel_rfl) (fun _ _ _ h => h) (Or.inl ⟨by rfl, ?_⟩) (by assumption) ?_; rotate_left 1; (focus (intro wS hSw; obtain ⟨hS1, hS2, hS3, hS4⟩ := hSw; go_simp <;> with_reducible rfl)); (try simp only [Act.put, List.setIfInBounds_toArray, List.set_cons_zero, List.set_cons_succ]))
            (refine Lw.take1 (i := 5) (v := ?_) rfl (by kernel_rfl) (by kernel_rfl) (by kernel_rfl) (fun _ _ _ h => h) (Or.inl ⟨by rfl, ?_⟩) (by assumption) ?_; rotate_left 1; (focus (intro wS hSw; obtain ⟨hS1, hS2, hS3, hS4⟩ := hSw; go_simp <;> with_reducible rfl)); (try simp only [Act.put, List.setIfInBounds_toArray, List.set_cons_zero, List.set_cons_succ]))
            (refine Lw.take1 (i := 6) (v := ?_) rfl (by kernel_rfl) (by kernel_rfl) (by kernel_rfl) (fun _ _ _ h => h) (Or.inl ⟨by rfl, ?_⟩) (by assumption) ?_; rotate_left 1; (focus (intro wS hSw; obtain ⟨hS1, hS2, hS3, hS4⟩ := hSw; go_simp <;> with_reducible rfl)); (try simp only [Act.put, List.setIfInBounds_toArray, List.set_cons_zero, List.set_cons_succ]))
            (refine Lw.take1 (i := 7) (v := ?_) rfl (by kernel_rfl) (by kernel_rfl) (by kernel_rfl) (fun _ _ _ h => h) (Or.inl ⟨by rfl, ?_⟩) (by assumption) ?_; rotate_left 1; (focus (intro wS hSw; obtain ⟨hS1, hS2, hS3, hS4⟩ := hSw; go_simp <;> with_reducible rfl)); (try simp only [Act.put, List.setIfInBounds_toArray, List.set_cons_zero, List.set_cons_succ]))
            (refine Lw.take1 (i := 8) (v := ?_) rfl (by kernel_rfl) (by kernel_rfl) (by kernel_rfl) (fun _ _ _ h => h) (Or.inl ⟨by rfl, ?_⟩) (by assumption) ?_; rotate_left 1; (focus (intro wS hSw; obtain ⟨hS1, hS2, hS3, hS4⟩ := hSw; go_simp <;> with_reducible rfl)); (try simp only [Act.put, List.setIfInBounds_toArray, List.set_cons_zero, List.set_cons_succ]))
            (refine Lw.take1 (i := 9) (v := ?_) rfl (by kernel_rfl) (by kernel_rfl) (by kernel_rfl) (fun _ _ _ h => h) (Or.inl ⟨by rfl, ?_⟩) (by assumption) ?_; rotate_left 1; (focus (intro wS hSw; obtain ⟨hS1, hS2, hS3, hS4⟩ := hSw; go_simp <;> with_reducible rfl)); (try simp only [Act.put, List.setIfInBounds_toArray, List.set_cons_zero, List.set_cons_succ]))
            (refine Lw.take1 (i := 10) (v := ?_) rfl (by kernel_rfl) (by kernel_rfl) (by kernel_rfl) (fun _ _ _ h => h) (Or.inl ⟨by rfl, ?_⟩) (by assumption) ?_; rotate_left 1; (focus (intro wS hSw; obtain ⟨hS1, hS2, hS3, hS4⟩ := hSw; go_simp <;> with_reducible rfl)); (try simp only [Act.put, List.setIfInBounds_toArray, List.set_cons_zero, List.set_cons_succ]))
            (refine Lw.take1 (i := 11) (v := ?_) rfl (by kernel_rfl) (by kernel_rfl) (by kernel_rfl) (fun _ _ _ h => h) (Or.inl ⟨by rfl, ?_⟩) (by assumption) ?_; rotate_left 1; (focus (intro wS hSw; obtain ⟨hS1, hS2, hS3, hS4⟩ := hSw; go_simp <;> with_reducible rfl)); (try simp only [Act.put, List.setIfInBounds_toArray, List.set_cons_zero, List.set_cons_succ]))
            (refine Lw.take1 (i := 12) (v := ?_) rfl (by kernel_rfl) (by kernel_rfl) (by kernel_rfl) (fun _ _ _ h => h) (Or.inl ⟨by rfl, ?_⟩) (by assumption) ?_; rotate_left 1; (focus (intro wS hSw; obtain ⟨hS1, hS2, hS3, hS4⟩ := hSw; go_simp <;> with_reducible rfl)); (try simp only [Act.put, List.setIfInBounds_toArray, List.set_cons_zero, List.set_cons_succ]))
            (refine Lw.take1 (i := 13) (v := ?_) rfl (by kernel_rfl) (by kernel_rfl) (by kernel_rfl) (fun _ _ _ h => h) (Or.inl ⟨by rfl, ?_⟩) (by assumption) ?_; rotate_left 1; (focus (intro wS hSw; obtain ⟨hS1, hS2, hS3, hS4⟩ := hSw; go_simp <;> with_reducible rfl)); (try simp only [Act.put, List.setIfInBounds_toArray, List.set_cons_zero, List.set_cons_succ]))
            (refine Lw.take1 (i := 14) (v := ?_) rfl (by kernel_rfl) (by kernel_rfl) (by kernel_rfl) (fun _ _ _ h => h) (Or.inl ⟨by rfl, ?_⟩) (by assumption) ?_; rotate_left 1; (focus (intro wS hSw; obtain ⟨hS1, hS2, hS3, hS4⟩ := hSw; go_simp <;> with_reducible rfl)); (try simp only [Act.put, List.setIfInBounds_toArray, List.set_cons_zero, List.set_cons_succ]))
            (refine Lw.take1 (i := 15) (v := ?_) rfl (by kernel_rfl) (by kernel_rfl) (by kernel_rfl) (fun _ _ _ h => h) (Or.inl ⟨by rfl, ?_⟩) (by assumption) ?_; rotate_left 1; (focus (intro wS hSw; obtain ⟨hS1, hS2, hS3, hS4⟩ := hSw; go_simp <;> with_reducible rfl)); (try simp only [Act.put, List.setIfInBounds_toArray, List.set_cons_zero, List.set_cons_succ]))
            (refine Lw.take1 (i := 16) (v := ?_) rfl (by kernel_rfl) (by kernel_rfl) (by kernel_rfl) (fun _ _ _ h => h) (Or.inl ⟨by rfl, ?_⟩) (by assumption) ?_; rotate_left 1; (focus (intro wS hSw; obtain ⟨hS1, hS2, hS3, hS4⟩ := hSw; go_simp <;> with_reducible rfl)); (try simp only [Act.put, List.setIfInBounds_toArray, List.set_cons_zero, List.set_cons_succ]))
            (refine Lw.take1 (i := 17) (v := ?_) rfl (by kernel_rfl) (by kernel_rfl) (by kernel_rfl) (fun _ _ _ h => h) (Or.inl ⟨by rfl, ?_⟩) (by assumption) ?_; rotate_left 1; (focus (intro wS hSw; obtain ⟨hS1, hS2, hS3, hS4⟩ := hSw; go_simp <;> with_reducible rfl)); (try simp only [Act.put, List.setIfInBounds_toArray, List.set_cons_zero, List.set_cons_succ]))
            (refine Lw.take1 (i := 18) (v := ?_) rfl (by kernel_rfl) (by kernel_rfl) (by kernel_rfl) (fun _ _ _ h => h) (Or.inl ⟨by rfl, ?_⟩) (by assumption) ?_; rotate_left 1; (focus (intro wS hSw; obtain ⟨hS1, hS2, hS3, hS4⟩ := hSw; go_simp <;> with_reducible rfl)); (try simp only [Act.put, List.setIfInBounds_toArray, List.set_cons_zero, List.set_cons_succ]))
            (refine Lw.take1 (i := 19) (v := ?_) rfl (by kernel_rfl) (by kernel_rfl) (by kernel_rfl) (fun _ _ _ h => h) (Or.inl ⟨by rfl, ?_⟩) (by assumption) ?_; rotate_left 1; (focus (intro wS hSw; obtain ⟨hS1, hS2, hS3, hS4⟩ := hSw; go_simp <;> with_reducible rfl)); (try simp only [Act.put, List.setIfInBounds_toArray, List.set_cons_zero, List.set_cons_succ]))
            (refine Lw.take1 (i := 20) (v := ?_) rfl (by kernel_rfl) (by kernel_rfl) (by kernel_rfl) (fun _ _ _ h => h) (Or.inl ⟨by rfl, ?_⟩) (by assumption) ?_; rotate_left 1; (focus (intro wS hSw; obtain ⟨hS1, hS2, hS3, hS4⟩ := hSw; go_simp <;> with_reducible rfl)); (try simp only [Act.put, List.setIfInBounds_toArray, List.set_cons_zero, List.set_cons_succ]))
            (refine Lw.take1 (i := 22) (v := ?_) rfl (by kernel_rfl) (by kernel_rfl) (by kernel_rfl) (fun _ _ _ h => h) (Or.inl ⟨by rfl, ?_⟩) (by assumption) ?_; rotate_left 1; (focus (intro wS hSw; obtain ⟨hS1, hS2, hS3, hS4⟩ := hSw; go_simp <;> with_reducible rfl)); (try simp only [Act.put, List.setIfInBounds_toArray, List.set_cons_zero, List.set_cons_succ]))
            (refine Lw.take1 (i := 25) (v := ?_) rfl (by kernel_rfl) (by kernel_rfl) (by kernel_rfl) (fun _ _ _ h => h) (Or.inl ⟨by rfl, ?_⟩) (by assumption) ?_; rotate_left 1; (focus (intro wS hSw; obtain ⟨hS1, hS2, hS3, hS4⟩ := hSw; go_simp <;> with_reducible rfl)); (try simp only [Act.put, List.setIfInBounds_toArray, List.set_cons_zero, List.set_cons_succ]))
            (refine wpAnyH_ready (rs := [21]) (by kernel_rfl) (by simp) ?_; refine Lw.cons1 (i := 21) rfl (fun K hK => ?_) AllReadyH.nil; go_simp; go_at_call 47; (with_reducible refine (MD.out _).mono ?_); rintro e w' ⟨rfl, rfl⟩; refine hK.out _ _ ?_ (fun hHeld => ?_); (focus exact Lw.sm_drew wr); clear hK K; (try simp only [Act.put, List.setIfInBounds_toArray, List.set_cons_zero, List.set_cons_succ]))
            (refine wpAnyH_ready (rs := [23]) (by kernel_rfl) (by simp) ?_; refine Lw.cons1 (i := 23) rfl (fun K hK => ?_) AllReadyH.nil; go_simp; go_at_call 46; (with_reducible refine (IVV.out _).mono ?_); rintro e w' ⟨rfl, rfl⟩; refine hK.out _ _ ?_ (fun hHeld => ?_); (focus exact Lw.sm_drew wr); clear hK K; (try simp only [Act.put, List.setIfInBounds_toArray, List.set_cons_zero, List.set_cons_succ]))
            (refine Lw.take1 (i := 24) (v := ?_) rfl (by kernel_rfl) (by kernel_rfl) (by kernel_rfl) (fun _ _ _ h => h) (Or.inl ⟨by rfl, ?_⟩) (by assumption) ?_; rotate_left 1; (focus (intro wS hSw; obtain ⟨hS1, hS2, hS3, hS4⟩ := hSw; go_simp <;> with_reducible rfl)); (try simp only [Act.put, List.setIfInBounds_toArray, List.set_cons_zero, List.set_cons_succ]))
            (refine Lw.take1 (i := 26) (v := ?_) rfl (by kernel_rfl) (by kernel_rfl) (by kernel_rfl) (fun _ _ _ h => h) (Or.inl ⟨by rfl, ?_⟩) (by assumption) ?_; rotate_left 1; (focus (intro wS hSw; obtain ⟨hS1, hS2, hS3, hS4⟩ := hSw; go_simp <;> with_reducible rfl)); (try simp only [Act.put, List.setIfInBounds_toArray, List.set_cons_zero, List.set_cons_succ]))
            (refine Lw.take1 (i := 27) (v := ?_) rfl (by kernel_rfl) (by kernel_rfl) (by kernel_rfl) (fun _ _ _ h => h) (Or.inl ⟨by rfl, ?_⟩) (by assumption) ?_; rotate_left 1; (focus (intro wS hSw; obtain ⟨hS1, hS2, hS3, hS4⟩ := hSw; go_simp <;> with_reducible rfl)); (try simp only [Act.put, List.setIfInBounds_toArray, List.set_cons_zero, List.set_cons_succ]))
            refine wpAnyH_done (by kernel_rfl) ?_ _
            have hS := Lw.sm_drew wr
            go_wp2_with fail
            go_roundw
            case rel => exact ⟨j + 1, by go_num, by omega, by rw [LN.out], Lw.bt hZ (Lw.sm_bel hS)⟩
            case measure => simp [intOf]; omega
        · have hjn : j = n := by omega
          subst hjn
          obtain ⟨k0, k1⟩ := KB.out i hl j
          have e5 : IntKind.i64.wrap (s + Lw.jnK p L i j) = s + Lw.jnK p L i j := by rw [IntKind.wrap_i64]; omega
          have e6 : (s + Lw.jnK p L i j).tmod p = (s + Lw.jnK p L i j) % p := Int.tmod_eq_emod_of_nonneg (by omega)
          clear KB NE IV IB BD
          go_wp2_with fail
          go_roundw
          case rel => exact ⟨i + 1, by go_num, by omega, by rw [NXT.out], Lw.bt hB hZ⟩
          case measure => simp [intOf]; omega
    · have hin : i = n := by omega
      subst hin
      go_wp2_with fail
      go_ret
      exact ⟨by rw [LL.out]; rfl, hB⟩
end Go.Proofs.Ytfocpbknckmmaaa
namespace Lw
open Go Go.RowKit
theorem polyE_nil' (p : Int) : polyE p [] = pprE p := by
  by_cases h : pprE p = 0
  · rw [poly_in h (by decide), h]; rfl
  · rw [poly_p h]
def ParP (p t : Int) : Prop := 0 ≤ t ∧ t ≤ 4 ∧ 2 * t + 1 < p
instance (p t : Int) : Decidable (ParP p t) := inferInstanceAs (Decidable (0 ≤ t ∧ t ≤ 4 ∧ 2 * t + 1 < p))
/-- shares as points -/
def opL (ys : List Int) (k : Nat) : List PtT := (List.range k).map fun (i : Nat) => (((i : Nat) : Int) + 1, ys.getD i 0)
theorem opL_len (ys : List Int) (k : Nat) : (opL ys k).length = k := by simp [opL]
theorem opL_succ (ys : List Int) (k : Nat) : opL ys (k + 1) = opL ys k ++ [((k : Int) + 1, ys.getD k 0)] := by unfold opL; rw [List.range_succ, List.map_append, List.map_singleton]
theorem opL_at {ys : List Int} {n k : Nat} (h : k < n) : ptG (opL ys n) k = ((k : Int) + 1, ys.getD k 0) := by
  rw [ptG_at (by rw [opL_len]; exact h)]; simp [opL]
open Classical in
noncomputable def opnE (p t : Int) (ys : List Int) : Int := if ¬ pprE p = 0 then pprE p else if ¬ ParP p t ∨ outR p ys = true then 2 else if ¬ (ys.length : Int) = 2 * t + 1 then 4 else 0
theorem opn_p {p t : Int} {ys : List Int} (h : ¬ pprE p = 0) : opnE p t ys = pprE p := if_pos h
theorem opn_r {p t : Int} {ys : List Int} (h : pprE p = 0) (h1 : ¬ ParP p t ∨ outR p ys = true) : opnE p t ys = 2 := by unfold opnE; rw [if_neg (by simp [h]), if_pos h1]
theorem opn_f {p t : Int} {ys : List Int} (h : pprE p = 0) (h1 : ParP p t) (h2 : outR p ys = false) (h3 : ¬ (ys.length : Int) = 2 * t + 1) : opnE p t ys = 4 := by unfold opnE; rw [if_neg (by simp [h]), if_neg (by simp [h1, h2]), if_pos h3]
theorem opn_0 {p t : Int} {ys : List Int} (h : pprE p = 0) (h1 : ParP p t) (h2 : outR p ys = false) (h3 : (ys.length : Int) = 2 * t + 1) : opnE p t ys = 0 := by unfold opnE; rw [if_neg (by simp [h]), if_neg (by simp [h1, h2]), if_neg (by simp [h3])]
theorem opn_pts {p t : Int} {ys : List Int} (h : pprE p = 0) (h1 : ParP p t) (h2 : outR p ys = false) (h3 : (ys.length : Int) = 2 * t + 1) : joinE p (opL ys ys.length) = 0 := by
  obtain ⟨p1, p2, pp⟩ := ppr_ok h
  obtain ⟨t1, t2, t3⟩ := h1
  have hb := outR_in h2
  have e0 : ptsE p (opL ys ys.length) = 0 := by
    refine pts_zero h (by rw [opL_len]; omega) (fun k hk => ?_) ?_
    · have hk' : k < ys.length := by rw [opL_len] at hk; exact hk
      have e := opL_at (ys := ys) hk'
      rw [ptG_at hk] at e
      rw [e]
      have := getD_bd (by omega : 0 < p) hb k
      generalize ys.getD k 0 = v at *
      unfold outP; simp; omega
    · rw [opL_len]
      rintro ⟨i, j, hj, hi, e⟩
      rw [fst_getD, fst_getD, opL_at hi, opL_at (by omega)] at e
      simp at e; omega
  refine join_ok e0 ?_
  rw [Bool.eq_false_iff]
  intro hz
  obtain ⟨r, hr, h5⟩ := List.any_eq_true.1 hz
  obtain ⟨i, _, rfl⟩ := List.mem_map.1 hr
  simp at h5
  omega
end Lw
set_option linter.unusedVariables false
set_option linter.unusedSimpArgs false
namespace Go.Proofs.Ytfocpbknckmmaaa
open Go.RowKit
theorem parts_parties (p t : Int) (w : World) :
    Calls Try.prog 16 #[.int .i64 p, .int .i64 t] w fun e w' => e = .returned (.bool (decide (Lw.ParP p t))) ∧ w = w' := by
  by_cases h : Lw.ParP p t
  · obtain ⟨h1, h2, h3⟩ := h
    have E := Lib.hid (show decide (Lw.ParP p t) = true from decide_eq_true ⟨h1, h2, h3⟩)
    go_enter Try.func16, Try.ntmps16
    go_wp2
    go_ret
    exact ⟨by rw [E.out]; rfl, rfl⟩
  · have E := Lib.hid (show decide (Lw.ParP p t) = false from decide_eq_false h)
    have key : t < 0 ∨ (0 ≤ t ∧ 4 < t) ∨ (0 ≤ t ∧ t ≤ 4 ∧ p ≤ 2 * t + 1 ∧ ¬ 2 * t + 1 < p) := by unfold Lw.ParP at h; omega
    clear h
    rcases key with h1 | ⟨h1, h2⟩ | ⟨h1, h2, h3, h4⟩
    all_goals
      go_enter Try.func16, Try.ntmps16
      go_wp2
      go_ret
      exact ⟨by rw [E.out]; rfl, rfl⟩
theorem ref_PartiesCheck (p t : Int) (w : World) :
    Calls Try.prog 7 #[.int .i64 p, .int .i64 t] w fun e w' => e = .returned (.int .i64 (if Lw.ParP p t then 0 else 2)) ∧ w = w' := by
  by_cases h : Lw.ParP p t
  · obtain ⟨h1, h2, h3⟩ := h
    rw [if_pos ⟨h1, h2, h3⟩]
    go_enter Try.func7, Try.ntmps7
    go_wp2
    go_ret
    exact ⟨rfl, rfl⟩
  · rw [if_neg h]
    have key : t < 0 ∨ (0 ≤ t ∧ 4 < t) ∨ (0 ≤ t ∧ t ≤ 4 ∧ p ≤ 2 * t + 1 ∧ ¬ 2 * t + 1 < p) := by unfold Lw.ParP at h; omega
    clear h
    rcases key with h1 | ⟨h1, h2⟩ | ⟨h1, h2, h3, h4⟩
    all_goals
      go_enter Try.func7, Try.ntmps7
      go_wp2
      go_ret
      exact ⟨rfl, rfl⟩
end Go.Proofs.Ytfocpbknckmmaaa
set_option linter.unusedVariables false
namespace Lw
open Go Go.RowKit
/-- by a prime the same -/
def Cg (p a b : Int) : Prop := a % p = b % p
theorem Cg.rfl' {p a : Int} : Cg p a a := rfl
theorem Cg.symm {p a b : Int} (h : Cg p a b) : Cg p b a := Eq.symm h
theorem Cg.trans {p a b c : Int} (h : Cg p a b) (k : Cg p b c) : Cg p a c := Eq.trans h k
theorem Cg.mul {p a b c d : Int} (h : Cg p a b) (k : Cg p c d) : Cg p (a * c) (b * d) := by
  unfold Cg at *; rw [Int.mul_emod, h, k, ← Int.mul_emod]
theorem Cg.left {p a b : Int} : Cg p (a % p) a := Int.emod_emod_of_dvd _ (Int.dvd_refl p)
theorem Cg.eq {p a b : Int} (h : Cg p a b) (a0 : 0 ≤ a) (a1 : a < p) (b0 : 0 ≤ b) (b1 : b < p) : a = b := by
  unfold Cg at h; rwa [Int.emod_eq_of_lt a0 a1, Int.emod_eq_of_lt b0 b1] at h
/-- the program's rounds at the weight of x -/
def upS (p x : Int) : Nat → Int
  | 0 => 1
  | z + 1 => if ((z : Int) + 1) = x then upS p x z else upS p x z * ((z : Int) + 1) % p
def dnS (p x : Int) : Nat → Int
  | 0 => 1
  | z + 1 => if ((z : Int) + 1) = x then dnS p x z else dnS p x z * (((z : Int) + 1) - x) % p
def wgt (p : Int) (n : Nat) (x : Int) : Int := upS p x n * invR (dnS p x n) p % p
theorem upS_bd {p x : Int} (hp : 2 ≤ p) : ∀ z, 0 ≤ upS p x z ∧ upS p x z < p
  | 0 => ⟨by show (0 : Int) ≤ 1; omega, by show (1 : Int) < p; omega⟩
  | z + 1 => by
    by_cases e : ((z : Int) + 1) = x
    · have hk : upS p x (z + 1) = upS p x z := if_pos e
      rw [hk]; exact upS_bd hp z
    · have hk : upS p x (z + 1) = upS p x z * ((z : Int) + 1) % p := if_neg e
      rw [hk]; exact ⟨Int.emod_nonneg _ (by omega), Int.emod_lt_of_pos _ (by omega)⟩
theorem dnS_bd {p x : Int} (hp : 2 ≤ p) : ∀ z, 0 ≤ dnS p x z ∧ dnS p x z < p
  | 0 => ⟨by show (0 : Int) ≤ 1; omega, by show (1 : Int) < p; omega⟩
  | z + 1 => by
    by_cases e : ((z : Int) + 1) = x
    · have hk : dnS p x (z + 1) = dnS p x z := if_pos e
      rw [hk]; exact dnS_bd hp z
    · have hk : dnS p x (z + 1) = dnS p x z * (((z : Int) + 1) - x) % p := if_neg e
      rw [hk]; exact ⟨Int.emod_nonneg _ (by omega), Int.emod_lt_of_pos _ (by omega)⟩
theorem prime_mul {p a b : Int} (hp : primeB p = true) (ha : ¬ a % p = 0) (hb : ¬ b % p = 0) : ¬ a * b % p = 0 := by
  intro h
  have hpr : Prime p.toNat := by unfold primeB at hp; exact of_decide_eq_true hp
  have h2 := hpr.1
  have hpp : ((p.toNat : Nat) : Int) = p := by omega
  have hd : p.toNat ∣ a.natAbs * b.natAbs := by
    rw [← Int.natAbs_mul]
    have := Int.dvd_of_emod_eq_zero h
    rw [← hpp] at this
    exact Int.ofNat_dvd_left.1 this
  rcases hpr.dvd_mul hd with h3 | h3
  · exact ha (Int.emod_eq_zero_of_dvd (by rw [← hpp]; exact Int.ofNat_dvd_left.2 h3))
  · exact hb (Int.emod_eq_zero_of_dvd (by rw [← hpp]; exact Int.ofNat_dvd_left.2 h3))
theorem dnS_ne {p x : Int} (hp : primeB p = true) (p1 : 2 ≤ p) : ∀ (z : Nat), (z : Int) < p → 1 ≤ x → x < p → ¬ dnS p x z % p = 0
  | 0, _, _, _ => by
    show ¬ (1 : Int) % p = 0
    rw [Int.emod_eq_of_lt (by omega) (by omega)]; decide
  | z + 1, hz, x0, x1 => by
    have ih := dnS_ne hp p1 z (by omega) x0 x1
    by_cases hne : ((z : Int) + 1) = x
    · have hk : dnS p x (z + 1) = dnS p x z := if_pos hne
      rw [hk]; exact ih
    · have hk : dnS p x (z + 1) = dnS p x z * (((z : Int) + 1) - x) % p := if_neg hne
      rw [hk, Int.emod_emod_of_dvd _ (Int.dvd_refl p)]
      refine prime_mul hp ih (fun h => ?_)
      obtain ⟨c, hc⟩ := Int.dvd_of_emod_eq_zero h
      have hc0 : c = 0 := by
        rcases Int.lt_trichotomy c 0 with h1 | h1 | h1
        · have : p * c ≤ p * (-1) := Int.mul_le_mul_of_nonneg_left (by omega) (by omega)
          omega
        · exact h1
        · have : p * 1 ≤ p * c := Int.mul_le_mul_of_nonneg_left (by omega) (by omega)
          omega
      rw [hc0, Int.mul_zero] at hc
      omega
/-- the points of which the i-th has 1, and all others 0 -/
def dlL (n i : Nat) : List PtT := (List.range n).map fun (j : Nat) => (((j : Nat) : Int) + 1, if j = i then 1 else 0)
theorem dlL_len (n i : Nat) : (dlL n i).length = n := by simp [dlL]
theorem dlL_at {n i k : Nat} (h : k < n) : ptG (dlL n i) k = ((k : Int) + 1, if k = i then 1 else 0) := by
  rw [ptG_at (by rw [dlL_len]; exact h)]; simp [dlL]
theorem dlL_ok {p : Int} {n i : Nat} (hn : (n : Int) < p) (p1 : 2 ≤ p) : PtsOk p (dlL n i) := by
  refine ⟨fun r hr => ?_, fun a b hab hb => ?_⟩
  · obtain ⟨j, hj, rfl⟩ := List.mem_map.1 hr
    have := List.mem_range.1 hj
    refine ⟨⟨by show (0 : Int) ≤ (j : Int) + 1; omega, by show (j : Int) + 1 < p; omega⟩, ?_⟩
    show 0 ≤ (if j = i then (1 : Int) else 0) ∧ (if j = i then (1 : Int) else 0) < p
    split <;> omega
  · rw [dlL_len] at hb
    rw [dlL_at (by omega), dlL_at hb]
    simp; omega
theorem jnK_zero {p : Int} {L : List PtT} {i : Nat} (h : (ptG L i).2 = 0) : ∀ j, jnK p L i j = 0
  | 0 => h
  | j + 1 => by
    show (if j = i then jnK p L i j else jnK p L i j * (ptG L j).1 % p * invR (((ptG L j).1 - (ptG L i).1) % p) p % p) = 0
    rw [jnK_zero h j]; simp
theorem jnS_dl {p : Int} {n i : Nat} (hi : i < n) (hn : (n : Int) < p) (p1 : 2 ≤ p) : ∀ k, k ≤ n → jnS p (dlL n i) k = if i < k then jnK p (dlL n i) i n else 0
  | 0, _ => by rw [if_neg (by omega)]; rfl
  | k + 1, h => by
    have kb := jnK_bd (p := p) (by omega) (L := dlL n i) (i := i) ((dlL_ok hn p1).bd (k := i) (by rw [dlL_len]; exact hi)).2 n
    show (jnS p (dlL n i) k + jnK p (dlL n i) k (dlL n i).length) % p = _
    rw [jnS_dl hi hn p1 k (by omega), dlL_len]
    by_cases e : k = i
    · subst e
      rw [if_neg (by omega), if_pos (by omega), Int.zero_add, Int.emod_eq_of_lt kb.1 kb.2]
    · rw [jnK_zero (i := k) (by rw [dlL_at (by omega)]; simp [e]), Int.add_zero]
      by_cases h2 : i < k
      · rw [if_pos h2, if_pos (by omega), Int.emod_eq_of_lt kb.1 kb.2]
      · rw [if_neg h2, if_neg (by omega), Int.zero_emod]
theorem jnK_wgt {p : Int} (hp : primeB p = true) (p1 : 2 ≤ p) (p2 : p ≤ 251) {n i : Nat} (hi : i < n) (hn : (n : Int) < p) : ∀ j, j ≤ n → Cg p (jnK p (dlL n i) i j * dnS p ((i : Int) + 1) j) (upS p ((i : Int) + 1) j)
  | 0, _ => by
    have e : jnK p (dlL n i) i 0 = 1 := by show (ptG (dlL n i) i).2 = 1; rw [dlL_at hi]; simp
    rw [e]; exact Cg.rfl'
  | j + 1, h => by
    have ih := jnK_wgt hp p1 p2 hi hn j (by omega)
    by_cases e : j = i
    · have a1 : jnK p (dlL n i) i (j + 1) = jnK p (dlL n i) i j := if_pos e
      have a2 : dnS p ((i : Int) + 1) (j + 1) = dnS p ((i : Int) + 1) j := if_pos (by omega)
      have a3 : upS p ((i : Int) + 1) (j + 1) = upS p ((i : Int) + 1) j := if_pos (by omega)
      rw [a1, a2, a3]; exact ih
    · have a1 : jnK p (dlL n i) i (j + 1) = jnK p (dlL n i) i j * (ptG (dlL n i) j).1 % p * invR (((ptG (dlL n i) j).1 - (ptG (dlL n i) i).1) % p) p % p := if_neg e
      have a2 : dnS p ((i : Int) + 1) (j + 1) = dnS p ((i : Int) + 1) j * (((j : Int) + 1) - ((i : Int) + 1)) % p := if_neg (by omega)
      have a3 : upS p ((i : Int) + 1) (j + 1) = upS p ((i : Int) + 1) j * ((j : Int) + 1) % p := if_neg (by omega)
      rw [dlL_at (by omega : j < n), dlL_at hi] at a1
      simp only at a1
      rw [a1, a2, a3]
      generalize jnK p (dlL n i) i j = K at *
      generalize dnS p ((i : Int) + 1) j = D at *
      generalize upS p ((i : Int) + 1) j = U at *
      obtain ⟨d, hd⟩ : ∃ d, ((j : Int) + 1) - ((i : Int) + 1) = d := ⟨_, rfl⟩
      obtain ⟨a, ha⟩ : ∃ a, (j : Int) + 1 = a := ⟨_, rfl⟩
      rw [hd, ha]
      have hd0 : ¬ d % p = 0 := by
        intro h0
        obtain ⟨c, hc⟩ := Int.dvd_of_emod_eq_zero h0
        have hc0 : c = 0 := by
          rcases Int.lt_trichotomy c 0 with h1 | h1 | h1
          · have : p * c ≤ p * (-1) := Int.mul_le_mul_of_nonneg_left (by omega) (by omega)
            omega
          · exact h1
          · have : p * 1 ≤ p * c := Int.mul_le_mul_of_nonneg_left (by omega) (by omega)
            omega
        rw [hc0, Int.mul_zero] at hc
        omega
      have hb1 := Int.emod_nonneg d (show p ≠ 0 by omega)
      have hb2 := Int.emod_lt_of_pos d (show 0 < p by omega)
      have iv := (inv_prime (p := p) (b := d % p) hp (by omega) (by omega) hb2).1
      have iv2 : Cg p (invR (d % p) p * d) 1 := (Cg.mul Cg.rfl' (Cg.left (b := d)).symm).trans iv
      generalize invR (d % p) p = u at *
      have s1 : Cg p ((K * a % p * u % p) * (D * d % p)) ((K * a * u) * (D * d)) :=
        Cg.mul ((Cg.left (b := 0)).trans (Cg.mul (Cg.left (b := 0)) Cg.rfl')) (Cg.left (b := 0))
      have s2 : (K * a * u) * (D * d) = (K * D) * a * (u * d) := by grind
      rw [s2] at s1
      have s3 : Cg p ((K * D) * a * (u * d)) (U * a * 1) := Cg.mul (Cg.mul ih Cg.rfl') iv2
      rw [Int.mul_one] at s3
      exact s1.trans (s3.trans (Cg.left (b := 0)).symm)
/-- the weight that the program reckons is the reference's -/
theorem wgt_eq {p : Int} (hp : primeB p = true) (p1 : 2 ≤ p) (p2 : p ≤ 251) {n i : Nat} (hi : i < n) (hn : (n : Int) < p) : jnS p (dlL n i) n = wgt p n ((i : Int) + 1) := by
  rw [jnS_dl hi hn p1 n (Nat.le_refl _), if_pos hi]
  have kb := jnK_bd (p := p) (by omega) (L := dlL n i) (i := i) ((dlL_ok hn p1).bd (k := i) (by rw [dlL_len]; exact hi)).2 n
  have h1 := jnK_wgt hp p1 p2 hi hn n (Nat.le_refl _)
  have d0 := dnS_bd (p := p) (x := (i : Int) + 1) p1 n
  have dn := dnS_ne (x := (i : Int) + 1) hp p1 n (by omega) (by omega) (by omega)
  rw [Int.emod_eq_of_lt d0.1 d0.2] at dn
  have iv := (inv_prime (p := p) (b := dnS p ((i : Int) + 1) n) hp (by omega) (by omega) d0.2).1
  refine Cg.eq (p := p) ?_ kb.1 kb.2 (Int.emod_nonneg _ (by omega)) (Int.emod_lt_of_pos _ (by omega))
  unfold wgt
  generalize jnK p (dlL n i) i n = K at *
  generalize dnS p ((i : Int) + 1) n = D at *
  generalize upS p ((i : Int) + 1) n = U at *
  generalize invR D p = u at *
  have s1 : Cg p (K * 1) (K * (u * D)) := Cg.mul Cg.rfl' (Cg.symm iv)
  rw [Int.mul_one, show K * (u * D) = K * D * u by grind] at s1
  exact s1.trans ((Cg.mul h1 Cg.rfl').trans (Cg.left (b := 0)).symm)
theorem wgt_bd {p : Int} (p1 : 2 ≤ p) (n : Nat) (x : Int) : 0 ≤ wgt p n x ∧ wgt p n x < p := ⟨Int.emod_nonneg _ (by omega), Int.emod_lt_of_pos _ (by omega)⟩
/-- random numbers, so many from a place on; 0 beyond -/
def takR (random : List Int) (used t : Nat) : List Int := (List.range t).map fun k => random.getD (used + k) 0
theorem takR_len (random : List Int) (used t : Nat) : (takR random used t).length = t := by simp [takR]
theorem takR_succ (random : List Int) (used t : Nat) : takR random used (t + 1) = takR random used t ++ [random.getD (used + t) 0] := by unfold takR; rw [List.range_succ, List.map_append]; rfl
theorem takR_bd {p : Int} (hp : 0 < p) {random : List Int} (h : ∀ x ∈ random, 0 ≤ x ∧ x < p) (used t : Nat) : ∀ x ∈ takR random used t, 0 ≤ x ∧ x < p := by
  intro x hx
  obtain ⟨k, _, rfl⟩ := List.mem_map.1 hx
  rw [List.getD_eq_getElem?_getD]
  cases h2 : random[used + k]? with
  | none => exact ⟨Int.le_refl _, hp⟩
  | some y => exact h y (List.mem_of_getElem? h2)
/-- a value in shares -/
def shrL (p x : Int) (more : List Int) (n : Nat) : List Int := (List.range n).map fun (i : Nat) => hornV p (x :: more) ((i : Int) + 1)
theorem shrL_len (p x : Int) (more : List Int) (n : Nat) : (shrL p x more n).length = n := by simp [shrL]
theorem shrL_get {p x : Int} {more : List Int} {n i : Nat} (h : i < n) : (shrL p x more n)[i]'(by rw [shrL_len]; exact h) = hornV p (x :: more) ((i : Int) + 1) := by simp [shrL]
theorem shrL_succ (p x : Int) (more : List Int) (n : Nat) : shrL p x more (n + 1) = shrL p x more n ++ [hornV p (x :: more) ((n : Int) + 1)] := by unfold shrL; rw [List.range_succ, List.map_append]; rfl
theorem shrL_bd {p x : Int} (hp : 2 ≤ p) (more : List Int) (n : Nat) : ∀ y ∈ shrL p x more n, 0 ≤ y ∧ y < p := by
  intro y hy
  obtain ⟨k, _, rfl⟩ := List.mem_map.1 hy
  exact horn_bd hp _
/-- of each party's shares -/
def eaL (p : Int) (f : Int → Int → Int) (a b : List Int) : List Int := (List.range a.length).map fun i => f (a.getD i 0) (b.getD i 0) % p
theorem eaL_len (p : Int) (f : Int → Int → Int) (a b : List Int) : (eaL p f a b).length = a.length := by simp [eaL]
theorem eaL_get {p : Int} {f : Int → Int → Int} {a b : List Int} {i : Nat} (h : i < a.length) : (eaL p f a b)[i]'(by rw [eaL_len]; exact h) = f (a.getD i 0) (b.getD i 0) % p := by simp [eaL]
theorem eaL_bd {p : Int} (hp : 0 < p) (f : Int → Int → Int) (a b : List Int) : ∀ y ∈ eaL p f a b, 0 ≤ y ∧ y < p := by
  intro y hy
  obtain ⟨k, _, rfl⟩ := List.mem_map.1 hy
  exact ⟨Int.emod_nonneg _ (by omega), Int.emod_lt_of_pos _ hp⟩
/-- a product in shares, of i parties -/
def mulS (p : Int) (n t : Nat) (random prod : List Int) (used : Nat) : Nat → List Int
  | 0 => List.replicate n 0
  | i + 1 => eaL p (fun o y => o + wgt p n ((i : Int) + 1) * y) (mulS p n t random prod used i) (shrL p (prod.getD i 0) (takR random (used + i * t) t) n)
theorem mulS_len (p : Int) (n t : Nat) (random prod : List Int) (used : Nat) : ∀ i, (mulS p n t random prod used i).length = n
  | 0 => by simp [mulS]
  | i + 1 => by rw [mulS, eaL_len, mulS_len p n t random prod used i]
theorem mulS_bd {p : Int} (hp : 0 < p) (n t : Nat) (random prod : List Int) (used : Nat) : ∀ i, ∀ y ∈ mulS p n t random prod used i, 0 ≤ y ∧ y < p
  | 0, y, hy => by simp [mulS] at hy; omega
  | i + 1, y, hy => eaL_bd hp _ _ _ y hy
/-- one gate in shares, and how many random numbers are used behind it -/
def prG (p : Int) (t : Nat) (ins random : List Int) (T : List (List Int)) (used : Nat) (g : GateT) : List Int × Nat :=
  if g.K = 1 then (shrL p (ins.getD g.A.toNat 0) (takR random used t) (2 * t + 1), used + t)
  else if g.K = 2 then (List.replicate (2 * t + 1) g.N, used)
  else if g.K = 3 then (eaL p (fun x y => x + y) (T.getD g.A.toNat []) (T.getD g.B.toNat []), used)
  else (mulS p (2 * t + 1) t random (eaL p (fun x y => x * y) (T.getD g.A.toNat []) (T.getD g.B.toNat [])) used (2 * t + 1), used + (2 * t + 1) * t)
def prT (p : Int) (t : Nat) (ins random : List Int) (gs : List GateT) : Nat → List (List Int) × Nat
  | 0 => ([], 0)
  | k + 1 => ((prT p t ins random gs k).1 ++ [(prG p t ins random (prT p t ins random gs k).1 (prT p t ins random gs k).2 (gs.getD k ⟨0, 0, 0, 0⟩)).1], (prG p t ins random (prT p t ins random gs k).1 (prT p t ins random gs k).2 (gs.getD k ⟨0, 0, 0, 0⟩)).2)
theorem prT_len (p : Int) (t : Nat) (ins random : List Int) (gs : List GateT) : ∀ k, (prT p t ins random gs k).1.length = k
  | 0 => rfl
  | k + 1 => by rw [prT, List.length_append, prT_len p t ins random gs k]; rfl
theorem prG_row {p : Int} (p1 : 2 ≤ p) {t : Nat} {ins random : List Int} {T : List (List Int)} {used k : Nat} {g : GateT} (hT : ∀ r ∈ T, r.length = 2 * t + 1 ∧ ∀ y ∈ r, 0 ≤ y ∧ y < p) (hk : T.length = k) (hg : gateE p k ins.length g = 0) :
    (prG p t ins random T used g).1.length = 2 * t + 1 ∧ ∀ y ∈ (prG p t ins random T used g).1, 0 ≤ y ∧ y < p := by
  obtain ⟨K, A, B, N⟩ := g
  unfold prG
  rcases gate_ok hg with ⟨rfl, a0, a1⟩ | ⟨rfl, n0, n1⟩ | ⟨rfl, ⟨a0, a1⟩, b0, b1⟩ | ⟨rfl, ⟨a0, a1⟩, b0, b1⟩
  · rw [if_pos (show (1 : Int) = 1 from rfl)]
    exact ⟨shrL_len _ _ _ _, shrL_bd p1 _ _⟩
  · rw [if_neg (show ¬ (2 : Int) = 1 by decide), if_pos (show (2 : Int) = 2 from rfl)]
    refine ⟨List.length_replicate .., fun y hy => ?_⟩
    simp only [List.mem_replicate] at hy
    rw [hy.2]; exact ⟨n0, n1⟩
  · rw [if_neg (show ¬ (3 : Int) = 1 by decide), if_neg (show ¬ (3 : Int) = 2 by decide), if_pos (show (3 : Int) = 3 from rfl)]
    have hl : A.toNat < T.length := by omega
    have e : T.getD A.toNat [] = T[A.toNat] := by rw [List.getD_eq_getElem?_getD, List.getElem?_eq_getElem hl]; rfl
    refine ⟨?_, eaL_bd (by omega) _ _ _⟩
    simp only
    rw [eaL_len, e]; exact (hT _ (List.getElem_mem hl)).1
  · rw [if_neg (show ¬ (4 : Int) = 1 by decide), if_neg (show ¬ (4 : Int) = 2 by decide), if_neg (show ¬ (4 : Int) = 3 by decide)]
    exact ⟨mulS_len _ _ _ _ _ _ _, mulS_bd (by omega) _ _ _ _ _ _⟩
theorem prT_rows {p : Int} (p1 : 2 ≤ p) {t : Nat} {ins random : List Int} {gs : List GateT} (h : ∀ k (hk : k < gs.length), gateE p k ins.length gs[k] = 0) : ∀ k, k ≤ gs.length → ∀ r ∈ (prT p t ins random gs k).1, r.length = 2 * t + 1 ∧ ∀ y ∈ r, 0 ≤ y ∧ y < p
  | 0, _, r, hr => by cases hr
  | k + 1, hk, r, hr => by
    have ih := prT_rows p1 (t := t) (ins := ins) (random := random) h k (by omega)
    rw [prT] at hr
    rcases List.mem_append.1 hr with hr | hr
    · exact ih r hr
    · simp only [List.mem_singleton] at hr
      subst hr
      have e : gs.getD k ⟨0, 0, 0, 0⟩ = gs[k] := by rw [List.getD_eq_getElem?_getD, List.getElem?_eq_getElem (by omega)]; rfl
      rw [e]
      exact prG_row p1 ih (prT_len _ _ _ _ _ _) (h k (by omega))
theorem prT_next {p : Int} {t : Nat} {ins random : List Int} {gs : List GateT} {k : Nat} (hk : k < gs.length) : prT p t ins random gs (k + 1) = ((prT p t ins random gs k).1 ++ [(prG p t ins random (prT p t ins random gs k).1 (prT p t ins random gs k).2 gs[k]).1], (prG p t ins random (prT p t ins random gs k).1 (prT p t ins random gs k).2 gs[k]).2) := by
  have e : gs.getD k ⟨0, 0, 0, 0⟩ = gs[k] := by rw [List.getD_eq_getElem?_getD, List.getElem?_eq_getElem hk]; rfl
  rw [prT, e]
end Lw
namespace Lw
open Go Go.RowKit
/-- one block has turned, and new ones are there -/
structure Tn (b : Nat) (w w' : World) : Prop where
  os : w'.os = w.os
  tape : w'.tape = w.tape
  output : w'.output = w.output
  size : w.heap.size ≤ w'.heap.size
  block : ∀ k, k < w.heap.size → k ≠ b → w'.heap[k]? = w.heap[k]?
theorem Tn.refl (b : Nat) (w : World) : Tn b w w := ⟨rfl, rfl, rfl, Nat.le_refl _, fun _ _ _ => rfl⟩
theorem Tn.trans {b : Nat} {u v w : World} (h : Tn b u v) (k : Tn b v w) : Tn b u w :=
  ⟨k.os.trans h.os, k.tape.trans h.tape, k.output.trans h.output, Nat.le_trans h.size k.size, fun j hj h1 => (k.block j (Nat.lt_of_lt_of_le hj h.size) h1).trans (h.block j hj h1)⟩
theorem Tn.of {b : Nat} {w w' : World} (h : Below w.heap.size w w') : Tn b w w' := ⟨h.os, h.tape, h.output, h.size, fun k hk _ => h.block k hk⟩
theorem Tn.set {b : Nat} {w w' : World} (h : Tn b w w') (i : Nat) (v : Value) : Tn b w (w'.setCell ⟨b, i, none⟩ v) :=
  ⟨h.os, h.tape, h.output, by simpa using h.size, fun k hk h1 => (Below.heap_setCell _ _ _ _ (by show k ≠ b; exact h1)).trans (h.block k hk h1)⟩
theorem Tn.drew {b : Nat} {w w' : World} (h : Tn b w w') : Tn b w w'.drew := ⟨h.os, h.tape, h.output, h.size, h.block⟩
theorem Tn.below {b B : Nat} {w w' : World} (h : Tn b w w') (hb : B ≤ b) (hs : B ≤ w.heap.size) : Below B w w' := ⟨h.os, h.tape, h.output, h.size, fun k hk => h.block k (by omega) (by omega)⟩
theorem own_tn {base e s n b : Nat} {w w' : World} {v : Value} {xs : List Value} (h : w.ownsRow base e s v n xs) (hg : Tn b w w') (hb : v.ownBlock ≠ some b) : w'.ownsRow base e s v n xs := by
  obtain ⟨hl, h2⟩ := h
  refine ⟨hl, ?_⟩
  rcases h2 with ⟨h0, h1⟩ | ⟨g, cap, cur, hu, hbg, hh, rest⟩
  · exact .inl ⟨h0, h1⟩
  · refine .inr ⟨g, cap, cur, hu, hbg, ?_, rest⟩
    exact (hg.block g (Array.getElem?_eq_some_iff.1 hh).1 (fun e => hb (by subst hu; rw [← e]; rfl))).trans hh
theorem Rd.tn {b sz n : Nat} {A : Option Addr} {xs : List Value} {w w' : World} (R : Rd w sz A n xs) (T : Tn b w w') (hA : 0 < n → ∀ ad, A = some ad → ad.block ≠ b) : Rd w' sz A n xs :=
  ⟨R.1, fun h0 => by
    obtain ⟨ad, e, hb, hc⟩ := R.2 h0
    exact ⟨ad, e, Nat.lt_of_lt_of_le hb T.size, fun j u hu => (cell_of_blk _ (T.block _ (by rw [add_block]; exact hb) (by rw [add_block]; exact hA h0 ad e))).trans (hc j u hu)⟩⟩
/-- the same, and no panic -/
def NoP (Q : Exit → Act → World → Prop) : Exit → Act → World → Prop
  | .panic _, _, _ => False
  | e, a, w => Q e a w
theorem wp_nop {P : Program} {c : Code} {Q : Exit → Act → World → Prop} {a : Act} {w : World} (h : c.wp P (NoP Q) a w) : c.wp P Q a w :=
  wp_mono h (fun e a w hq => by cases e <;> first | exact hq | exact (show False from hq).elim)
theorem at_world {P : Program} {c : Code} {Q : Exit → Act → World → Prop} {a : Act} {w : World} (h : ∀ W, Hid (W = w) → c.wp P Q a W) : c.wp P Q a w := h w rfl
/-- below B only one block has turned -/
theorem eaL_next {p : Int} {f : Int → Int → Int} {a b : List Int} {k : Nat} (h : k < a.length) (h2 : k < b.length) : (eaL p f a b).take (k + 1) = (eaL p f a b).take k ++ [f a[k] b[k] % p] := by
  rw [List.take_succ_eq_append_getElem (by rw [eaL_len]; exact h), eaL_get h]
  congr 2
  rw [List.getD_eq_getElem?_getD, List.getElem?_eq_getElem h, List.getD_eq_getElem?_getD, List.getElem?_eq_getElem h2]; rfl
theorem eaL_all {p : Int} {f : Int → Int → Int} {a b : List Int} {n : Nat} (h : a.length = n) : (eaL p f a b).take n = eaL p f a b := List.take_of_length_le (by rw [eaL_len]; omega)
/-- a row of the call's own is returned -/
def OwF (e0 : TypeId) (l : List Int) (n : Nat) (w : World) (e : Ending) (w' : World) : Prop := ∃ C g, e = .returned (.slice C n g) ∧ w'.ownsRow w.heap.size e0 1 (.slice C n g) n (intsV .i64 l) ∧ Below w.heap.size w w'
theorem takR_drop (random : List Int) (used t : Nat) : takR (random.drop used) 0 t = takR random used t := by
  unfold takR
  apply List.map_congr_left
  intro k _
  rw [Nat.zero_add, List.getD_eq_getElem?_getD, List.getD_eq_getElem?_getD, List.getElem?_drop]
theorem mulS_next (p : Int) (n t : Nat) (random prod : List Int) (used i : Nat) : mulS p n t random prod used (i + 1) = eaL p (fun o y => o + wgt p n ((i : Int) + 1) * y) (mulS p n t random prod used i) (shrL p (prod.getD i 0) (takR random (used + i * t) t) n) := rfl
end Lw
namespace Lw
open Go Go.RowKit
theorem litI_ne {a b : Int} (h : a ≠ b) : (Lit.int .i64 a) ≠ .int .i64 b := fun e => by injection e with _ e; exact h e
theorem one_int (x : Int) : ∀ u ∈ [Value.int .i64 x], u.oneCell' = true := by intro u hu; simp at hu; subst hu; rfl
/-- a value reads as itself -/
def Rv (v : Value) : Option (DataW Value × List MemPlace) := some (.held v, [])
/-- the rooms of a list -/
def KOk (K : List Nat) : Prop := K.Nodup ∧ ∀ z ∈ K, z ≤ 1048576
theorem KOk.len {K : List Nat} (h : KOk K) : K.length ≤ 1048577 := len_le_of_nodup 1048577 K h.1 fun z hz => by have := h.2 z hz; omega
theorem KOk.dfs {K : List Nat} (h : KOk K) {f p : Nat} (hp : Prime p) (hf : p ≤ f) (h2 : p ≤ 1048576) : KOk (dfs f p K) := by
  have r := dfr_one f p K hp hf
  exact ⟨r.nd h.1, fun z hz => by rcases r.new z hz with h3 | h3; exact h.2 z h3; omega⟩
theorem KOk.snoc {K : List Nat} (h : KOk K) {p : Nat} (hp : ¬ p ∈ K) (h2 : p ≤ 1048576) : KOk (K ++ [p]) := by
  refine ⟨?_, fun z hz => ?_⟩
  · rw [List.nodup_append]
    refine ⟨h.1, by simp, fun a ha b hb => ?_⟩
    simp at hb; subst hb
    exact fun e => hp (e ▸ ha)
  · rcases List.mem_append.1 hz with h3 | h3
    · exact h.2 z h3
    · simp at h3; omega
theorem KOk.dfsL {K : List Nat} (h : KOk K) {f : Nat} : ∀ (qs : List Nat), (∀ q ∈ qs, Prime q ∧ q ≤ f ∧ q ≤ 1048576) → KOk (Lw.dfsL f qs K) := by
  intro qs
  induction qs generalizing K with
  | nil => intro _; exact h
  | cons q qs ih =>
    intro h2
    obtain ⟨a, b, c⟩ := h2 q (by simp)
    rw [dfsL_cons]
    exact ih (h.dfs a b c) fun q hq => h2 q (List.mem_cons_of_mem _ hq)
/-- what a map says of a list of keys -/
def KeyR (D : DataW Value) (K : List Nat) (w : World) : Prop := (∀ z : Int, Maps.has D (.int .i64 z) = true ↔ z ∈ cN K) ∧
  ∀ k ∈ K, ∃ A c, D.atKey (.int .i64 (k : Int)) (.held (.slice none 0 0)) = .held (.slice A (fq (k - 1)).length c) ∧ Rd w 1 A (fq (k - 1)).length (intsV .i64 (cN (fq (k - 1))))
theorem rd_ne {w : World} {A : Option Addr} {n b : Nat} {xs : List Value} (R : Rd w 1 A n xs) (hb : ∀ cs t z, w.heap[b]? ≠ some (.cells cs t z)) : 0 < n → ∀ ad, A = some ad → ad.block ≠ b := by
  intro h0 ad e hbl
  obtain ⟨ad', e', h1, h2⟩ := R.2 h0
  rw [e] at e'
  injection e' with e'
  subst e'
  have hl : 0 < xs.length := by have := R.1; omega
  have h3 := h2 0 xs[0] (List.getElem?_eq_getElem hl)
  have hk : (ad.add 0).block = b := by rw [add_block]; exact hbl
  unfold World.cell? at h3
  rw [hk] at h3
  cases hh : w.heap[b]? with
  | none => rw [hh] at h3; simp at h3
  | some o =>
    rw [hh] at h3
    cases o with
    | cells cs t z => exact hb cs t z hh
    | _ => simp at h3
theorem KeyR.tn {D : DataW Value} {K : List Nat} {w w' : World} {b : Nat} (h : KeyR D K w) (hT : Tn b w w') (hb : ∀ cs t z, w.heap[b]? ≠ some (.cells cs t z)) : KeyR D K w' :=
  ⟨h.1, fun k hk => by obtain ⟨A, c, h1, h2⟩ := h.2 k hk; exact ⟨A, c, h1, h2.tn hT (rd_ne h2 hb)⟩⟩
theorem KeyR.put {D : DataW Value} {K : List Nat} {w : World} {p : Nat} {A : Option Addr} {c : Nat} (hM : Maps.IsMap D) (h : KeyR D K w) (R : Rd w 1 A (fq (p - 1)).length (intsV .i64 (cN (fq (p - 1))))) (hl : WideAt.IsKeyLit (.int .i64 (p : Int))) :
    KeyR (D.put (.int .i64 (p : Int)) (.held (.slice A (fq (p - 1)).length c))) (K ++ [p]) w := by
  refine ⟨fun z => ?_, fun k hk => ?_⟩
  · by_cases e : z = (p : Int)
    · subst e
      rw [Maps.has_put_same hM hl, cN_snoc]; simp
    · rw [Maps.has_put_other (litI_ne e), h.1 z, cN_snoc]; simp [e]
  · by_cases e : k = p
    · subst e
      exact ⟨A, c, Maps.atKey_put_same hM hl _ _, R⟩
    · have hk : k ∈ K := by simpa [e] using hk
      obtain ⟨B, d, h1, h2⟩ := h.2 k hk
      exact ⟨B, d, by rw [Maps.atKey_put_other (litI_ne (by omega))]; exact h1, h2⟩
/-- a slice of the primes is returned -/
def FqF (Q : List Nat) (w : World) (e : Ending) (w' : World) : Prop := ∃ A c, e = .returned (.slice A Q.length c) ∧ Rd w' 1 A Q.length (intsV .i64 (cN Q)) ∧ Below w.heap.size w w'
end Lw
set_option linter.unusedVariables false
set_option linter.unusedSimpArgs false
namespace Go.Proofs.Ytfocpbknckmmaaa
open Go.RowKit
theorem law_key : Maps.Keyed Try.prog 2 := Maps.int_keyed Try.underlying2
theorem zero_sl (w : World) : (zeroValue 23).run Try.prog w = .ok (.slice none 0 0) w := by kernel_rfl
/-- the map in block b says what is needed so far -/
def NdS (b : Nat) (K : List Nat) (w : World) : Prop := ∃ D : DataW Value, w.ownsMap Try.prog 2 Lw.Rv b K.length D ∧ Lw.KeyR D K w
theorem NdS.tn {b : Nat} {K : List Nat} {w w' : World} (h : NdS b K w) (hT : Below w.heap.size w w') : NdS b K w' := by
  obtain ⟨D, h1, h2⟩ := h
  have hlt := h1.lt
  obtain ⟨es, clock, hb, F, hs, hD⟩ := h1
  exact ⟨D, ⟨es, clock, (hT.block b hlt).trans hb, F, hs, hD⟩, h2.1, fun k hk => by obtain ⟨A, c, h3, h4⟩ := h2.2 k hk; exact ⟨A, c, h3, h4.below (Nat.le_refl _) hT⟩⟩
theorem own_notcells {R : Value → Option (DataW Value × List MemPlace)} {w : World} {b n : Nat} {D : DataW Value} (h : w.ownsMap Try.prog 2 R b n D) : ∀ cs t z, w.heap[b]? ≠ some (.cells cs t z) := by
  obtain ⟨es, clock, hb, _⟩ := h
  intro cs t z e
  rw [hb] at e
  cases e
set_option maxHeartbeats 1000000 in
theorem pratt_factors (n : Nat) (w : World) (h1 : 1 ≤ n) (h2 : n ≤ 1048576) :
    Calls Try.prog 50 #[.int .i64 (n : Int)] w (Lw.FqF (Lw.fq n) w) := by
  have FC := primes_Factor (n : Int) w (by omega) (by omega)
  rw [Int.toNat_natCast] at FC
  replace FC := Lib.hid FC
  have LE := Lw.fac_length_le n
  have LQ : (Lw.fq n).length = (Lw.fac n).length := by simp [Lw.fq]
  have T0 : Hid (Lw.cN ((Lw.fq n).take 0) = []) := by rw [List.take_zero]; rfl
  have TS : Hid (∀ j (h : j < (Lw.fq n).length), Lw.intsV .i64 (Lw.cN ((Lw.fq n).take (j + 1))) = Lw.intsV .i64 (Lw.cN ((Lw.fq n).take j)) ++ [.int .i64 ((Lw.fq n)[j] : Int)]) := fun j h => by rw [List.take_succ_eq_append_getElem h, Lw.cN_snoc]; simp [Lw.intsV]
  have TE : Hid ((Lw.fq n).take (Lw.fac n).length = Lw.fq n) := List.take_of_length_le (by omega)
  have FP : Hid (∀ j (h : j < (Lw.facP n).length) (h' : j < (Lw.fq n).length), (Lw.facP n)[j].1 = ((Lw.fq n)[j] : Int)) := fun j h h' => by simp [Lw.facP, Lw.fq]
  have LP : (Lw.facP n).length = (Lw.fac n).length := by simp [Lw.facP]
  generalize Lw.facP n = P at *
  generalize Lw.fq n = Q at *
  generalize (Lw.fac n).length = L at *
  go_enter Try.func50, Try.ntmps50
  go_wp2_with (go_at_call 71; (with_reducible refine (FC.out).mono ?_); rintro e w1 ⟨⟨A, k, rfl, own1⟩, hb1⟩; have R1 := Lib.hid (Lw.Rd.of_own own1); clear own1)
  have hz1 := hb1.size
  go_loopw [3, 15] (fun l i wr => ∃ j : Nat, i = .int .i64 (j : Int) ∧ j ≤ L ∧ wr.ownsRow w1.heap.size 2 1 l j (Lw.intsV .i64 (Lw.cN (Q.take j))) ∧ Below w1.heap.size w1 wr) (fun _ i _ => L - (intOf i).toNat)
  case atStart => exact ⟨0, rfl, by omega, by rw [T0.out]; exact World.ownsRow_nil _ _ _ _, Below.refl _ _⟩
  case round =>
    obtain ⟨j, rfl, hj, own, hB⟩ := hrel
    have hjm : j < L ∨ ¬ j < L := by omega
    rcases hjm with hlt | hlt
    · have hlt' : (j : Int) < (L : Int) := by omega
      have jp : j < P.length := by omega
      have jq : j < Q.length := by omega
      obtain ⟨g0, g1⟩ := Lw.pairsV_get (k := .i64) (l := .i64) jp
      obtain ⟨ad, rfl, had, d0, d1⟩ := (R1.out.below (Nat.le_refl _) hB).at2 hlt g0 g1
      have NX := TS.out j jq
      rw [FP.out j jp jq] at d0
      obtain ⟨q, hq⟩ : ∃ q, Q[j] = q := ⟨_, rfl⟩
      obtain ⟨ex, hex⟩ : ∃ q, P[j].2 = q := ⟨_, rfl⟩
      rw [hq] at d0 NX
      rw [hex] at d1
      have NX := Lib.hid NX
      have OWN := Lib.hid own
      have hszr := hB.size
      clear own hq hex g0 g1 had
      go_wp2_with (at_builtin; go_loud (refine Lw.wpList_app elPly rfl _ _ rfl rfl ((OWN.out.alloc _).alloc _) rfl (by first | exact Lw.Rd.lit (Lw.blk_new' (by simp) _ _) rfl rfl | exact Lw.Rd.lit (Lw.blk_new _ _ _) rfl rfl) (Lw.one_int _) (by omega) (Lw.balloc (Lw.balloc hB _) _) (Nat.le_refl _) (by simp; omega) ?_); intro v2 w2 own2 hb2 _ _)
      have O2 := Lib.hid own2
      clear own2
      go_wp2
      go_roundw
      case rel => exact ⟨j + 1, by go_num, by omega, by rw [NX.out]; exact O2.out, hb2⟩
      case measure => simp [intOf]; omega
    · have hlt' : ¬ (j : Int) < (L : Int) := by omega
      have hje : j = L := by omega
      rw [hje, TE.out] at own
      obtain ⟨D, e, rfl, hg, _⟩ := Lw.ownsForm own
      have RR := Lib.hid (Lw.Rd.of_own own)
      clear own
      go_wp2
      go_ret
      exact ⟨D, e, by rw [LQ]; rfl, by rw [LQ]; exact RR.out, Lw.bt hb1 hB⟩
end Go.Proofs.Ytfocpbknckmmaaa
namespace Lw
open Go Go.RowKit
theorem rv_held {v u : Value} {ps : List MemPlace} (h : Rv v = some (.held u, ps)) : v = u := DataW.held.inj (Prod.mk.inj (Option.some.inj h)).1
theorem cN_mem {K : List Nat} {p : Nat} : (p : Int) ∈ cN K ↔ p ∈ K := by
  unfold cN
  rw [List.mem_map]
  exact ⟨fun ⟨a, h, e⟩ => by have : a = p := by omega
                             subst this; exact h, fun h => ⟨p, h, rfl⟩⟩
end Lw
set_option linter.unusedVariables false
set_option linter.unusedSimpArgs false
namespace Go.Proofs.Ytfocpbknckmmaaa
open Go.RowKit
theorem map_below {R : Value → Option (DataW Value × List MemPlace)} {w w' : World} {b n : Nat} {D : DataW Value} (h : w.ownsMap Try.prog 2 R b n D) (hT : Below w.heap.size w w') : w'.ownsMap Try.prog 2 R b n D := by
  have hlt := h.lt
  obtain ⟨es, clock, hb, F, hs, hD⟩ := h
  exact ⟨es, clock, (hT.block b hlt).trans hb, F, hs, hD⟩
theorem key_p {p : Nat} (h2 : p ≤ 1048576) : keyOf Try.prog 2 (.int .i64 (p : Int)) = some (.int .i64 (p : Int)) := Maps.keyOf_int_mk Try.underlying2 (Lw.wf64 (by omega) (by omega))
theorem nd_look {b : Nat} {K : List Nat} {w : World} (h : NdS b K w) {k : Nat} (hk : k ∈ K) (h2 : k ≤ 1048576) : ∃ A c, (Instr.lookup 61 (.map (some b)) (.int .i64 (k : Int)) false).run Try.prog w = .ok (.slice A (Lw.fq (k - 1)).length c) w ∧ Lw.Rd w 1 A (Lw.fq (k - 1)).length (Lw.intsV .i64 (Lw.cN (Lw.fq (k - 1)))) ∧ (0 < (Lw.fq (k - 1)).length → ∀ ad, A = some ad → ad.block ≠ b) := by
  obtain ⟨D, own, K1, K2⟩ := h
  obtain ⟨A, c, h3, h4⟩ := K2 k hk
  obtain ⟨v, ps, hrun, hv⟩ := own.lookup law_key Try.underlying61 (zero_sl w) (zd := .held (.slice none 0 0)) (zp := []) rfl (key_p h2)
  rw [h3] at hv
  have e : v = .slice A (Lw.fq (k - 1)).length c := Lw.rv_held hv
  rw [e] at hrun
  exact ⟨A, c, hrun, h4, Lw.rd_ne h4 (own_notcells own)⟩
theorem nd_put {b : Nat} {K : List Nat} {w w1 w2 : World} {p : Nat} {D : DataW Value} {A : Option Addr} {c : Nat} (own : w.ownsMap Try.prog 2 Lw.Rv b K.length D) (KR : Lw.KeyR D K w) (hb1 : Below w.heap.size w w1) (R1 : Lw.Rd w1 1 A (Lw.fq (p - 1)).length (Lw.intsV .i64 (Lw.cN (Lw.fq (p - 1)))))
    (h2 : w2.ownsMap Try.prog 2 Lw.Rv b (K.length + 1) (D.put (.int .i64 (p : Int)) (.held (.slice A (Lw.fq (p - 1)).length c)))) (hg : w1.grownBy w2 (some b)) : NdS b (K ++ [p]) w2 := by
  have own1 := map_below own hb1
  have KR1 : Lw.KeyR D K w1 := ⟨KR.1, fun k hk => by obtain ⟨A, c, h3, h4⟩ := KR.2 k hk; exact ⟨A, c, h3, h4.below (Nat.le_refl _) hb1⟩⟩
  have KR2 := KR1.put own1.isMap (c := c) R1 (by first | exact WideAt.IsKeyLit.int | trivial | simp [WideAt.IsKeyLit] | constructor)
  have hT : Lw.Tn b w1 w2 := ⟨hg.os, hg.tape, hg.output, hg.size, fun k hk h1 => hg.block k hk (fun e => h1 (by injection e))⟩
  refine ⟨_, ?_, KR2.tn hT (own_notcells own1)⟩
  rw [List.length_append]
  exact h2
/-- what a call of need leaves -/
def NeF (b : Nat) (K : List Nat) (w : World) (e : Ending) (w' : World) : Prop := (∃ v, e = .returned v) ∧ NdS b K w' ∧ Lw.Tn b w w'
set_option maxHeartbeats 2000000 in
theorem pratt_need : ∀ (f p b : Nat) (K : List Nat) (w : World), NdS b K w → Lw.KOk K → Lw.Prime p → p ≤ f → p ≤ 1048576 →
    Calls Try.prog 29 #[.map (some b), .int .i64 (p : Int)] w (NeF b (Lw.dfs f p K) w)
  | 0, p, b, K, w, hN, hK, hp, hf, h2 => absurd hp.1 (by omega)
  | f + 1, p, b, K, w, hN, hK, hp, hf, h2 => by
    have IH := Lib.hid (fun q K w h1 h2 h3 h4 h5 => pratt_need f q b K w h1 h2 h3 h4 h5)
    have hp2 := hp.1
    have hN' := hN
    obtain ⟨D, own, KR⟩ := hN
    have hkey := key_p h2
    obtain ⟨v, ps, hrun, hv⟩ := own.look_ok law_key Try.underlying61 (zero_sl w) (zd := .held (.slice none 0 0)) (zp := []) rfl hkey
    by_cases hk : p ∈ K
    · have hh : Maps.has D (.int .i64 (p : Int)) = true := (KR.1 _).2 (Lw.cN_mem.2 hk)
      rw [hh] at hrun
      rw [Lw.dfs_in hk]
      have HN := Lib.hid hN'
      clear hv hh hk own KR hN' IH hkey hp
      go_enter Try.func29, Try.ntmps29
      go_wp2
      go_end0
      exact ⟨⟨_, rfl⟩, HN.out, Lw.Tn.refl _ _⟩
    · have hh : Maps.has D (.int .i64 (p : Int)) = false := by
        rw [Bool.eq_false_iff]
        intro h
        exact hk (Lw.cN_mem.1 ((KR.1 _).1 h))
      rw [hh] at hrun
      rw [Lw.dfs_out hk]
      have FA := Lib.hid (pratt_factors (p - 1) w (by omega) (by omega))
      have e1 : IntKind.i64.wrap ((p : Int) - 1) = ((p - 1 : Nat) : Int) := by rw [IntKind.wrap_i64]; omega
      have hKl := hK.len
      have KS := Lib.hid (fun i => Lw.KOk.dfsL (f := f) (hK.snoc hk h2) ((Lw.fq (p - 1)).take i) (fun q hq => by
        have h3 := Lw.fq_lt (List.mem_of_mem_take hq)
        exact ⟨(Lw.fq_mem (List.mem_of_mem_take hq)).1, by omega, by omega⟩))
      have QB := Lib.hid (fun i (h : i < (Lw.fq (p - 1)).length) => show Lw.Prime (Lw.fq (p - 1))[i] ∧ (Lw.fq (p - 1))[i] ≤ f ∧ (Lw.fq (p - 1))[i] ≤ 1048576 from by
        have h3 := Lw.fq_lt (List.getElem_mem h)
        exact ⟨(Lw.fq_mem (List.getElem_mem h)).1, by omega, by omega⟩)
      have DT := Lib.hid (fun i (h : i < (Lw.fq (p - 1)).length) => Lw.dfsL_take (f := f) (K := K ++ [p]) h)
      have D0 : Hid (Lw.dfsL f ((Lw.fq (p - 1)).take 0) (K ++ [p]) = K ++ [p]) := rfl
      have DE : Hid (Lw.dfsL f ((Lw.fq (p - 1)).take (Lw.fq (p - 1)).length) (K ++ [p]) = Lw.dfsL f (Lw.fq (p - 1)) (K ++ [p])) := Lib.hid (by rw [List.take_length])
      have LQ : (Lw.fq (p - 1)).length ≤ 1048576 := by
        have := Lw.fac_length_le (p - 1)
        simp [Lw.fq]; omega
      have NP := Lib.hid (fun w1 w2 A c hb1 R1 h2' hg => nd_put (w := w) (w1 := w1) (w2 := w2) (p := p) (A := A) (c := c) own KR hb1 R1 h2' hg)
      have LK := Lib.hid (fun w2 (h : NdS b (K ++ [p]) w2) => nd_look h (k := p) (by simp) h2)
      have OWN := Lib.hid own
      clear hv hh own KR hN' hK hp hk
      generalize Lw.fq (p - 1) = Q at *
      go_enter Try.func29, Try.ntmps29
      go_wp2_with (first
        | (go_at_call 50; (with_reducible refine (FA.out).mono ?_); rintro e w1 ⟨A, c, rfl, R1, hb1⟩; have own1 := map_below OWN.out hb1; have R1 := Lib.hid R1)
        | (at_mapUpdate; refine wpList_mapUpdate_own _ rfl _ _ _ 61 rfl 2 23 law_key Try.underlying61 Lw.Rv b K.length D rfl own1 (by unfold maxLen; omega) _ _ _ rfl rfl hkey _ [] rfl ?_; intro w2 hown2 hg2; have ND := NP.out w1 w2 A c hb1 R1.out hown2 hg2; obtain ⟨A2, c2, hrun2, R2, hne⟩ := LK.out w2 ND; have R2 := Lib.hid R2; have hne := Lib.hid hne)
        | go_in)
      have hT2 : Lw.Tn b w w2 := (Lw.Tn.of hb1).trans ⟨hg2.os, hg2.tape, hg2.output, hg2.size, fun k hk h1 => hg2.block k hk (fun e => h1 (by injection e))⟩
      have ND := Lib.hid ND
      clear own1 hown2 hg2 hrun2 hrun
      go_loopw [24] (fun i wr => ∃ j : Nat, i = .int .i64 (j : Int) ∧ j ≤ Q.length ∧ NdS b (Lw.dfsL f (Q.take j) (K ++ [p])) wr ∧ Lw.Tn b w2 wr) (fun i _ => Q.length - (Go.RowKit.intOf i).toNat)
      case atStart => exact ⟨0, rfl, by omega, by rw [D0.out]; exact ND.out, Lw.Tn.refl _ _⟩
      case round =>
        obtain ⟨j, rfl, hj, hN, hT⟩ := hrel
        have hjm : j < Q.length ∨ ¬ j < Q.length := by omega
        rcases hjm with hlt | hlt
        · have hlt' : (j : Int) < (Q.length : Int) := by omega
          have jc : j < (Lw.cN Q).length := by rw [Lw.cN_len]; exact hlt
          obtain ⟨ad, rfl, had, d0⟩ := (R2.out.tn hT hne.out).at1 hlt (Lw.intsV_get jc)
          rw [Lw.cN_get hlt] at d0
          have DN := DT.out j hlt
          obtain ⟨q1, q2, q3⟩ := QB.out j hlt
          obtain ⟨q, hq⟩ : ∃ q, Q[j] = q := ⟨_, rfl⟩
          rw [hq] at d0 DN q1 q2 q3
          have CL := Lib.hid (IH.out q _ wr hN (KS.out j) q1 q2 q3)
          rw [← DN] at CL
          have HT := Lib.hid hT
          clear hN hT DN hq q1 q2 q3 jc had
          go_wp2_with (go_at_call 29; (with_reducible refine (CL.out).mono ?_); rintro e w3 ⟨⟨v3, rfl⟩, N3, T3⟩; have N3 := Lib.hid N3; have T3 := Lib.hid T3)
          go_roundw
          case rel => exact ⟨j + 1, by go_num, by omega, N3.out, HT.out.trans T3.out⟩
          case measure => simp [Go.RowKit.intOf]; omega
        · have hlt' : ¬ (j : Int) < (Q.length : Int) := by omega
          have hje : j = Q.length := by omega
          rw [hje, DE.out] at hN
          have HN := Lib.hid hN
          clear hN
          go_wp2
          go_end0
          exact ⟨⟨_, rfl⟩, HN.out, hT2.trans hT⟩
end Go.Proofs.Ytfocpbknckmmaaa
