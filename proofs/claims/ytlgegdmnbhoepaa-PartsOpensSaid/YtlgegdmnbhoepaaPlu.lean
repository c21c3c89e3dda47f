/- What goes through points, by Newton's way and by Lagrange's: the same (plain). -/
import Derived.Test.YtlgegdmnbhoepaaPlt
namespace Lw
abbrev PtT := Int × Int
def ptG (L : List PtT) (k : Nat) : PtT := L.getD k (0, 0)
def PtsOk (p : Int) (L : List PtT) : Prop := (∀ r ∈ L, (0 ≤ r.1 ∧ r.1 < p) ∧ 0 ≤ r.2 ∧ r.2 < p) ∧ ∀ i j, i < j → j < L.length → (ptG L i).1 ≠ (ptG L j).1
theorem ptG_at {L : List PtT} {k : Nat} (h : k < L.length) : ptG L k = L[k] := by unfold ptG; rw [List.getD_eq_getElem?_getD, List.getElem?_eq_getElem h]; rfl
theorem PtsOk.bd {p : Int} {L : List PtT} (h : PtsOk p L) {k : Nat} (hk : k < L.length) : (0 ≤ (ptG L k).1 ∧ (ptG L k).1 < p) ∧ 0 ≤ (ptG L k).2 ∧ (ptG L k).2 < p := by
  rw [ptG_at hk]; exact h.1 _ (List.getElem_mem hk)
theorem PtsOk.ne {p : Int} {L : List PtT} (h : PtsOk p L) {i j : Nat} (hi : i < L.length) (hj : j < L.length) (e : i ≠ j) : ((ptG L i).1 - (ptG L j).1) % p ≠ 0 := by
  intro h0
  have a := (h.bd hi).1; have b := (h.bd hj).1
  have h5 := Int.emod_eq_emod_iff_emod_sub_eq_zero.2 h0
  rw [Int.emod_eq_of_lt a.1 a.2, Int.emod_eq_of_lt b.1 b.2] at h5
  rcases Nat.lt_or_gt_of_ne e with h1 | h1
  · exact h.2 i j h1 hj h5
  · exact h.2 j i h1 hi h5.symm
def gapK (p : Int) (a z : List Int) (P : PtT) : Int := (P.2 - hornV p a P.1) % p * invR (hornV p z P.1) p % p
/-- Newton's way: what goes through the first k, and what is 0 at them -/
def nst (p : Int) (L : List PtT) : Nat → List Int × List Int
  | 0 => ([], [1])
  | k + 1 => (plusL p (nst p L k).1 (nst p L k).2 (gapK p (nst p L k).1 (nst p L k).2 (ptG L k)) 0, timesK p (nst p L k).2 [(-(ptG L k).1) % p, 1] (nst p L k).2.length)
/-- Lagrange's: what is 0 at the first j but at i -/
def lsK (p : Int) (L : List PtT) (i j : Nat) : Int := invR (((ptG L i).1 - (ptG L j).1) % p) p
def lsF (p : Int) (L : List PtT) (i j : Nat) : List Int := trimL [(-(ptG L j).1 * lsK p L i j) % p, lsK p L i j]
def lst (p : Int) (L : List PtT) (i : Nat) : Nat → List Int
  | 0 => [(ptG L i).2]
  | j + 1 => if j = i then lst p L i j else timesK p (trimL (lst p L i j)) (lsF p L i j) (trimL (lst p L i j)).length
def sst (p : Int) (L : List PtT) : Nat → List Int
  | 0 => []
  | k + 1 => plusL p (sst p L k) (trimL (lst p L k L.length)) 1 0
theorem horn_at {p x : Int} (x0 : 0 ≤ x) (x1 : x < p) (zs : List Int) : hornV p zs x = evalI zs x % p := by
  rw [← horn_eval, Int.emod_eq_of_lt x0 x1]
theorem plusL_trim (p : Int) (a b : List Int) (κ : Int) (u : Nat) : trimL (plusL p a b κ u) = plusL p a b κ u := trim_trim _
def NewI (p : Int) (L : List PtT) (k : Nat) : Prop :=
  (∀ x ∈ (nst p L k).1, 0 ≤ x ∧ x < p) ∧ (∀ x ∈ (nst p L k).2, 0 ≤ x ∧ x < p) ∧ (nst p L k).1.length ≤ k ∧ (nst p L k).2.length ≤ k + 1 ∧ trimL (nst p L k).1 = (nst p L k).1 ∧
  (∀ i, i < k → evalI (nst p L k).1 (ptG L i).1 % p = (ptG L i).2) ∧ (∀ i, i < k → evalI (nst p L k).2 (ptG L i).1 % p = 0) ∧ ∀ i, k ≤ i → i < L.length → evalI (nst p L k).2 (ptG L i).1 % p ≠ 0
theorem new_zero {p : Int} (p1 : 2 ≤ p) (L : List PtT) : NewI p L 0 :=
  ⟨fun x h => by simp [nst] at h, fun x h => (by simp [nst] at h; omega), Nat.le_refl _, Nat.le_refl _, rfl, fun i h => by omega, fun i h => by omega, fun i _ _ => by
    show (0 * _ + 1) % p ≠ 0
    rw [Int.zero_mul, Int.zero_add, Int.emod_eq_of_lt (by omega) (by omega)]; omega⟩
theorem gap_bd {p : Int} (hp : 0 < p) (a z : List Int) (P : PtT) : 0 ≤ gapK p a z P ∧ gapK p a z P < p := ⟨Int.emod_nonneg _ (by omega), Int.emod_lt_of_pos _ hp⟩
theorem lin_at (p X x : Int) : evalI [(-X) % p, 1] x % p = (x - X) % p := by
  rw [eval_two, Int.add_emod, Int.emod_emod_of_dvd _ (Int.dvd_refl p), ← Int.add_emod]
  congr 1; omega
theorem gap_hits {p A B Y i : Int} (hi : i * B % p = 1 % p) : (A + (Y - A) % p * i % p * B) % p = Y % p := by
  obtain ⟨q1, h1⟩ := emod_q (Y - A) p
  obtain ⟨q2, h2⟩ := emod_q ((Y - A) % p * i) p
  have h3 : p ∣ i * B - 1 := Int.dvd_of_emod_eq_zero (Int.emod_eq_emod_iff_emod_sub_eq_zero.1 hi)
  obtain ⟨q3, h3⟩ := h3
  rw [h2, h1]
  have e : A + ((Y - A - p * q1) * i - p * q2) * B = Y + p * ((Y - A) * q3 - q1 * (i * B) - q2 * B) := by grind
  rw [e, Int.add_mul_emod_self_left]
theorem add_mul_mod (A κ B p : Int) : (A + κ * B) % p = (A % p + κ * (B % p)) % p := by
  obtain ⟨q1, h1⟩ := emod_q A p
  obtain ⟨q2, h2⟩ := emod_q B p
  rw [h1, h2, show A - p * q1 + κ * (B - p * q2) = A + κ * B + p * (-q1 - κ * q2) by grind, Int.add_mul_emod_self_left]
theorem new_next {p : Int} (p1 : 2 ≤ p) (p2 : p ≤ 251) (hp : primeB p = true) {L : List PtT} (hL : PtsOk p L) {k : Nat} (hk : k < L.length) (h : NewI p L k) : NewI p L (k + 1) := by
  obtain ⟨h1, h2, h3, h4, h5, h6, h7, h8⟩ := h
  obtain ⟨⟨x0, x1⟩, y0, y1⟩ := hL.bd hk
  have hn : nst p L (k + 1) = (plusL p (nst p L k).1 (nst p L k).2 (gapK p (nst p L k).1 (nst p L k).2 (ptG L k)) 0, timesK p (nst p L k).2 [(-(ptG L k).1) % p, 1] (nst p L k).2.length) := rfl
  unfold NewI
  rw [hn]
  have hB := h8 k (Nat.le_refl _) hk
  have lin : ∀ i, evalI (timesK p (nst p L k).2 [(-(ptG L k).1) % p, 1] (nst p L k).2.length) (ptG L i).1 % p = (evalI (nst p L k).2 (ptG L i).1 * ((ptG L i).1 - (ptG L k).1)) % p := fun i => by
    rw [eval_times, Int.mul_emod, lin_at, ← Int.mul_emod]
  refine ⟨plusL_bd (by omega), timesK_bd (by omega) _, ?_, ?_, plusL_trim _ _ _ _ _, fun i hi => ?_, fun i hi => ?_, fun i hi hl => ?_⟩
  · have := plusL_len (p := p) (a := (nst p L k).1) (b := (nst p L k).2) (κ := gapK p (nst p L k).1 (nst p L k).2 (ptG L k)) (u := 0)
    simp only; omega
  · have := times_short (p := p) (a := (nst p L k).2) (b := [(-(ptG L k).1) % p, 1]) (nst p L k).2.length
    simp at this ⊢; omega
  · simp only
    rw [eval_plus, Int.pow_zero, Int.one_mul]
    by_cases e : i = k
    · subst e
      have b0 := Int.emod_nonneg (evalI (nst p L i).2 (ptG L i).1) (by omega : p ≠ 0)
      have b1 := Int.emod_lt_of_pos (evalI (nst p L i).2 (ptG L i).1) (by omega : 0 < p)
      have hi := (inv_prime hp (by omega) (by omega) b1).1
      unfold gapK
      rw [horn_at x0 x1, horn_at x0 x1]
      have := gap_hits (A := evalI (nst p L i).1 (ptG L i).1 % p) (Y := (ptG L i).2) hi
      rw [Int.emod_eq_of_lt y0 y1] at this
      rw [add_mul_mod]
      exact this
    · rw [Int.add_emod, Int.mul_emod, h7 i (by omega), h6 i (by omega)]
      obtain ⟨_, w0, w1⟩ := hL.bd (show i < L.length by omega)
      simp only [Int.mul_zero, Int.zero_emod, Int.add_zero]
      exact Int.emod_eq_of_lt w0 w1
  · simp only
    rw [lin i]
    by_cases e : i = k
    · subst e; simp
    · rw [Int.mul_emod, h7 i (by omega)]; simp
  · simp only
    rw [lin i]
    intro h0
    rcases pri_mul hp h0 with h9 | h9
    · exact h8 i (by omega) hl h9
    · exact hL.ne hl hk (by omega) h9
theorem new_all {p : Int} (p1 : 2 ≤ p) (p2 : p ≤ 251) (hp : primeB p = true) {L : List PtT} (hL : PtsOk p L) : ∀ k, k ≤ L.length → NewI p L k
  | 0, _ => new_zero p1 L
  | k + 1, h => new_next p1 p2 hp hL (by omega) (new_all p1 p2 hp hL k (by omega))
theorem lsK_ok {p : Int} (p1 : 2 ≤ p) (p2 : p ≤ 251) (hp : primeB p = true) {L : List PtT} (hL : PtsOk p L) {i j : Nat} (hi : i < L.length) (hj : j < L.length) (e : j ≠ i) :
    lsK p L i j * ((ptG L i).1 - (ptG L j).1) % p = 1 % p ∧ 0 ≤ lsK p L i j ∧ lsK p L i j < p := by
  have h0 := hL.ne hi hj (fun h => e h.symm)
  have b0 := Int.emod_nonneg ((ptG L i).1 - (ptG L j).1) (by omega : p ≠ 0)
  have b1 := Int.emod_lt_of_pos ((ptG L i).1 - (ptG L j).1) (by omega : 0 < p)
  have h1 := inv_prime (b := ((ptG L i).1 - (ptG L j).1) % p) hp (by omega) (by omega) b1
  unfold lsK
  refine ⟨?_, h1.2⟩
  rw [← h1.1, Int.mul_emod, Int.mul_emod (invR _ p) (_ % p), Int.emod_emod_of_dvd _ (Int.dvd_refl p)]
theorem lsF_bd {p : Int} (p1 : 2 ≤ p) (p2 : p ≤ 251) (hp : primeB p = true) {L : List PtT} (hL : PtsOk p L) {i j : Nat} (hi : i < L.length) (hj : j < L.length) (e : j ≠ i) : (∀ x ∈ lsF p L i j, 0 ≤ x ∧ x < p) ∧ (lsF p L i j).length ≤ 2 := by
  obtain ⟨_, k1, k2⟩ := lsK_ok p1 p2 hp hL hi hj e
  refine ⟨fun x hx => ?_, Nat.le_trans (trim_len _) (Nat.le_refl _)⟩
  have := trim_mem hx
  simp at this
  rcases this with rfl | rfl
  · exact ⟨Int.emod_nonneg _ (by omega), Int.emod_lt_of_pos _ (by omega)⟩
  · exact ⟨k1, k2⟩
def LagI (p : Int) (L : List PtT) (i j : Nat) : Prop :=
  (∀ x ∈ lst p L i j, 0 ≤ x ∧ x < p) ∧ (lst p L i j).length ≤ 1 + (if i < j then j - 1 else j) ∧ evalI (lst p L i j) (ptG L i).1 % p = (ptG L i).2 ∧ ∀ m, m < j → m ≠ i → evalI (lst p L i j) (ptG L m).1 % p = 0
theorem lag_next {p : Int} (p1 : 2 ≤ p) (p2 : p ≤ 251) (hp : primeB p = true) {L : List PtT} (hL : PtsOk p L) {i j : Nat} (hi : i < L.length) (hj : j < L.length) (h : LagI p L i j) : LagI p L i (j + 1) := by
  obtain ⟨h1, h2, h3, h4⟩ := h
  unfold LagI
  by_cases e : j = i
  · have hl : lst p L i (j + 1) = lst p L i j := if_pos e
    rw [hl]
    refine ⟨h1, ?_, h3, fun m hm hme => h4 m (by omega) hme⟩
    subst e
    rw [if_pos (by omega)]; rw [if_neg (by omega)] at h2; omega
  · have hl : lst p L i (j + 1) = timesK p (trimL (lst p L i j)) (lsF p L i j) (trimL (lst p L i j)).length := if_neg e
    obtain ⟨k0, k1, k2⟩ := lsK_ok p1 p2 hp hL hi hj e
    have f2 := (lsF_bd p1 p2 hp hL hi hj e).2
    have ev : ∀ m, evalI (lst p L i (j + 1)) (ptG L m).1 % p = (evalI (lst p L i j) (ptG L m).1 * (lsK p L i j * ((ptG L m).1 - (ptG L j).1))) % p := fun m => by
      rw [hl, eval_times, eval_trim]
      unfold lsF
      rw [eval_trim, eval_two, Int.mul_emod, Int.add_emod, Int.emod_emod_of_dvd _ (Int.dvd_refl p), ← Int.add_emod, ← Int.mul_emod]
      congr 1; grind
    refine ⟨?_, ?_, ?_, fun m hm hme => ?_⟩
    · rw [hl]; exact timesK_bd (by omega) _
    · have := times_short (p := p) (a := trimL (lst p L i j)) (b := lsF p L i j) (trimL (lst p L i j)).length
      have h5 := trim_len (lst p L i j)
      rw [hl]
      by_cases hij : i < j
      · rw [if_pos hij] at h2; rw [if_pos (by omega)]; omega
      · rw [if_neg hij] at h2; rw [if_neg (by omega)]; omega
    · rw [ev, Int.mul_emod, h3, k0]
      obtain ⟨_, w0, w1⟩ := hL.bd hi
      have : (ptG L i).2 * (1 % p) % p = (ptG L i).2 := by
        rw [Int.emod_eq_of_lt (by omega : (0 : Int) ≤ 1) (by omega), Int.mul_one]; exact Int.emod_eq_of_lt w0 w1
      exact this
    · rw [ev]
      by_cases em : m = j
      · subst em; simp
      · rw [Int.mul_emod, h4 m (by omega) hme]; simp
theorem lag_all {p : Int} (p1 : 2 ≤ p) (p2 : p ≤ 251) (hp : primeB p = true) {L : List PtT} (hL : PtsOk p L) {i : Nat} (hi : i < L.length) : ∀ j, j ≤ L.length → LagI p L i j
  | 0, _ => by
    obtain ⟨_, w0, w1⟩ := hL.bd hi
    refine ⟨fun x hx => ?_, by simp [lst], ?_, fun m hm => by omega⟩
    · simp [lst] at hx; subst hx; exact ⟨w0, w1⟩
    · show (0 * _ + (ptG L i).2) % p = _
      rw [Int.zero_mul, Int.zero_add]; exact Int.emod_eq_of_lt w0 w1
  | j + 1, h => lag_next p1 p2 hp hL hi (by omega) (lag_all p1 p2 hp hL hi j (by omega))
theorem sum_all {p : Int} (p1 : 2 ≤ p) (p2 : p ≤ 251) (hp : primeB p = true) {L : List PtT} (hL : PtsOk p L) : ∀ k, k ≤ L.length → (∀ x ∈ sst p L k, 0 ≤ x ∧ x < p) ∧ (sst p L k).length ≤ L.length ∧ trimL (sst p L k) = sst p L k ∧ ∀ m, m < L.length → evalI (sst p L k) (ptG L m).1 % p = if m < k then (ptG L m).2 else 0
  | 0, _ => ⟨fun x h => by simp [sst] at h, Nat.zero_le _, rfl, fun m _ => by simp [sst, evalI]⟩
  | k + 1, h => by
    obtain ⟨h1, h2, h3, h4⟩ := sum_all p1 p2 hp hL k (by omega)
    obtain ⟨l1, l2, l3, l4⟩ := lag_all p1 p2 hp hL (show k < L.length by omega) L.length (Nat.le_refl _)
    refine ⟨plusL_bd (by omega), ?_, plusL_trim _ _ _ _ _, fun m hm => ?_⟩
    · have := plusL_len (p := p) (a := sst p L k) (b := trimL (lst p L k L.length)) (κ := 1) (u := 0)
      have h5 := trim_len (lst p L k L.length)
      rw [if_pos (by omega)] at l2
      show (plusL p (sst p L k) (trimL (lst p L k L.length)) 1 0).length ≤ _
      omega
    · show evalI (plusL p (sst p L k) (trimL (lst p L k L.length)) 1 0) _ % p = _
      rw [eval_plus, eval_trim, Int.pow_zero, Int.one_mul, Int.one_mul, Int.add_emod, h4 m hm]
      obtain ⟨_, w0, w1⟩ := hL.bd hm
      by_cases e : m = k
      · subst e
        rw [l3, if_neg (by omega), if_pos (by omega), Int.zero_add]; exact Int.emod_eq_of_lt w0 w1
      · rw [l4 m hm e, Int.add_zero]
        by_cases e2 : m < k
        · rw [if_pos e2, if_pos (by omega)]; exact Int.emod_eq_of_lt w0 w1
        · rw [if_neg e2, if_neg (by omega)]; simp
theorem thr_eq {p : Int} (p1 : 2 ≤ p) (p2 : p ≤ 251) (hp : primeB p = true) {L : List PtT} (hL : PtsOk p L) : (nst p L L.length).1 = sst p L L.length := by
  obtain ⟨h1, _, h3, _, h5, h6, _⟩ := new_all p1 p2 hp hL L.length (Nat.le_refl _)
  obtain ⟨s1, s2, s3, s4⟩ := sum_all p1 p2 hp hL L.length (Nat.le_refl _)
  have hl : (L.map Prod.fst).length = L.length := by simp
  refine same_poly hp (xs := L.map Prod.fst) h1 s1 (by omega) (by rw [hl]; exact h3) (by rw [hl]; exact s2) h5 s3 ?_ fun x hx => ?_
  · rw [List.pairwise_iff_getElem]
    intro i j hi hj hij
    have e := hL.ne (by simpa using hj) (by simpa using hi) (by omega : j ≠ i)
    rw [ptG_at (by simpa using hj), ptG_at (by simpa using hi)] at e
    simpa using e
  · obtain ⟨r, hr, rfl⟩ := List.mem_map.1 hx
    obtain ⟨i, hi, rfl⟩ := List.getElem_of_mem hr
    rw [← ptG_at hi, h6 i hi, s4 i hi, if_pos hi]
end Lw
