/- A field's elements as sequences: their product, that it is a group without 0 (plain). -/
import Derived.Test.YtjhjppaabmbbbaaFde
import Derived.Test.YtjhjppaabmbbbaaCvq
import Derived.Test.YtjhjppaabmbbbaaAbg
namespace Lw
open Go Go.RowKit
def sq (l : List Int) : Nat → Int := fun i => l.getD i 0
theorem sq_fs (l : List Int) : Fs l.length (sq l) := fun i hi => getD_out hi
def sm (a g : Nat → Int) : Nat → Int
  | 0 => 0
  | k + 1 => sm a g k + a k * g k
theorem sm_shift (a g : Nat → Int) : ∀ k, sm a g (k + 1) = a 0 * g 0 + sm (fun i => a (i + 1)) (fun i => g (i + 1)) k
  | 0 => by show 0 + a 0 * g 0 = a 0 * g 0 + 0; omega
  | k + 1 => by
    show sm a g (k + 1) + a (k + 1) * g (k + 1) = a 0 * g 0 + (sm _ _ k + a (k + 1) * g (k + 1))
    rw [sm_shift a g k]; omega
theorem sm_congr {a g h : Nat → Int} : ∀ k, (∀ j, j < k → g j = h j) → sm a g k = sm a h k
  | 0, _ => rfl
  | k + 1, e => by show sm a g k + _ = sm a h k + _; rw [sm_congr k fun j hj => e j (by omega), e k (by omega)]
theorem cv_sm (b : Nat → Int) : ∀ n (a : Nat → Int), cv n a b = sm a (fun j => b (n - j)) (n + 1)
  | 0, a => by show a 0 * b 0 = 0 + a 0 * b (0 - 0); rw [Int.zero_add]
  | n + 1, a => by
    rw [sm_shift]
    show a 0 * b (n + 1) + cv n (fun i => a (i + 1)) b = a 0 * b (n + 1 - 0) + _
    rw [cv_sm b n]
    congr 1
    exact sm_congr _ fun j hj => by show b (n - j) = b (n + 1 - (j + 1)); congr 1; omega
theorem conv_sm {p : Int} {a b : List Int} {i : Nat} : ∀ k, p ∣ convM p a b i k - sm (sq a) (fun j => if j ≤ i then sq b (i - j) else 0) k
  | 0 => ⟨0, by show (0 : Int) - 0 = _; omega⟩
  | k + 1 => by
    show p ∣ (convM p a b i k + a.getD k 0 * (if k ≤ i then b.getD (i - k) 0 else 0)) % p - (sm _ _ k + a.getD k 0 * (if k ≤ i then b.getD (i - k) 0 else 0))
    obtain ⟨z, hz⟩ := conv_sm (p := p) (a := a) (b := b) (i := i) k
    obtain ⟨y, hy⟩ := emod_q (convM p a b i k + a.getD k 0 * (if k ≤ i then b.getD (i - k) 0 else 0)) p
    rw [hy]
    exact ⟨z - y, by rw [Int.mul_sub, ← hz]; omega⟩
theorem conv_cv {p : Int} {a b : List Int} {i : Nat} : p ∣ convM p a b i (i + 1) - cv i (sq a) (sq b) := by
  rw [cv_sm, ← sm_congr (g := fun j => if j ≤ i then sq b (i - j) else 0) (i + 1) fun j hj => if_pos (by omega)]
  exact conv_sm _
theorem times_cv {p : Int} (hp : 0 < p) {a b : List Int} (i : Nat) : p ∣ sq (timesK p a b a.length) i - cv i (sq a) (sq b) := by
  unfold sq
  rw [timesK_getD, conv_end hp]
  exact conv_cv
theorem rem_spec {p : Int} {a b : List Int} (p1 : 2 ≤ p) (p2 : p ≤ 251) (pp : primeB p = true) (ha : ∀ x ∈ a, 0 ≤ x ∧ x < p) (hat : trimL a = a) (hb : goodL p b) (hm : 0 < b.length) :
    ∃ q : List Int, ∀ i, p ∣ sq a i - cv i (sq q) (sq b) - sq (remL p a b) i := by
  obtain ⟨j, h1, h2⟩ := ov_short p1 p2 pp ha hb hm
  have e := left_end (inv_top p1 p2 pp hb.1 (endZ_top hb.2.1 hm)) p1 ha hat hm h1 h2
  refine ⟨(ovN p a b (invR (b.getD (b.length - 1) 0) p) j).1, fun i => ?_⟩
  have e2 : remL p a b = (ovN p a b (invR (b.getD (b.length - 1) 0) p) j).2 := e
  rw [e2]
  obtain ⟨z, hz⟩ := ov_inv (p := p) (a := a) (b := b) (li := invR (b.getD (b.length - 1) 0) p) (i := i) j
  obtain ⟨y, hy⟩ := conv_cv (p := p) (a := (ovN p a b (invR (b.getD (b.length - 1) 0) p) j).1) (b := b) (i := i)
  have h3 : sq (ovN p a b (invR (b.getD (b.length - 1) 0) p) j).2 i = (ovN p a b (invR (b.getD (b.length - 1) 0) p) j).2.getD i 0 := rfl
  have h4 : sq a i = a.getD i 0 := rfl
  exact ⟨y - z, by rw [Int.mul_sub, ← hy]; omega⟩
theorem dvd_bd {p x : Int} (h : p ∣ x) (h0 : -p < x) (h1 : x < p) : x = 0 := by
  obtain ⟨z, rfl⟩ := h
  have hp : 0 < p := by omega
  rcases Int.lt_trichotomy z 0 with h | h | h
  · have := Int.mul_le_mul_of_nonneg_left (show z ≤ -1 by omega) (show 0 ≤ p by omega); omega
  · rw [h]; omega
  · have := Int.mul_le_mul_of_nonneg_left (show 1 ≤ z by omega) (show 0 ≤ p by omega); omega
theorem sq_inj {a b : List Int} (ha : trimL a = a) (hb : trimL b = b) (h : ∀ i, sq a i = sq b i) : a = b := by
  rw [← ha, ← hb]; exact trim_unique h
/-- what is known of a field -/
structure Fld (p : Int) (f : List Int) : Prop where
  p1 : 2 ≤ p
  p2 : p ≤ 251
  pp : primeB p = true
  good : goodL p f
  len : 2 ≤ f.length
  top : f.getD (f.length - 1) 0 = 1
  size : p ^ (f.length - 1) ≤ 4096
  np : ¬ Prd p f
theorem fld_of {p : Int} {f : List Int} (h : fldE p f = 0) : Fld p f := by
  obtain ⟨h1, h2, h3, h4, h5⟩ := of_fld h
  obtain ⟨p1, p2, pp, _⟩ := poly_facts h1
  exact ⟨p1, p2, pp, good_of h1, h2, h3, h4, h5⟩
def elq (p x : Int) : Nat → Int := sq (digs p x)
theorem inv_ex {p : Int} (p1 : 2 ≤ p) (p2 : p ≤ 251) (pp : primeB p = true) (x : Int) (h : ¬ p ∣ x) : ∃ u, p ∣ u * x - 1 := by
  have b0 := Int.emod_nonneg x (by omega : p ≠ 0)
  have b1 := Int.emod_lt_of_pos x (by omega : 0 < p)
  have b2 : x % p ≠ 0 := fun e => h (Int.dvd_of_emod_eq_zero e)
  have := (inv_prime (b := x % p) pp (by omega) (by omega) b1).1
  refine ⟨invR (x % p) p, Int.dvd_of_emod_eq_zero (Int.emod_eq_emod_iff_emod_sub_eq_zero.1 ?_)⟩
  rw [← this, Int.mul_emod, Int.mul_emod (invR _ p) (_ % p), Int.emod_emod_of_dvd _ (Int.dvd_refl p)]
theorem mul_cancel {p : Int} (hu : ∀ x, ¬ p ∣ x → ∃ u, p ∣ u * x - 1) {x y : Int} (h : ¬ p ∣ y) (hd : p ∣ x * y) : p ∣ x := by
  obtain ⟨u, z, hz⟩ := hu y h
  obtain ⟨t, ht⟩ := hd
  exact ⟨u * t - x * z, by have : x = u * (x * y) - x * (u * y - 1) := by grind
                           rw [this, ht, hz]; grind⟩
variable {p : Int} {f : List Int}
theorem Fld.fs (F : Fld p f) : Fs (f.length - 1 + 1) (sq f) := (sq_fs f).mono (by have := F.len; omega)
theorem Fld.one (F : Fld p f) : sq f (f.length - 1) = 1 := F.top
theorem Fld.inv (F : Fld p f) : ∀ x, ¬ p ∣ x → ∃ u, p ∣ u * x - 1 := inv_ex F.p1 F.p2 F.pp
theorem Fld.not1 (F : Fld p f) : ¬ p ∣ 1 := fun h => by have := Int.le_of_dvd (by omega) h; have := F.p1; omega
theorem Fld.d12 (F : Fld p f) : f.length - 1 ≤ 12 := by have := F.good.2.2; omega
/-- a divisor of at most half the degree -/
theorem prd_of (F : Fld p f) {t N : Nat} {c e : Nat → Int} (t1 : 1 ≤ t) (t2 : 2 * t ≤ f.length - 1) (hc : Fs (t + 1) c) (hct : ¬ p ∣ c t) (he : Fs N e) (h : ∀ i, p ∣ sq f i - cv i e c) : Prd p f := by
  have p1 := F.p1
  have d12 := F.d12
  let l : List Int := (List.range (t + 1)).map fun i => c i % p
  have ll : l.length = t + 1 := by simp [l]
  have lb : ∀ x ∈ l, 0 ≤ x ∧ x < p := fun x hx => by
    obtain ⟨i, _, rfl⟩ := List.mem_map.1 hx
    exact ⟨Int.emod_nonneg _ (by omega), Int.emod_lt_of_pos _ (by omega)⟩
  have lq : ∀ i, p ∣ c i - sq l i := fun i => by
    unfold sq
    rw [List.getD_eq_getElem?_getD, List.getElem?_map]
    by_cases hi : i < t + 1
    · rw [List.getElem?_range hi]
      obtain ⟨y, hy⟩ := emod_q (c i) p
      exact ⟨y, by show c i - c i % p = _; rw [hy]; omega⟩
    · rw [List.getElem?_eq_none (by simp; omega), hc i (by omega)]
      exact ⟨0, by show (0 : Int) - 0 = _; omega⟩
  have lt : ¬ p ∣ sq l t := fun hd => hct (by
    obtain ⟨y, hy⟩ := lq t
    obtain ⟨z, hz⟩ := hd
    exact ⟨y + z, by rw [Int.mul_add, ← hy, ← hz]; omega⟩)
  have lz : endZ l = false := by
    obtain ⟨hl, e⟩ := endZ_last ll
    rw [e]
    have : sq l t = l[t] := getD_at hl
    rw [this] at lt
    rw [beq_eq_false_iff_ne]
    intro h0; rw [h0] at lt; exact lt ⟨0, by omega⟩
  have hg : goodL p l := ⟨lb, lz, by omega⟩
  have hP := ipow_le p1 (show t + 1 ≤ f.length - 1 by omega)
  have nb := num_bd p1 lb
  rw [ll] at nb
  have hs := F.size
  have nt := num_top p1 lb lz ll
  have np := ipow_le p1 t1
  rw [Int.pow_succ, Int.pow_zero, Int.one_mul] at np
  have dg := digs_num p1 lb lz (by omega)
  refine ⟨numL p l, by omega, by omega, by rw [dg, ll]; omega, ?_⟩
  rw [dg]
  obtain ⟨q0, hq0⟩ := rem_spec (a := f) p1 F.p2 F.pp F.good.1 (trim_endZ F.good.2.1) hg (by omega)
  have rl := rem_len (a := f) p1 F.p2 F.pp F.good.1 (trim_endZ F.good.2.1) hg (by omega)
  have rb : ∀ i, 0 ≤ sq (remL p f l) i ∧ sq (remL p f l) i < p := fun i => getD_bd (by omega) (fun x hx => leftN_mem (by omega) F.good.1 _ x (trim_mem hx)) i
  have h3 := (fs_rest (p := p) (f := sq l) (d := t) ((sq_fs l).mono (by omega)) (fun x hx => mul_cancel F.inv lt hx) _ (fun i => e i - sq q0 i) (sq (remL p f l)) (he.sub (sq_fs q0)) ((sq_fs _).mono (by omega)) fun i => by
    rw [cv_sub_l]
    obtain ⟨z, hz⟩ := h i
    obtain ⟨y, hy⟩ := hq0 i
    have h4 : p ∣ cv i e c - cv i e (sq l) := by
      rw [← cv_sub_r, cv_comm]
      exact cv_dvd e i _ fun j _ => lq j
    obtain ⟨x, hx⟩ := h4
    exact ⟨x - y + z, by rw [Int.mul_add, Int.mul_sub, ← hx, ← hy, ← hz]; omega⟩).2
  have tr : trimL (remL p f l) = remL p f l := trim_trim _
  refine sq_inj tr rfl fun i => ?_
  have := dvd_bd (h3 i) (by have := rb i; omega) (rb i).2
  rw [this]; rfl
theorem Fld.irr (F : Fld p f) : Irr p (sq f) (f.length - 1) := by
  intro m a q N ha m1 m2 ham hq h
  have hone : ¬ p ∣ sq f (f.length - 1) := by rw [F.one]; exact F.not1
  -- q's top
  have hex : ∃ i, i < N ∧ ¬ p ∣ q i := by
    refine Classical.byContradiction fun hno => hone ?_
    have hall : ∀ i, p ∣ q i := fun i => by
      rcases Nat.lt_or_ge i N with h1 | h1
      · exact Classical.byContradiction fun h2 => hno ⟨i, h1, h2⟩
      · rw [hq i h1]; exact ⟨0, by omega⟩
    obtain ⟨z, hz⟩ := h (f.length - 1)
    obtain ⟨y, hy⟩ := cv_dvd (p := p) a (f.length - 1) q fun i _ => hall i
    exact ⟨z + y, by rw [Int.mul_add, ← hz, ← hy]; omega⟩
  obtain ⟨k, k1, k2, k3⟩ := top_not N hex
  have hk : ∀ j, k < j → p ∣ q j := fun j hj => by
    rcases Nat.lt_or_ge j N with h1 | h1
    · exact Classical.not_not.1 (k3 j hj h1)
    · rw [hq j h1]; exact ⟨0, by omega⟩
  let q' : Nat → Int := fun i => if i ≤ k then q i else 0
  have hq' : Fs (k + 1) q' := fun i hi => if_neg (by omega)
  have hqk : q' k = q k := if_pos (Nat.le_refl _)
  have hqq : ∀ i, p ∣ q i - q' i := fun i => by
    by_cases hi : i ≤ k
    · have e : q' i = q i := if_pos hi
      rw [e]; exact ⟨0, by omega⟩
    · have e : q' i = 0 := if_neg hi
      rw [e, Int.sub_zero]; exact hk i (by omega)
  have h' : ∀ i, p ∣ sq f i - cv i q' a := fun i => by
    obtain ⟨z, hz⟩ := h i
    obtain ⟨y, hy⟩ := cv_dvd (p := p) a i (fun i => q i - q' i) fun j _ => hqq j
    rw [cv_sub_l] at hy
    exact ⟨z + y, by rw [Int.mul_add, ← hz, ← hy]; omega⟩
  have ht : ¬ p ∣ cv (k + m) q' a := by
    rw [cv_top ha k q' hq', hqk]
    exact fun hd => k2 (mul_cancel F.inv ham hd)
  have e1 : k + m ≤ f.length - 1 := by
    rcases Nat.lt_or_ge (f.length - 1) (k + m) with h1 | h1
    · exfalso
      refine ht ?_
      have h2 := h' (k + m)
      rw [F.fs _ (by omega)] at h2
      obtain ⟨z, hz⟩ := h2
      exact ⟨-z, by rw [Int.mul_neg, ← hz]; omega⟩
    · exact h1
  have e2 : f.length - 1 ≤ k + m := by
    rcases Nat.lt_or_ge (k + m) (f.length - 1) with h1 | h1
    · exfalso
      refine hone ?_
      have h2 := h' (f.length - 1)
      rw [cv_far ha (f.length - 1) (k + 1) q' hq' (by omega), Int.sub_zero] at h2
      exact h2
    · exact h1
  by_cases hm : 2 * m ≤ f.length - 1
  · exact F.np (prd_of F m1 hm ha ham hq' h')
  · refine F.np (prd_of F (t := k) (by omega) (by omega) hq' (by rw [hqk]; exact k2) ha fun i => ?_)
    rw [cv_comm]; exact h' i
/-- elements -/
theorem el_fs (F : Fld p f) {x : Int} (h0 : 0 ≤ x) (h1 : x < p ^ (f.length - 1)) : Fs (f.length - 1) (elq p x) := (sq_fs _).mono (digs_lenle F.p1 h0 h1 F.size)
theorem el_fin (p x : Int) : ∃ N, Fs N (elq p x) := ⟨_, sq_fs _⟩
theorem el_bd (F : Fld p f) (x : Int) (i : Nat) : 0 ≤ elq p x i ∧ elq p x i < p := getD_bd (by have := F.p1; omega) (digs_bd (by have := F.p1; omega) x) i
theorem el_inj (F : Fld p f) {x y : Int} (h0 : 0 ≤ x) (h1 : x < p ^ (f.length - 1)) (g0 : 0 ≤ y) (g1 : y < p ^ (f.length - 1)) (h : Eqf p (sq f) (elq p x) (elq p y)) : x = y := by
  have hp := F.p1
  have hs := F.size
  obtain ⟨q, N, hq, h⟩ := h
  have h2 := (fs_rest (p := p) F.fs (fun z hz => by rwa [F.one, Int.mul_one] at hz) N q (fun i => elq p x i - elq p y i) hq ((el_fs F h0 h1).sub' (el_fs F g0 g1)) h).2
  have h3 : digs p x = digs p y := by
    refine sq_inj (trim_endZ (digF_end hp 14 x h0 (by omega))) (trim_endZ (digF_end hp 14 y g0 (by omega))) fun i => ?_
    have := dvd_bd (h2 i) (by have := el_bd F x i; have := el_bd F y i; omega) (by have := el_bd F x i; have := el_bd F y i; omega)
    have e1 : sq (digs p x) i = elq p x i := rfl
    have e2 : sq (digs p y) i = elq p y i := rfl
    omega
  have nx := num_digF hp 14 x h0 (by omega)
  have ny := num_digF hp 14 y g0 (by omega)
  have e : digF p 14 x = digF p 14 y := h3
  rw [e] at nx
  exact nx.symm.trans ny
theorem mul_eqf (F : Fld p f) (a b : Int) : Eqf p (sq f) (elq p (mulF p f a b)) (fun i => cv i (elq p a) (elq p b)) := by
  have hp := F.p1
  have hs := F.size
  have pb := prod_bd (p := p) (f := f) (a := a) (b := b) hp
  have pz : endZ (prodL p f a b) = false := endZ_trim _
  have mb := mulF_bd (a := a) (b := b) hp F.p2 F.pp F.good (by have := F.len; omega)
  have dg : digs p (mulF p f a b) = prodL p f a b := digs_num hp pb pz (by have e : mulF p f a b = numL p (prodL p f a b) := rfl; omega)
  obtain ⟨q, hq⟩ := rem_spec (a := timesK p (digs p a) (digs p b) (digs p a).length) hp F.p2 F.pp (timesK_bd (by omega) _) (timesK_trim _) F.good (by have := F.len; omega)
  refine Eqf.symm ⟨sq q, _, sq_fs q, fun i => ?_⟩
  have e : elq p (mulF p f a b) i = sq (remL p (timesK p (digs p a) (digs p b) (digs p a).length) f) i := by unfold elq; rw [dg]; rfl
  rw [e]
  obtain ⟨z, hz⟩ := hq i
  obtain ⟨y, hy⟩ := times_cv (p := p) (by omega) (a := digs p a) (b := digs p b) i
  have e3 : cv i (elq p a) (elq p b) = cv i (sq (digs p a)) (sq (digs p b)) := rfl
  exact ⟨z - y, by rw [Int.mul_sub, ← hz, ← hy]; show cv i (elq p a) (elq p b) - _ - _ = _; omega⟩
theorem el_zero (p : Int) : elq p 0 = zf := rfl
theorem el_one (F : Fld p f) : elq p 1 = one1' := by
  have hp := F.p1
  unfold elq
  rw [digs_step hp (by omega) (by omega), Int.emod_eq_of_lt (by omega) (by omega), Int.ediv_eq_zero_of_lt (by omega) (by omega), digs_zero]
  funext i
  unfold sq one1' mono
  cases i with
  | zero => rfl
  | succ i => rfl
theorem Fld.size1 (F : Fld p f) : 1 < p ^ (f.length - 1) := by
  have h := ipow_le F.p1 (show 1 ≤ f.length - 1 by have := F.len; omega)
  have := F.p1
  rw [Int.pow_succ, Int.pow_zero, Int.one_mul] at h
  omega
/-- the members without 0 -/
abbrev Mem0 (p : Int) (f : List Int) := { x : Int // 1 ≤ x ∧ x < p ^ (f.length - 1) }
theorem mul_bd0 (F : Fld p f) (a b : Int) : 0 ≤ mulF p f a b ∧ mulF p f a b < p ^ (f.length - 1) := mulF_bd F.p1 F.p2 F.pp F.good (by have := F.len; omega)
theorem el_ne (F : Fld p f) {x : Int} (h0 : 1 ≤ x) (h1 : x < p ^ (f.length - 1)) : ¬ Eqf p (sq f) (elq p x) zf := fun h => by
  have := el_inj F (by omega) h1 (Int.le_refl 0) (by have := F.size1; omega) h
  omega
theorem mul_mem (F : Fld p f) (a b : Mem0 p f) : 1 ≤ mulF p f a.1 b.1 ∧ mulF p f a.1 b.1 < p ^ (f.length - 1) := by
  obtain ⟨h0, h1⟩ := mul_bd0 F a.1 b.1
  refine ⟨?_, h1⟩
  by_cases e : mulF p f a.1 b.1 = 0
  · exfalso
    have h := mul_eqf F a.1 b.1
    rw [e, el_zero] at h
    rcases no_zero F.inv F.irr F.fs F.one (el_fin p a.1).choose_spec (el_fin p b.1).choose_spec h.symm with h2 | h2
    · exact el_ne F a.2.1 a.2.2 h2
    · exact el_ne F b.2.1 b.2.2 h2
  · omega
theorem mulF_comm (F : Fld p f) (a b : Int) : mulF p f a b = mulF p f b a := by
  obtain ⟨h0, h1⟩ := mul_bd0 F a b
  obtain ⟨g0, g1⟩ := mul_bd0 F b a
  refine el_inj F h0 h1 g0 g1 ((mul_eqf F a b).trans ?_)
  rw [show (fun i => cv i (elq p a) (elq p b)) = fun i => cv i (elq p b) (elq p a) from funext fun i => cv_comm i _ _]
  exact (mul_eqf F b a).symm
theorem mulF_assoc (F : Fld p f) (a b c : Int) : mulF p f (mulF p f a b) c = mulF p f a (mulF p f b c) := by
  obtain ⟨h0, h1⟩ := mul_bd0 F (mulF p f a b) c
  obtain ⟨g0, g1⟩ := mul_bd0 F a (mulF p f b c)
  refine el_inj F h0 h1 g0 g1 ((mul_eqf F _ c).trans ?_)
  refine ((mul_eqf F a b).mul_r (el_fin p c).choose_spec).trans ?_
  rw [show (fun i => cv i (fun i => cv i (elq p a) (elq p b)) (elq p c)) = fun i => cv i (elq p a) (fun i => cv i (elq p b) (elq p c)) from funext fun i => cv_assoc _ i _ _]
  refine Eqf.symm ((mul_eqf F a _).trans ?_)
  have := (mul_eqf F b c).mul_r (el_fin p a).choose_spec
  rw [show (fun i => cv i (elq p (mulF p f b c)) (elq p a)) = fun i => cv i (elq p a) (elq p (mulF p f b c)) from funext fun i => cv_comm i _ _, show (fun i => cv i (fun i => cv i (elq p b) (elq p c)) (elq p a)) = fun i => cv i (elq p a) (fun i => cv i (elq p b) (elq p c)) from funext fun i => cv_comm i _ _] at this
  exact this
theorem mulF_one (F : Fld p f) {a : Int} (h0 : 0 ≤ a) (h1 : a < p ^ (f.length - 1)) : mulF p f 1 a = a := by
  obtain ⟨g0, g1⟩ := mul_bd0 F 1 a
  refine el_inj F g0 g1 h0 h1 ((mul_eqf F 1 a).trans ?_)
  rw [el_one F, show (fun i => cv i one1' (elq p a)) = elq p a from funext fun i => cv_one i _]
  exact Eqf.refl _ _ _
theorem mulF_cancel (F : Fld p f) {a b c : Mem0 p f} (h : mulF p f a.1 b.1 = mulF p f a.1 c.1) : b = c := by
  have h1 := (mul_eqf F a.1 b.1).symm.trans (h ▸ mul_eqf F a.1 c.1)
  have h2 := h1.sub (Eqf.refl p (sq f) fun i => cv i (elq p a.1) (elq p c.1))
  rw [show (fun i => cv i (elq p a.1) (elq p b.1) - cv i (elq p a.1) (elq p c.1)) = fun i => cv i (elq p a.1) (fun j => elq p b.1 j - elq p c.1 j) from funext fun i => (cv_sub_r i _ _ _).symm, show (fun i => cv i (elq p a.1) (elq p c.1) - cv i (elq p a.1) (elq p c.1)) = zf from funext fun i => by show _ = (0 : Int); omega] at h2
  rcases no_zero F.inv F.irr F.fs F.one (el_fin p a.1).choose_spec ((el_fin p b.1).choose_spec.sub (el_fin p c.1).choose_spec) h2 with h3 | h3
  · exact absurd h3 (el_ne F a.2.1 a.2.2)
  · have h4 := h3.add (Eqf.refl p (sq f) (elq p c.1))
    rw [show (fun i => elq p b.1 i - elq p c.1 i + elq p c.1 i) = elq p b.1 from funext fun i => by omega, show (fun i => zf i + elq p c.1 i) = elq p c.1 from funext fun i => by show (0 : Int) + _ = _; omega] at h4
    exact Subtype.ext (el_inj F (by have := b.2.1; omega) b.2.2 (by have := c.2.1; omega) c.2.2 h4)
/-- the group -/
def fAb (F : Fld p f) : Ab (Mem0 p f) where
  mul a b := ⟨mulF p f a.1 b.1, mul_mem F a b⟩
  one := ⟨1, Int.le_refl _, F.size1⟩
  comm a b := Subtype.ext (mulF_comm F a.1 b.1)
  assoc a b c := Subtype.ext (mulF_assoc F a.1 b.1 c.1)
  one_mul a := Subtype.ext (mulF_one F (by have := a.2.1; omega) a.2.2)
def allM (p : Int) (f : List Int) : List (Mem0 p f) := (List.range ((p ^ (f.length - 1)).toNat - 1)).pmap (P := fun (i : Nat) => i < (p ^ (f.length - 1)).toNat - 1) (fun (i : Nat) h => ⟨(i : Int) + 1, by omega, by omega⟩) (fun i hi => List.mem_range.1 hi)
theorem allM_len : (allM p f).length = (p ^ (f.length - 1)).toNat - 1 := by simp [allM]
theorem allM_mem (F : Fld p f) (x : Mem0 p f) : x ∈ allM p f := by
  have h1 := x.2.1
  have h2 := x.2.2
  have h3 : (x.1 - 1).toNat < (p ^ (f.length - 1)).toNat - 1 := by omega
  refine List.mem_pmap.2 ⟨(x.1 - 1).toNat, List.mem_range.2 h3, Subtype.ext ?_⟩
  show ((x.1 - 1).toNat : Int) + 1 = x.1
  omega
theorem allM_nodup : (allM p f).Nodup := by
  unfold allM List.Nodup
  rw [List.pairwise_pmap]
  exact List.Pairwise.imp_of_mem (fun _ _ h _ _ e => by have := congrArg Subtype.val e; simp at this; omega) List.pairwise_lt_range
/-- how many there are -/
def fN (p : Int) (f : List Int) : Nat := (p ^ (f.length - 1)).toNat - 1
theorem f_fermat (F : Fld p f) (x : Mem0 p f) : (fAb F).pow x (fN p f) = (fAb F).one := by
  have := (fAb F).fermat (fun a b c h => mulF_cancel F (congrArg Subtype.val h)) (allM p f) allM_nodup (allM_mem F) x
  rwa [allM_len] at this
theorem f_pow_eqf (F : Fld p f) (x : Mem0 p f) : ∀ n, Eqf p (sq f) (elq p ((fAb F).pow x n).1) (pwR (elq p x.1) n)
  | 0 => by
    show Eqf p (sq f) (elq p 1) one1'
    rw [el_one F]; exact Eqf.refl _ _ _
  | n + 1 => (mul_eqf F _ x.1).trans ((f_pow_eqf F x n).mul_r (el_fin p x.1).choose_spec)
theorem f_not (F : Fld p f) (n : Nat) (h0 : 0 < n) (h1 : n < fN p f) : ∃ x, ¬ (fAb F).One x n := by
  refine Classical.byContradiction fun h => ?_
  refine few_powR F.not1 F.inv F.irr F.fs F.one (by have := F.len; omega) n h0 ((allM p f).map fun x => elq p x.1) ?_ (by rw [List.length_map, allM_len]; exact h1) ?_ ?_
  · intro c hc
    obtain ⟨x, _, rfl⟩ := List.mem_map.1 hc
    exact el_fin p x.1
  · rw [List.pairwise_map]
    refine allM_nodup.imp_of_mem fun {a b} _ _ hab hd => hab ?_
    have h4 := hd.add (Eqf.refl p (sq f) (elq p a.1))
    rw [show (fun i => elq p b.1 i - elq p a.1 i + elq p a.1 i) = elq p b.1 from funext fun i => by omega, show (fun i => zf i + elq p a.1 i) = elq p a.1 from funext fun i => by show (0 : Int) + _ = _; omega] at h4
    exact (Subtype.ext (el_inj F (by have := b.2.1; omega) b.2.2 (by have := a.2.1; omega) a.2.2 h4)).symm
  · intro r hr
    obtain ⟨x, _, rfl⟩ := List.mem_map.1 hr
    have hx : (fAb F).One x n := Classical.byContradiction fun h2 => h ⟨x, h2⟩
    have h2 := (f_pow_eqf F x n).symm
    have h3 : (fAb F).pow x n = (fAb F).one := hx
    rw [h3] at h2
    have h5 : elq p (fAb F).one.1 = one1' := el_one F
    rwa [h5] at h2
theorem fN_pos (F : Fld p f) : 1 ≤ fN p f := by have := F.size1; unfold fN; omega
theorem f_gen (F : Fld p f) : ∃ g, (fAb F).Ord g (fN p f) := Ab.ex_ord (fN_pos F) (f_fermat F) (f_not F) _ (fN_pos F) (Nat.dvd_refl _)
end Lw
