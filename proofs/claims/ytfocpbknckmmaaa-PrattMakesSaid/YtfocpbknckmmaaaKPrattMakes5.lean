/-
  Contract of primes.Factor: the list of the prime factors, collected from the iterator.
  Contract of power.lambda: Carmichael's number.
  log.wrong, log.Log, the reference's Log: the walks.
  Contracts of power.Order and of the reference's Order.
  Elements of every order modulo a prime. Plain.
  Polynomials: may one be? poly.prime, poly.Check, the reference's PrimeCheck and PolyCheck.
  Gates: rows of four numbers; what is wrong with them; what they are worth.
  parts.wrong, parts.Clear, the reference's GatesCheck and Clear.
  parts.Clear and the reference's Clear.
  Polynomials: without zeros at the end (poly.trim, the reference's trimmed), what stands at a place, a sum with a multiple that is moved up (poly.Plus).
  Sums of polynomials: poly.both, poly.Add, the reference's Add and Longs, the law's two.
  Products of polynomials, plain: the coefficients of poly.Times are those of the reference's Mul.
  poly.Over: quotient and rest.
  The reference's left, plain: what it leaves is the rest of poly.Over; and quotient times divisor with the rest is what was divided.
  The reference's inverse by a prime.
  What a polynomial is at a place: poly.Value, poly.At, the reference's Value.
  Values of polynomials by a prime: sums, products, how many roots; what goes through points, by Newton's way and by Lagrange's (plain).
-/
import Derived.Test.YtfocpbknckmmaaaKPrattMakes4
import Derived.Test.YtfocpbknckmmaaaKPrattMakes1
import Derived.RangeFuncBox
import Derived.Test.YtfocpbknckmmaaaKPrattMakes0
import Derived.IntWalk
import Derived.Test.YtfocpbknckmmaaaKPrattMakes3
import Derived.Laws.CopyOwn
import Derived.Lib.SliceRun
set_option linter.unusedVariables false
set_option linter.unusedSimpArgs false
namespace Go.Proofs.Ytfocpbknckmmaaa
open Go.RowKit
open Go.Shelf
attribute [local go_sem] Oper.semAt_some
theorem held_abc {β : Type} {c base B : Nat} (t e : TypeId) (sz : Nat) (n : β → Nat) (xs : β → List Value) (hB : c < B) (hb : c < base) : Lw.AbC c (fun (s : β) W => ∃ v, Boxed W B t v ∧ W.ownsRow base e sz v (n s) (xs s) ∧ True) := by
  rintro s W W' row ⟨v, h1, h2, _⟩ hg hr
  refine ⟨v, h1.kept hg (fun e => by have := hr B e.symm; omega), ?_, trivial⟩
  rcases h2.2 with ⟨rfl, _⟩ | ⟨g, cap, cur, rfl, hg2, _⟩
  · exact h2.kept hg (.inl rfl)
  · refine h2.kept hg (.inr fun e => ?_)
    have := hr g (by simpa [Value.ownBlock] using e.symm); omega
set_option maxHeartbeats 1000000 in
theorem append_powers (m c : Nat) (w : World) (hm1 : 1 ≤ m) (hm2 : m ≤ 1048576) (hc : c < w.heap.size) (hb : w.heap[c]? = some (.cells #[.int .i64 (m : Int)] 2 (0, 0))) :
    Calls Try.prog 92 #[.slice none 0 0, .func (.func 70) #[] #[.pointer (some ⟨c, 0, none⟩)]] w fun e w' => (∃ A k, e = .returned (.slice A (Lw.fac m).length k) ∧ w'.ownsRow w.heap.size 77 2 (.slice A (Lw.fac m).length k) (Lw.fac m).length (Lw.pairsV .i64 .i64 (Lw.facP m))) ∧ Below c w w' := by
  obtain ⟨i0, hi, hz0, hz1, hz2⟩ := info_parts infoPower
  have HB0 := Lib.hid hb
  clear hb
  refine (callsIn_wide (n := 4)).1 ?_
  refine callsIn_of_wp_marks Try.func92 rfl trivial ?_ rfl
  simp only [Try.ntmps92, List.size_toArray, List.length_cons, List.length_nil, Nat.reduceAdd, Nat.reduceSub, Array.replicate_succ, Array.replicate_zero, List.push_toArray, List.append_toArray, List.nil_append, List.cons_append]
  gi_wp2
  refine Lw.wpIn_rangeC rfl (by omega) (gf := 70) (lb := #[.pointer (some ⟨c, 0, none⟩)]) rfl trivial (enters_of Try.func70 (by kernel_rfl) rfl) (powers1_seq _ c m _ (by omega) (by omega) (by omega) (Lw.blk_alloc HB0.out _)) (by simp; omega) (fun _ => rfl)
    (fun pre W => (∃ v, Boxed W w.heap.size 74 v ∧ W.ownsRow w.heap.size 77 2 v pre.length (Lw.pairsV .i64 .i64 (Lw.preP pre)) ∧ True) ∧ Below c w W)
    (fun k pre W => False)
    (Lw.own_and (Own.from (holdsRow_own _ _ _ _ _ (fun pre : List (Nat × Nat) => pre.length) (fun pre => Lw.pairsV .i64 .i64 (Lw.preP pre)) (fun _ _ => True)) _) (Lw.own_below (by simp; omega) (by omega)))
    (Lw.AbC.and (held_abc _ _ _ _ _ hc hc) (Lw.below_abc (by omega) (by omega)))
    (fun k => Lw.own_pure _) (fun k => Lw.abc_pure _) ⟨⟨_, Boxed.new _ _ _, World.ownsRow_nil _ _ _ _, trivial⟩, (Below.refl _ _).alloc (by omega) _⟩
    (fun x a' W => ∃ Bx, (w.heap.size < Bx ∧ a' = { tmps := #[.slice none 0 0, .func (.func 70) #[] #[.pointer (some ⟨c, 0, none⟩)], .pointer (some ⟨w.heap.size, 0, none⟩), undef, .slice none 0 0, .pointer (some ⟨Bx, 0, none⟩), .func (.func 70) #[] #[.pointer (some ⟨c, 0, none⟩)], .agg #[.int .i64 (x.1 : Int), .int .i64 (x.2 : Int)], undef, undef, undef, undef, undef], defers := [] }) ∧ W.heap[Bx]? = some (.cells #[.int .i64 (x.1 : Int), .int .i64 (x.2 : Int)] 77 (0, 0)))
    (fun x a' => Lw.own_ex fun Bx => Lw.own_and (Lw.own_pure _) (Lw.blk_own _ _ (fun _ => _) (fun _ => rfl))) ?assign ?body ?done ?stop
  case assign =>
    intro l pre x W K hi hK
    obtain ⟨⟨v, hv, own, _⟩, hB⟩ := hi
    have hlt := hv.lt
    have HV := Lib.hid hv
    have OWN := Lib.hid own
    clear hv own
    gi_wp2
    exact hK _ _ ((KeepsOthers.alloc _ _).from _) (Below.heap_alloc _ _ _ (by omega)) ⟨⟨v, HV.out.alloc _, OWN.out.alloc _, trivial⟩, hB.alloc (by have := hB.size; omega) _⟩ ⟨W.heap.size, ⟨hlt, rfl⟩, Lw.blk_new _ _ _⟩
  case body =>
    rename_i Q1 K1 HK1
    clear HK1 K1 Q1
    rintro l pre x a' W hl ⟨r, hr⟩ ⟨⟨v, hv, own, _⟩, hB⟩ ⟨Bx, ⟨hBx, rfl⟩, bx⟩ hx
    have hlen : pre.length + 1 ≤ m := by
      have h1 := hx.length_le
      have h2 := Lw.fac_length_le m
      simp at h1; omega
    have cv := hv.cell; have fv := hv.frozen
    have cx0 := Lw.blk_cell bx 0; have cx1 := Lw.blk_cell bx 1
    simp at cx0 cx1
    have hszW := hB.size
    have HV := Lib.hid hv
    have OWN := Lib.hid own
    have HX := Lib.hid hx
    have HR := Lib.hid hr
    clear hv own hx hr bx
    gi_wp2_with (gi_at_builtin; refine wpListIn_append_own _ rfl _ _ 74 rfl w.heap.size 77 i0 _ 2 16 Try.underlying74 hi hz0 hz1 hz2 rfl (by decide) _ _ _ rfl (OWN.out.alloc _) ⟨W.heap.size, 0, none⟩ 1 1 [.int .i64 (x.1 : Int), .int .i64 (x.2 : Int)] rfl rfl (Lw.cells_new _ _ _) (Lw.one2 _ _ _ _) (Lw.max_of (by omega)) (by omega) (by simp; omega) ?_; intro v' w1 hown' hgrow _; obtain ⟨g', cap', rfl⟩ := ownsRow_succ hown'; obtain ⟨hv1, hv2, hr2, hk2, hb2⟩ := HV.out.appended (by decide) OWN.out (by have := hB.size; omega) (Nat.le_refl _) hown' hgrow; have hc1 := hv1.cell; have hf1 := hv1.frozen; have R := Lib.hid (And.intro hv2 (And.intro hr2 (And.intro hk2 hb2))); clear hv1 hv2 hr2 hk2 hb2 hown' hgrow)
    obtain ⟨hv2, hr2, hk2, hb2⟩ := R.out
    refine ⟨hk2.from _, hb2.block c (by omega), ⟨_, hv2, ?_, trivial⟩, hB.trans (hb2.mono (by omega))⟩
    rw [Lw.preP_snoc, List.length_append]; exact hr2
  case done =>
    rintro D W hD ⟨⟨v, hv, own, _⟩, hB⟩ hK
    have cv := hv.cell
    obtain ⟨A, k, rfl, _⟩ := Lw.ownsForm own
    have HV := Lib.hid hv
    have OWN := Lib.hid own
    have HK := Lib.hid hK
    clear hv own hK
    gi_wp2
    refine ⟨by simp, .inl ⟨_, _, rfl, run_takeDeferred HK.out, ?_⟩⟩
    exact ⟨_, results_tmp rfl _ _ _, ⟨A, k, rfl, ownsRow_putObj OWN.out _ HK.out rfl⟩, hB.trans (belowK_b (w := w) (by omega) W D _ _ (by simp at hD; omega) HK.out rfl rfl)⟩
  case stop => intro D k pre W _ _ h; exact h.elim
theorem collect_powers (m c : Nat) (w : World) (hm1 : 1 ≤ m) (hm2 : m ≤ 1048576) (hc : c < w.heap.size) (hb : w.heap[c]? = some (.cells #[.int .i64 (m : Int)] 2 (0, 0))) :
    Calls Try.prog 80 #[.func (.func 70) #[] #[.pointer (some ⟨c, 0, none⟩)]] w fun e w' => (∃ A k, e = .returned (.slice A (Lw.fac m).length k) ∧ w'.ownsRow w.heap.size 77 2 (.slice A (Lw.fac m).length k) (Lw.fac m).length (Lw.pairsV .i64 .i64 (Lw.facP m))) ∧ Below c w w' := by
  have HB := Lib.hid hb
  clear hb
  go_enter Try.func80, Try.ntmps80
  go_wp2_with (go_at_call 92; refine (append_powers m c _ hm1 hm2 hc HB.out).mono ?_; rintro e w1 ⟨⟨A, k, rfl, own⟩, hb1⟩; have OWN := Lib.hid own; clear own)
  go_ret
  exact ⟨⟨A, k, rfl, OWN.out⟩, hb1⟩
theorem primes_Factor (n : Int) (w : World) (h1 : 1 ≤ n) (h2 : n ≤ 1048576) :
    Calls Try.prog 71 #[.int .i64 n] w fun e w' => (∃ A k, e = .returned (.tuple #[.slice A (Lw.fac n.toNat).length k, .int .i64 0]) ∧ w'.ownsRow w.heap.size 77 2 (.slice A (Lw.fac n.toNat).length k) (Lw.fac n.toNat).length (Lw.pairsV .i64 .i64 (Lw.facP n.toNat))) ∧ Below w.heap.size w w' := by
  obtain ⟨m, rfl⟩ := Int.eq_ofNat_of_zero_le (by omega : 0 ≤ n)
  simp only [Int.toNat_natCast]
  have ho := Lw.outB_false h1 h2
  have C := Lib.hid (collect_powers m w.heap.size (w.alloc (.cells #[.int .i64 (m : Int)] 2)) (by omega) (by omega) (by simp) (Lw.blk_new _ _ _))
  go_enter Try.func71, Try.ntmps71
  go_wp2_with (first | (go_at_call 48; refine (primes_out _ _).mono ?_; rintro e w' ⟨rfl, rfl⟩) | (go_at_call 49; refine (primes_powers _ _).mono ?_; rintro e w' ⟨rfl, rfl⟩) | (go_at_call 80; refine (C.out).mono ?_; rintro e w1 ⟨⟨A, k, rfl, own⟩, hb1⟩; have OWN := Lib.hid own; clear own))
  go_ret2
  exact ⟨⟨A, k, rfl, Lw.ownsBase OWN.out (by simp)⟩, ((Below.refl _ _).alloc (Nat.le_refl _) _).trans hb1⟩
theorem primes_Factor_bad (n : Int) (w : World) (h : n < 1 ∨ 1048576 < n) :
    Calls Try.prog 71 #[.int .i64 n] w fun e w' => e = .returned (.tuple #[.slice none 0 0, .int .i64 2]) ∧ w = w' := by
  have ho := Lw.outB_true h
  go_enter Try.func71, Try.ntmps71
  go_wp2_with (go_at_call 48; refine (primes_out _ _).mono ?_; rintro e w' ⟨rfl, rfl⟩)
  go_ret2
  exact ⟨rfl, rfl⟩
end Go.Proofs.Ytfocpbknckmmaaa
namespace Lw
theorem lcm_nat {a b : Nat} (ha : 0 < a) (hb : 0 < b) : lcmI (a : Int) (b : Int) = ((Nat.lcm a b : Nat) : Int) := by
  rw [lcmI_pos (by omega), absI_pos (by omega), absI_pos (by omega)]
  unfold gcdI
  rw [Int.gcd, Int.natAbs_natCast, Int.natAbs_natCast, ← Int.natCast_ediv, ← Int.natCast_mul]
  congr 1
  unfold Nat.lcm
  rw [Nat.div_mul_right_comm (Nat.gcd_dvd_left a b)]
theorem lamL_append (r k : List (Nat × Nat)) : ∀ l, lamL l (r ++ k) = lamL (lamL l r) k := by
  induction r with
  | nil => intro l; rfl
  | cons x r ih => intro l; exact ih _
theorem lam_take {m : Nat} (hm : 0 < m) (k : Nat) : 0 < lamL 1 ((fac m).take k) ∧ lamL 1 ((fac m).take k) ≤ m := by
  have h := lamI_bd hm
  have e : lamI m = lamL (lamL 1 ((fac m).take k)) ((fac m).drop k) := by rw [← lamL_append, List.take_append_drop]; rfl
  have hd := (lamL_dvd ((fac m).drop k) (lamL 1 ((fac m).take k))).1
  rw [← e] at hd
  have := Nat.le_of_dvd h.1 hd
  refine ⟨?_, by omega⟩
  exact Nat.pos_of_dvd_of_pos hd h.1
/-- what is multiplied up -/
theorem pp_bd {p K j m : Nat} (hp : 2 ≤ p) (h : p ^ K ∣ m) (hm : 0 < m) (h1 : 1 ≤ j) (hj : j ≤ K) : (p - 1) * p ^ (j - 1) ≤ m := by
  have h2 : p ^ j ≤ m := Nat.le_of_dvd hm (Nat.dvd_trans (Nat.pow_dvd_pow p hj) h)
  have : p ^ j = p * p ^ (j - 1) := by
    obtain ⟨i, rfl⟩ : ∃ i, j = i + 1 := ⟨j - 1, by omega⟩
    rw [Nat.pow_succ, Nat.mul_comm]; rfl
  have h3 : (p - 1) * p ^ (j - 1) ≤ p * p ^ (j - 1) := Nat.mul_le_mul_right _ (by omega)
  omega
theorem fac_pow_dvd (n : Nat) : ∀ x, x ∈ fac n → x.1 ^ x.2 ∣ n := by
  induction n using Nat.strongRecOn with
  | ind n ih =>
    intro x hx
    by_cases h : 2 ≤ n
    · obtain ⟨h1, h2, _⟩ := minFac_spec h
      have hlt := strip_lt h1 (by omega) (Nat.mod_eq_zero_of_dvd h2)
      obtain ⟨e1, e2, e3⟩ := strip_spec (minFac n) h1 n (by omega)
      rw [fac_cons h] at hx
      rcases List.mem_cons.1 hx with rfl | hx
      · exact ⟨_, e1⟩
      · exact Nat.dvd_trans (ih _ hlt x hx) (strip_dvd h1 (by omega))
    · rw [fac_small (by omega)] at hx; cases hx
theorem fac_ex (n : Nat) : ∀ x, x ∈ fac n → x.2 ≤ n := by
  induction n using Nat.strongRecOn with
  | ind n ih =>
    intro x hx
    by_cases h : 2 ≤ n
    · obtain ⟨h1, h2, _⟩ := minFac_spec h
      have hlt := strip_lt h1 (by omega) (Nat.mod_eq_zero_of_dvd h2)
      rw [fac_cons h] at hx
      rcases List.mem_cons.1 hx with rfl | hx
      · obtain ⟨e1, e2, e3⟩ := strip_spec (minFac n) h1 n (by omega)
        have h3 : vp (minFac n) n < minFac n ^ vp (minFac n) n := Nat.lt_pow_self (by omega)
        have h4 : minFac n ^ vp (minFac n) n ≤ n := Nat.le_of_dvd (by omega) ⟨_, e1⟩
        show vp (minFac n) n ≤ n
        omega
      · have := ih _ hlt x hx; omega
    · rw [fac_small (by omega)] at hx; cases hx
theorem farB_nat {n : Nat} (h : n ≤ 1048576) : farB (n : Int) = false := farB_false (by omega)
theorem pp_step {p j : Nat} (h1 : 1 ≤ j) : (p - 1) * p ^ (j - 1) * p = (p - 1) * p ^ (j + 1 - 1) := by
  obtain ⟨i, rfl⟩ : ∃ i, j = i + 1 := ⟨j - 1, by omega⟩
  show (p - 1) * p ^ i * p = (p - 1) * p ^ (i + 1)
  rw [Nat.pow_succ, Nat.mul_assoc]
end Lw
set_option linter.unusedVariables false
set_option linter.unusedSimpArgs false
namespace Go.Proofs.Ytfocpbknckmmaaa
open Go.RowKit
end Go.Proofs.Ytfocpbknckmmaaa
namespace Lw
open Go Go.RowKit Go.Maps
def prI (p : Int) : Int := if p < 1 ∨ 1048576 < p then 2 else if primeB p then 0 else 3
theorem pr_far {p : Int} (h : p < 1 ∨ 1048576 < p) : prI p = 2 := if_pos h
theorem pr_arg {p : Int} (h : ¬ (p < 1 ∨ 1048576 < p)) (h2 : primeB p = false) : prI p = 3 := by unfold prI; rw [if_neg h, h2]; rfl
theorem pr_ok {p : Int} (h : ¬ (p < 1 ∨ 1048576 < p)) (h2 : primeB p = true) : prI p = 0 := by unfold prI; rw [if_neg h, h2]; rfl
theorem both_far {a b : Int} (h : a < -2147483648 ∨ 2147483648 < a ∨ b < -2147483648 ∨ 2147483648 < b) (x : Int) : firstI (bothI a b) x = 2 := by unfold firstI bothI farB; simp; omega
theorem both_in {a b : Int} (h : ¬ (a < -2147483648 ∨ 2147483648 < a ∨ b < -2147483648 ∨ 2147483648 < b)) (x : Int) : firstI (bothI a b) x = x := by
  have : bothI a b = 0 := by unfold bothI farB; simp; omega
  rw [this, firstI_zero]
theorem two_ints (w : World) (x y : Int) : ∀ u ∈ [Value.int .i64 x, Value.int .i64 y], u.oneCell' = true := by intro u hu; simp at hu; rcases hu with rfl | rfl <;> rfl
def LgRes (r : Int) : Value := if r < 0 then .tuple #[.int .i64 0, .int .i64 5] else .tuple #[.int .i64 r, .int .i64 0]
theorem prod_bd {a b p : Int} (ha : 0 ≤ a) (ha' : a < p) (hb : 0 ≤ b) (hb' : b < p) (hp : p ≤ 1048576) : 0 ≤ a * b ∧ a * b ≤ 1099511627776 := by
  obtain ⟨h1, h2⟩ := mul_bd' a b 1048576 ha (by omega) hb (by omega)
  exact ⟨h1, by omega⟩
theorem wf64 {n : Int} (h : 0 ≤ n) (h2 : n ≤ 4611686018427387904) : (Lit.int .i64 n).wf = true := by
  have := wrap64_wf n
  rwa [IntWalk.wrap64_in n (by omega)] at this
theorem lgX_bd {p : Int} (hp : 0 < p) (g a : Int) (j : Nat) : 0 ≤ lgX g a p j ∧ lgX g a p j < p := emod_bd _ _ hp
theorem lgY_bd {p : Int} (hp : 0 < p) (g : Int) (s i : Nat) : 0 ≤ lgY g p s i ∧ lgY g p s i < p := emod_bd _ _ hp
theorem sq_small {k p : Nat} (hp : p ≤ 1048576) (h : (k : Int) * (k : Int) < (p : Int)) : k < 1024 := by
  rcases Nat.lt_or_ge k 1024 with h1 | h1
  · exact h1
  · have h2 := Nat.mul_le_mul h1 h1
    have h3 : ((k * k : Nat) : Int) = (k : Int) * (k : Int) := Int.natCast_mul _ _
    omega
theorem sq_bd {k : Nat} (hk : k ≤ 1024) : 0 ≤ (k : Int) * (k : Int) ∧ (k : Int) * (k : Int) ≤ 1048576 := by
  have h2 := Nat.mul_le_mul hk hk
  have h3 : ((k * k : Nat) : Int) = (k : Int) * (k : Int) := Int.natCast_mul _ _
  omega
theorem sq_big {k p : Nat} (h : ¬ (k : Int) * (k : Int) < (p : Int)) : p ≤ k * k := by
  have h3 : ((k * k : Nat) : Int) = (k : Int) * (k : Int) := Int.natCast_mul _ _
  omega
end Lw
set_option linter.unusedVariables false
set_option linter.unusedSimpArgs false
namespace Go.Proofs.Ytfocpbknckmmaaa
open Go.RowKit
open Go.Maps
end Go.Proofs.Ytfocpbknckmmaaa
namespace Lw
def One (a m : Int) (k : Nat) : Prop := pw a (k : Int) m = 1 % m
instance (a m : Int) (k : Nat) : Decidable (One a m k) := inferInstanceAs (Decidable (_ = _))
theorem One.mul {a m : Int} {k : Nat} (h : One a m k) (q : Nat) : One a m (k * q) := by
  unfold One at *
  rw [Int.natCast_mul, ← pw_pw a _ _ m (by omega) (by omega), h, pw_emod, one_pw]
theorem One.rest {a m : Int} (hm : 0 < m) {k q : Nat} (h : One a m (q + k)) (hq : One a m q) : One a m k := by
  unfold One at *
  rw [Int.natCast_add, pw_add a _ _ m (by omega) (by omega), hq, Int.mul_emod, Int.emod_emod, ← Int.mul_emod, Int.one_mul, pw_self_emod _ _ _ hm] at h
  exact h
def ordI (a m : Int) : Int := ((((List.range m.toNat).find? (fun i => decide (One a m (i + 1)))).map (· + 1)).getD 0 : Nat)
theorem ordI_eq {a m : Int} {k : Nat} (h1 : 1 ≤ k) (h2 : (k : Int) ≤ m) (h : One a m k) (hl : ∀ j, 1 ≤ j → j < k → ¬ One a m j) : ordI a m = (k : Int) := by
  unfold ordI
  have : (List.range m.toNat).find? (fun i => decide (One a m (i + 1))) = some (k - 1) := by
    rw [List.find?_range_eq_some]
    refine ⟨?_, ?_, ?_⟩
    · rw [Nat.sub_add_cancel h1]; exact decide_eq_true h
    · rw [List.mem_range]; omega
    · intro j hj
      have := hl (j + 1) (by omega) (by omega)
      simp [this]
  rw [this]
  show (((k - 1 + 1 : Nat)) : Int) = _
  rw [Nat.sub_add_cancel h1]
theorem ordI_none {a m : Int} (hl : ∀ j : Nat, 1 ≤ j → (j : Int) ≤ m → ¬ One a m j) : ordI a m = 0 := by
  unfold ordI
  have : (List.range m.toNat).find? (fun i => decide (One a m (i + 1))) = none := by
    rw [List.find?_eq_none]
    intro i hi
    rw [List.mem_range] at hi
    have := hl (i + 1) (by omega) (by omega)
    simpa using this
  rw [this]; rfl
theorem quiet2 {P : Go.Program} {f : Go.FuncId} {args : Array Go.Value} {w : Go.World} {d n : Nat} {v : Go.Value} (h : Go.Calls P f args (w.drewN (d + n)) fun e w' => e = .returned v ∧ w.drewN (d + n) = w') : Go.Calls P f args (w.drewN (d + n)) fun e w'' => e = .returned v ∧ ∃ m, w'' = w.drewN (d + m) :=
  h.mono fun _ _ ⟨he, hm⟩ => ⟨he, n, hm.symm⟩
def Done (a m : Int) (q k : Nat) : Prop := ¬ (k % q = 0 ∧ One a m (k / q))
def OrdSt (a m : Int) (lam : Nat) (l : List (Nat × Nat)) (k : Nat) : Prop := One a m k ∧ 1 ≤ k ∧ k ∣ lam ∧ ∀ x, x ∈ l → Done a m x.1 k
theorem OrdSt.step {a m : Int} {lam k p : Nat} {l : List (Nat × Nat)} (h : OrdSt a m lam l k) (hp : 2 ≤ p) (h1 : k % p = 0) (h2 : One a m (k / p)) : OrdSt a m lam l (k / p) := by
  have e : p * (k / p) = k := Nat.mul_div_cancel' (Nat.dvd_of_mod_eq_zero h1)
  refine ⟨h2, ?_, ?_, fun x hx hd => h.2.2.2 x hx ?_⟩
  · exact Nat.div_pos (Nat.le_of_dvd h.2.1 (Nat.dvd_of_mod_eq_zero h1)) (by omega)
  · exact Nat.dvd_trans ⟨p, by rw [Nat.mul_comm]; exact e.symm⟩ h.2.2.1
  · obtain ⟨g1, g2⟩ := hd
    obtain ⟨c, hc⟩ := Nat.dvd_of_mod_eq_zero g1
    by_cases hx0 : x.1 = 0
    · rw [hx0] at hc
      have : k / p = 0 := by omega
      rw [this] at e
      have := h.2.1; omega
    · rw [hc, Nat.mul_div_cancel_left _ (by omega)] at g2
      have e2 : k = x.1 * (p * c) := by rw [← e, hc, Nat.mul_left_comm]
      refine ⟨by rw [e2]; exact Nat.mul_mod_right _ _, ?_⟩
      rw [e2, Nat.mul_div_cancel_left _ (by omega), Nat.mul_comm]
      exact g2.mul p
theorem OrdSt.take {a m : Int} {lam k : Nat} {l : List (Nat × Nat)} {x : Nat × Nat} (h : OrdSt a m lam l k) (hd : Done a m x.1 k) : OrdSt a m lam (l ++ [x]) k :=
  ⟨h.1, h.2.1, h.2.2.1, fun y hy => by
    rcases List.mem_append.1 hy with hy | hy
    · exact h.2.2.2 y hy
    · rcases List.mem_cons.1 hy with rfl | hy
      · exact hd
      · cases hy⟩
theorem OrdSt.least {a m : Int} {lam k : Nat} (hm : 0 < m) (hl : 0 < lam) (h : OrdSt a m lam (fac lam) k) : ∀ j, 1 ≤ j → j < k → ¬ One a m j := by
  intro j
  induction j using Nat.strongRecOn with
  | ind j ih =>
    intro j1 j2 hj
    have hr : k % j = 0 := by
      by_cases hr : k % j = 0
      · exact hr
      · exfalso
        refine ih (k % j) (Nat.mod_lt _ (by omega)) (by omega) (by have := Nat.mod_lt k (by omega : 0 < j); omega) ?_
        have e := Nat.div_add_mod k j
        have h1 := h.1
        rw [← e] at h1
        exact h1.rest hm (hj.mul _)
    obtain ⟨c, hc⟩ := Nat.dvd_of_mod_eq_zero hr
    have c2 : 2 ≤ c := by
      have : c ≠ 0 := by intro e; subst e; omega
      have : c ≠ 1 := by intro e; subst e; omega
      omega
    obtain ⟨m1, ⟨d, hd⟩, _⟩ := minFac_spec c2
    have hq := minFac_prime c2
    have hqk : minFac c ∣ k := ⟨j * d, by rw [hc, hd, Nat.mul_left_comm]; rw [← hd]⟩
    obtain ⟨v, hv⟩ := mem_fac hq lam hl (Nat.dvd_trans hqk h.2.2.1)
    refine h.2.2.2 _ hv ⟨Nat.mod_eq_zero_of_dvd hqk, ?_⟩
    have e3 : k = minFac c * (j * d) := by rw [hc]; conv => lhs; rw [hd]
                                           rw [Nat.mul_left_comm]
    rw [show (minFac c, v).1 = minFac c from rfl]
    rw [e3, Nat.mul_div_cancel_left _ (by omega)]
    exact hj.mul d
theorem one_lam {a : Int} {m : Nat} (hm : 0 < m) (hg : gcdI a (m : Int) = 1) : One a (m : Int) (lamI m) := by
  have h0 := Int.emod_nonneg a (by omega : (m : Int) ≠ 0)
  obtain ⟨b, hb⟩ := Int.eq_ofNat_of_zero_le h0
  have hb' : a % (m : Int) = (b : Int) := hb
  have hgb : Nat.gcd b m = 1 := by
    have := gcdI_emod a (m : Int)
    rw [hg, hb'] at this
    unfold gcdI at this
    rw [Int.gcd, Int.natAbs_natCast, Int.natAbs_natCast] at this
    exact Int.ofNat.inj this
  have := carmichael hm hgb
  unfold One
  rw [← pw_emod, hb']
  unfold pw
  rw [Int.toNat_natCast]
  exact emod_of_dvd_sub this
theorem no_one {a : Int} {m : Nat} (hm : 0 < m) (hg : ¬ gcdI a (m : Int) = 1) : ∀ j : Nat, 1 ≤ j → ¬ One a (m : Int) j := by
  intro j hj h
  unfold One pw at h
  rw [Int.toNat_natCast] at h
  have h1 : (m : Int) ∣ a ^ j - 1 := Int.dvd_of_emod_eq_zero (by rw [Int.sub_emod, h]; simp)
  have d1 : gcdI a (m : Int) ∣ a ^ j - 1 := Int.dvd_trans (gcdI_dvd_right _ _) h1
  have d2 : gcdI a (m : Int) ∣ a ^ j := by
    obtain ⟨i, rfl⟩ : ∃ i, j = i + 1 := ⟨j - 1, by omega⟩
    rw [Int.pow_succ]; exact Int.dvd_mul_of_dvd_right (gcdI_dvd_left _ _)
  have d3 := Int.dvd_sub d2 d1
  rw [show a ^ j - (a ^ j - 1) = 1 by omega] at d3
  have := Int.le_of_dvd (by omega) d3
  have := gcdI_pos (a := a) (b := (m : Int)) (.inr (by omega))
  omega
end Lw
set_option linter.unusedVariables false
set_option linter.unusedSimpArgs false
namespace Go.Proofs.Ytfocpbknckmmaaa
open Go.RowKit
end Go.Proofs.Ytfocpbknckmmaaa
namespace Lw
/-- the order of a modulo m is k -/
def Ords (a m : Int) (k : Nat) : Prop := ∀ j : Nat, One a m j ↔ k ∣ j
theorem one_zero (a m : Int) : One a m 0 := by unfold One; rw [show ((0 : Nat) : Int) = 0 from rfl, pw_zero]
theorem one_left {a b m : Int} (hm : 0 < m) {n : Nat} (h : One (a * b) m n) (hb : One b m n) : One a m n := by
  unfold One at *
  rw [pw_mul, hb, Int.mul_emod, Int.emod_emod, ← Int.mul_emod, Int.mul_one, pw_self_emod _ _ _ hm] at h
  exact h
theorem one_both {a b m : Int} (hm : 0 < m) {n : Nat} (ha : One a m n) (hb : One b m n) : One (a * b) m n := by
  unfold One at *
  rw [pw_mul, ha, hb, ← Int.mul_emod, Int.one_mul]
theorem Ords.mul {a b m : Int} {k l : Nat} (hm : 0 < m) (ha : Ords a m k) (hb : Ords b m l) (hkl : Nat.Coprime k l) : Ords (a * b) m (k * l) := by
  intro j
  constructor
  · intro h
    have h1 : k ∣ j * l := (ha _).1 (one_left hm (h.mul l) ((hb _).2 (Nat.dvd_mul_left l j)))
    have h2 : l ∣ j * k := (hb _).1 (one_left hm (by rw [Int.mul_comm]; exact h.mul k) ((ha _).2 (Nat.dvd_mul_left k j)))
    exact Nat.Coprime.mul_dvd_of_dvd_of_dvd hkl (hkl.dvd_of_dvd_mul_right h1) (hkl.symm.dvd_of_dvd_mul_right h2)
  · intro h
    exact one_both hm ((ha _).2 (Nat.dvd_trans (Nat.dvd_mul_right k l) h)) ((hb _).2 (Nat.dvd_trans (Nat.dvd_mul_left l k) h))
theorem dvd_pp {q : Nat} (hq : Prime q) : ∀ (e : Nat) {d : Nat}, d ∣ q ^ e → ∃ i, i ≤ e ∧ d = q ^ i
  | 0, d, h => ⟨0, Nat.le_refl _, by rw [Nat.pow_zero] at h ⊢; exact Nat.dvd_one.1 h⟩
  | e + 1, d, h => by
    have hq2 := hq.1
    by_cases hd : q ∣ d
    · obtain ⟨c, rfl⟩ := hd
      have hc : c ∣ q ^ e := by
        rw [Nat.pow_succ, Nat.mul_comm (q ^ e)] at h
        exact Nat.dvd_of_mul_dvd_mul_left (by omega) h
      obtain ⟨i, i1, rfl⟩ := dvd_pp hq e hc
      exact ⟨i + 1, by omega, by rw [Nat.pow_succ, Nat.mul_comm]⟩
    · have hc : Nat.Coprime d q := by have := hq.coprime hd; rw [Nat.gcd_comm] at this; exact this
      rw [Nat.pow_succ] at h
      obtain ⟨i, i1, i2⟩ := dvd_pp hq e (hc.dvd_of_dvd_mul_right h)
      exact ⟨i, by omega, i2⟩
/-- a power of a prime as an order -/
theorem one_gcd {a m : Int} (hm : 0 < m) : ∀ (j k : Nat), One a m j → One a m k → One a m (Nat.gcd j k) := by
  intro j
  induction j using Nat.strongRecOn with
  | ind j ih =>
    intro k hj hk
    by_cases h0 : j = 0
    · subst h0; rw [Nat.gcd_zero_left]; exact hk
    · rw [Nat.gcd_rec]
      refine ih (k % j) (Nat.mod_lt _ (by omega)) j ?_ hj
      have e := Nat.div_add_mod k j
      rw [← e] at hk
      exact hk.rest hm (hj.mul _)
theorem ords_pp {a m : Int} (hm : 0 < m) {q e : Nat} (hq : Prime q) (h1 : One a m (q ^ (e + 1))) (h2 : ¬ One a m (q ^ e)) : Ords a m (q ^ (e + 1)) := by
  intro j
  constructor
  · intro h
    have hg := one_gcd hm _ _ h h1
    obtain ⟨i, i1, i2⟩ := dvd_pp hq (e + 1) (Nat.gcd_dvd_right j (q ^ (e + 1)))
    by_cases hi : i = e + 1
    · rw [hi] at i2; rw [← i2]; exact Nat.gcd_dvd_left _ _
    · exfalso
      refine h2 ?_
      rw [i2] at hg
      have := hg.mul (q ^ (e - i))
      rwa [← Nat.pow_add, show i + (e - i) = e by omega] at this
  · rintro ⟨c, rfl⟩
    exact h1.mul c
theorem one_dvd {x : Int} {p : Nat} (n : Nat) : One x (p : Int) n ↔ (p : Int) ∣ x ^ n - 1 := by
  unfold One pw
  rw [Int.toNat_natCast]
  constructor
  · intro h; exact Int.dvd_of_emod_eq_zero (by rw [Int.sub_emod, h]; simp)
  · intro h; exact emod_of_dvd_sub h
theorem one_pow {x m : Int} (i j : Nat) : One (x ^ i) m j ↔ One x m (i * j) := by
  unfold One pw
  rw [Int.toNat_natCast, Int.toNat_natCast, ← Int.pow_mul]
/-- some number is no root of x^n = 1 -/
theorem ex_not {p : Nat} (hp : Prime p) {n : Nat} (hn : 0 < n) (hl : n < p - 1) : ∃ x : Nat, 1 ≤ x ∧ x < p ∧ ¬ One (x : Int) (p : Int) n := by
  refine Classical.byContradiction fun h => ?_
  refine pow_roots hp n hn ((List.range (p - 1)).map fun i => ((i : Nat) : Int) + 1) (by simp; omega) ?_ ?_
  · rw [List.pairwise_map]
    refine List.Pairwise.imp_of_mem ?_ (List.pairwise_lt_range)
    intro a b ha hb hab hd
    rw [List.mem_range] at ha hb
    have := Int.le_of_dvd (by omega) hd
    omega
  · intro r hr
    rw [List.mem_map] at hr
    obtain ⟨i, hi, rfl⟩ := hr
    rw [List.mem_range] at hi
    refine Classical.byContradiction fun hne => h ⟨i + 1, by omega, by omega, fun ho => hne ?_⟩
    have := (one_dvd n).1 ho
    rwa [Int.natCast_add] at this
theorem ex_pp {p q e : Nat} (hp : Prime p) (hq : Prime q) (hd : q ^ (e + 1) ∣ p - 1) : ∃ y : Int, Ords y (p : Int) (q ^ (e + 1)) := by
  have hp2 := hp.1
  have hq2 := hq.1
  obtain ⟨c, hc⟩ := hd
  have hc0 : 0 < c := by
    by_cases h : c = 0
    · subst h; omega
    · omega
  have hqe : 0 < q ^ e := Nat.pow_pos (by omega)
  have hn : p - 1 = q * (c * q ^ e) := by rw [hc, Nat.pow_succ]; rw [Nat.mul_comm (q ^ e) q, Nat.mul_assoc, Nat.mul_comm (q ^ e) c]
  have hce : 0 < c * q ^ e := Nat.mul_pos hc0 hqe
  obtain ⟨x, x1, x2, x3⟩ := ex_not hp hce (by rw [hn]; exact (Nat.lt_mul_iff_one_lt_left hce).2 (by omega))
  refine ⟨(x : Int) ^ c, ords_pp (by omega) hq ?_ ?_⟩
  · rw [one_pow, Nat.mul_comm, ← hc, one_dvd]
    exact fermat hp (fun e => by have := Nat.le_of_dvd (by omega) e; omega)
  · rw [one_pow]; exact x3
/-- every divisor of p - 1 is an order -/
theorem ex_ord {p : Nat} (hp : Prime p) : ∀ n : Nat, 1 ≤ n → n ∣ p - 1 → ∃ g : Int, Ords g (p : Int) n := by
  have hp2 := hp.1
  intro n
  induction n using Nat.strongRecOn with
  | ind n ih =>
    intro h1 hd
    by_cases hn : n = 1
    · subst hn
      refine ⟨1, fun j => ⟨fun _ => Nat.one_dvd j, fun _ => ?_⟩⟩
      unfold One; rw [one_pw]
    · have h2 : 2 ≤ n := by omega
      have hq := minFac_prime h2
      have hq2 := hq.1
      have hqn : n % minFac n = 0 := Nat.mod_eq_zero_of_dvd (minFac_spec h2).2.1
      obtain ⟨s1, s2, s3⟩ := strip_spec (minFac n) hq2 n (by omega)
      have hv := vp_pos hq2 (by omega) hqn
      obtain ⟨e, he⟩ : ∃ e, vp (minFac n) n = e + 1 := ⟨vp (minFac n) n - 1, by omega⟩
      rw [he] at s1
      obtain ⟨h, hh⟩ := ih (strip (minFac n) n) (strip_lt hq2 (by omega) hqn) s2 (Nat.dvd_trans (strip_dvd hq2 (by omega)) hd)
      obtain ⟨y, hy⟩ := ex_pp hp hq (Nat.dvd_trans ⟨_, s1⟩ hd)
      have hcop : Nat.Coprime (minFac n ^ (e + 1)) (strip (minFac n) n) :=
        Nat.Coprime.pow_left _ (hq.coprime (fun hx => s3 (Nat.mod_eq_zero_of_dvd hx)))
      have := Ords.mul (by omega) hy hh hcop
      rw [← s1] at this
      exact ⟨_, this⟩
/-- a primitive root -/
theorem prim_root {p : Nat} (hp : Prime p) : ∃ g : Nat, 1 ≤ g ∧ g < p ∧ Ords (g : Int) (p : Int) (p - 1) := by
  have hp2 := hp.1
  obtain ⟨g, hg⟩ := ex_ord hp (p - 1) (by omega) (Nat.dvd_refl _)
  obtain ⟨b1, b2⟩ := emod_bd g (p : Int) (by omega)
  obtain ⟨k, hk⟩ := Int.eq_ofNat_of_zero_le b1
  have hk' : g % (p : Int) = (k : Int) := hk
  have H : Ords (k : Int) (p : Int) (p - 1) := by
    intro j
    rw [← hg j]
    unfold One
    rw [← pw_emod g, hk']
  refine ⟨k, ?_, by omega, H⟩
  by_cases h0 : k = 0
  · exfalso
    subst h0
    have := (H (p - 1)).2 (Nat.dvd_refl _)
    rw [one_dvd] at this
    rw [show ((0 : Nat) : Int) = 0 from rfl, Int.zero_pow (by omega)] at this
    have h3 : (p : Int) ∣ 1 := by have := Int.dvd_neg.2 this; simpa using this
    have := Int.le_of_dvd (by omega) h3
    omega
  · omega
end Lw
namespace Lw
open Go Go.RowKit
/-- what is wrong with a modulus -/
def pprE (p : Int) : Int := if p < 2 ∨ 251 < p then 2 else if primeB p = true then 0 else 3
/-- does a list end in 0? -/
def endZ (zs : List Int) : Bool := zs.getLast? == some 0
/-- what is wrong with a polynomial -/
def polyE (p : Int) (zs : List Int) : Int := if pprE p ≠ 0 then pprE p else if 13 < zs.length then 1 else if (outR p zs || endZ zs) = true then 4 else 0
theorem ppr_bad {p : Int} (h : p < 2 ∨ 251 < p) : pprE p = 2 := if_pos h
theorem ppr_in {p : Int} (h : 2 ≤ p) (h' : p ≤ 251) : pprE p = if primeB p = true then 0 else 3 := by unfold pprE; rw [if_neg (by omega)]
theorem ppr_ok {p : Int} (h : pprE p = 0) : 2 ≤ p ∧ p ≤ 251 ∧ primeB p = true := by
  unfold pprE at h
  by_cases h1 : p < 2 ∨ 251 < p
  · rw [if_pos h1] at h; omega
  · rw [if_neg h1] at h
    by_cases h2 : primeB p = true
    · exact ⟨by omega, by omega, h2⟩
    · rw [if_neg h2] at h; omega
theorem poly_p {p : Int} {zs : List Int} (h : ¬ pprE p = 0) : polyE p zs = pprE p := if_pos h
theorem poly_len {p : Int} {zs : List Int} (h : pprE p = 0) (h1 : 13 < zs.length) : polyE p zs = 1 := by unfold polyE; rw [if_neg (by simp [h]), if_pos h1]
theorem poly_in {p : Int} {zs : List Int} (h : pprE p = 0) (h1 : ¬ 13 < zs.length) : polyE p zs = if (outR p zs || endZ zs) = true then 4 else 0 := by unfold polyE; rw [if_neg (by simp [h]), if_neg h1]
theorem endZ_nil : endZ [] = false := rfl
theorem endZ_last {zs : List Int} {k : Nat} (h : zs.length = k + 1) : ∃ (hl : k < zs.length), endZ zs = (zs[k] == 0) := by
  refine ⟨by omega, ?_⟩
  unfold endZ
  have e : zs.length - 1 = k := by omega
  have hk : k < zs.length := by omega
  rw [List.getLast?_eq_getElem?, e, List.getElem?_eq_getElem hk]
  rfl
end Lw
set_option linter.unusedVariables false
set_option linter.unusedSimpArgs false
namespace Go.Proofs.Ytfocpbknckmmaaa
open Go.RowKit
theorem poly_prime (p : Int) (w : World) :
    Calls Try.prog 59 #[.int .i64 p] w fun e w' => e = .returned (.int .i64 (Lw.pprE p)) ∧ Below w.heap.size w w' := by
  by_cases h : p < 2 ∨ 251 < p
  · have E := Lib.hid (Lw.ppr_bad h)
    rcases (show p < 2 ∨ (2 ≤ p ∧ 251 < p) by omega) with h | ⟨h, h2⟩
    all_goals
      go_enter Try.func59, Try.ntmps59
      go_wp2
      go_ret
      exact ⟨Lw.ret_int E.out.symm, by (repeat (first | exact Below.refl _ _ | refine Lw.bt ?_ (by assumption) | refine Lw.balloc ?_ _ | refine Lw.bdrewN ?_ _ | refine Below.drew ?_ | refine Lw.bset ?_ (by first | (simp; done) | (simp; omega) | omega) _))⟩
  · have X := fun w => primes_Is p w (by omega) (by omega)
    have E := Lw.ppr_in (p := p) (by omega) (by omega)
    rcases hp : Lw.primeB p with _ | _
    all_goals
      rw [hp] at X E
      replace E := Lib.hid E
      replace X := Lib.hid X
      clear hp
      have h1 : 2 ≤ p := by omega
      have h2 : p ≤ 251 := by omega
      clear h
      go_enter Try.func59, Try.ntmps59
      go_wp2_with (go_at_call 28; (with_reducible refine (X.out _).mono ?_); rintro e w1 ⟨rfl, hb1⟩)
      go_ret
      exact ⟨Lw.ret_int E.out.symm, by (repeat (first | exact Below.refl _ _ | refine Lw.bt ?_ (by assumption) | refine Lw.balloc ?_ _ | refine Lw.bdrewN ?_ _ | refine Below.drew ?_ | refine Lw.bset ?_ (by first | (simp; done) | (simp; omega) | omega) _))⟩
theorem ref_PrimeCheck (p : Int) (w : World) :
    Calls Try.prog 23 #[.int .i64 p] w fun e w' => e = .returned (.int .i64 (Lw.pprE p)) ∧ w = w' := by
  by_cases h : p < 2 ∨ 251 < p
  · have E := Lib.hid (Lw.ppr_bad h)
    rcases (show p < 2 ∨ (2 ≤ p ∧ 251 < p) by omega) with h | ⟨h, h2⟩
    all_goals
      go_enter Try.func23, Try.ntmps23
      go_wp2
      go_ret
      exact ⟨Lw.ret_int E.out.symm, rfl⟩
  · have X := fun w => ref_Is p w (by omega)
    have E := Lw.ppr_in (p := p) (by omega) (by omega)
    rcases hp : Lw.primeB p with _ | _
    all_goals
      rw [hp] at X E
      replace E := Lib.hid E
      replace X := Lib.hid X
      clear hp
      have h1 : 2 ≤ p := by omega
      have h2 : p ≤ 251 := by omega
      clear h
      go_enter Try.func23, Try.ntmps23
      go_wp2_with (go_at_call 12; (with_reducible refine (X.out _).mono ?_); rintro e w1 ⟨rfl, rfl⟩)
      go_ret
      exact ⟨Lw.ret_int E.out.symm, rfl⟩
set_option maxHeartbeats 1000000 in
theorem idx_ply (A : Option Addr) (n c b : Nat) (p : Int) (zs : List Int) (w : World) (R : Lw.Rd w 1 A n (Lw.intsV .i64 zs)) (hn : n ≤ 1048576) (hb : w.cell? ⟨b, 0, none⟩ = some (.int .i64 p)) :
    Calls Try.prog 62 #[.slice A n c, .func (.func 60) #[] #[.pointer (some ⟨b, 0, none⟩)]] w (Lw.IdxT (Lw.outR p zs) w) := by
  have R := Lib.hid R
  have l1 : zs.length = n := by have := R.out.1; simpa [Lw.intsV] using this
  have L := Lib.hid l1
  clear l1
  go_enter Try.func62, Try.ntmps62
  go_wp2
  go_loop [5, 8] (fun x i => ∃ k : Nat, i = .int .i64 (k : Int) ∧ k ≤ n ∧ Hid (Lw.outR p (zs.take k) = false)) (fun _ i => n - (intOf i).toNat)
  case atStart => exact ⟨0, rfl, by omega, rfl⟩
  case round =>
    obtain ⟨k, rfl, k1, T⟩ := hrel
    by_cases hlt : k < n
    · have hl : k < zs.length := by rw [L.out]; exact hlt
      obtain ⟨ad, rfl, had, hcell⟩ := R.out.at1 hlt (Lw.intsV_get hl)
      have N := Lib.hid (Lw.any_take (p := fun x => decide (x < 0) || decide (p ≤ x)) hl T.out)
      have D := Lib.hid (Lw.any_at (p := fun x : Int => decide (x < 0) || decide (p ≤ x)) hl)
      obtain ⟨x, hx⟩ : ∃ x, zs[k] = x := ⟨_, rfl⟩
      rw [hx] at hcell N D
      clear hx
      rcases (show x < 0 ∨ (0 ≤ x ∧ p ≤ x) ∨ (0 ≤ x ∧ x < p) by omega) with h0 | ⟨h0, h1⟩ | ⟨h0, h1⟩
      · have D1 : Hid (Lw.outR p zs = true) := D.out (by simp [h0])
        clear N D
        go_wp2
        go_ret
        exact ⟨_, rfl, rfl, .inr ⟨D1.out, by omega⟩⟩
      · have D1 : Hid (Lw.outR p zs = true) := D.out (by simp [h1])
        clear N D
        go_wp2
        go_ret
        exact ⟨_, rfl, rfl, .inr ⟨D1.out, by omega⟩⟩
      · have N1 : Hid (Lw.outR p (zs.take (k + 1)) = false) := N.out (by simp; omega)
        clear N D
        go_wp2
        go_round
        case rel => exact ⟨k + 1, by go_num, by omega, N1⟩
        case measure => simp [intOf]; omega
    · have hk : zs.take k = zs := List.take_of_length_le (by rw [L.out]; omega)
      have E : Hid (Lw.outR p zs = false) := by have := T.out; rwa [hk] at this
      clear hk
      go_wp2
      go_ret
      exact ⟨_, rfl, rfl, .inl ⟨E.out, rfl⟩⟩
theorem con_ply (A : Option Addr) (n c b : Nat) (p : Int) (zs : List Int) (w : World) (R : Lw.Rd w 1 A n (Lw.intsV .i64 zs)) (hn : n ≤ 1048576) (hb : w.cell? ⟨b, 0, none⟩ = some (.int .i64 p)) :
    Calls Try.prog 39 #[.slice A n c, .func (.func 60) #[] #[.pointer (some ⟨b, 0, none⟩)]] w fun e w' => e = .returned (.bool (Lw.outR p zs)) ∧ w = w' := by
  have X := Lib.hid (idx_ply A n c b p zs w R hn hb)
  clear R hb
  go_enter Try.func39, Try.ntmps39
  go_wp2_with (go_at_call 62; (with_reducible refine (X.out).mono ?_); rintro e w1 ⟨r, rfl, rfl, hr⟩)
  go_ret
  exact ⟨Lw.ret_bool (Lw.IdxT.ge hr), rfl⟩
set_option maxHeartbeats 2000000 in
theorem poly_Check (p : Int) (A : Option Addr) (n c : Nat) (zs : List Int) (w : World) (R : Lw.Rd w 1 A n (Lw.intsV .i64 zs)) :
    Calls Try.prog 37 #[.int .i64 p, .slice A n c] w fun e w' => e = .returned (.int .i64 (Lw.polyE p zs)) ∧ Below w.heap.size w w' := by
  have P := fun w => poly_prime p w
  have l1 : zs.length = n := by have := R.1; simpa [Lw.intsV] using this
  have B0 := Lib.hid (Lw.blk_new w #[.int .i64 p] 2)
  by_cases hp : Lw.pprE p = 0
  · rw [hp] at P
    replace P := Lib.hid P
    by_cases hl : 13 < zs.length
    · have E := Lib.hid (Lw.poly_len hp hl)
      have hl1 : (13 : Int) < (n : Int) := by omega
      clear hp hl
      go_enter Try.func37, Try.ntmps37
      go_wp2_with (go_at_call 59; (with_reducible refine (P.out _).mono ?_); rintro e w1 ⟨rfl, hb1⟩)
      go_ret
      exact ⟨Lw.ret_int E.out.symm, by (repeat (first | exact Below.refl _ _ | refine Lw.bt ?_ (by assumption) | refine Lw.balloc ?_ _ | refine Lw.bdrewN ?_ _ | refine Below.drew ?_ | refine Lw.bset ?_ (by first | (simp; done) | (simp; omega) | omega) _))⟩
    · have E := Lw.poly_in hp hl
      have hl1 : ¬ (13 : Int) < (n : Int) := by omega
      have hn : n ≤ 13 := by omega
      have CF := Lib.hid (fun b W (h : Below w.heap.size w W) hb => con_ply A n c b p zs W (R.below (Nat.le_refl _) h) (by omega) hb)
      cases n with
      | zero =>
        have hz : zs = [] := List.eq_nil_of_length_eq_zero l1
        subst hz
        have CF1 : Lw.outR p [] = false := rfl
        rw [CF1] at CF E
        rw [Lw.endZ_nil] at E
        replace E := Lib.hid E
        clear hp hl R
        go_enter Try.func37, Try.ntmps37
        go_wp2_with fail
        refine (P.out _).mono ?_
        rintro e w1 ⟨rfl, hb1⟩
        have C0 := (hb1.block w.heap.size (by simp)).trans B0.out
        have hB1 : Below w.heap.size w w1 := by (repeat (first | exact Below.refl _ _ | refine Lw.bt ?_ (by assumption) | refine Lw.balloc ?_ _ | refine Lw.bdrewN ?_ _ | refine Below.drew ?_ | refine Lw.bset ?_ (by first | (simp; done) | (simp; omega) | omega) _))
        have q0 := Lw.blk_cell C0 0
        simp at q0
        go_wp2_with (go_at_call 39; (with_reducible refine (CF.out _ _ hB1 q0).mono ?_); rintro e w2 ⟨rfl, rfl⟩)
        go_ret
        exact ⟨Lw.ret_int E.out.symm, hB1⟩
      | succ k =>
        obtain ⟨hk, Z⟩ := Lw.endZ_last l1
        rw [Z] at E
        obtain ⟨ad, rfl, had, hcell⟩ := R.at1 (by omega : k < k + 1) (Lw.intsV_get hk)
        obtain ⟨x, hx⟩ : ∃ x, zs[k] = x := ⟨_, rfl⟩
        rw [hx] at E hcell
        obtain ⟨o, ho⟩ : ∃ o, Lw.outR p zs = o := ⟨_, rfl⟩
        rw [ho] at E CF
        obtain ⟨z, hz⟩ : ∃ z, (x == 0) = z := ⟨_, rfl⟩
        rw [hz] at E
        clear hp hl R Z hx ho
        cases o <;> cases z
        all_goals
          replace E := Lib.hid E
          go_enter Try.func37, Try.ntmps37
          go_wp2_with fail
          refine (P.out _).mono ?_
          rintro e w1 ⟨rfl, hb1⟩
          have C0 := (hb1.block w.heap.size (by simp)).trans B0.out
          have hB1 : Below w.heap.size w w1 := by (repeat (first | exact Below.refl _ _ | refine Lw.bt ?_ (by assumption) | refine Lw.balloc ?_ _ | refine Lw.bdrewN ?_ _ | refine Below.drew ?_ | refine Lw.bset ?_ (by first | (simp; done) | (simp; omega) | omega) _))
          have hcell1 := (hB1.cell (by rw [Lw.add_block]; exact had)).trans hcell
          have q0 := Lw.blk_cell C0 0
          simp at q0
          clear hcell C0
          go_wp2_with (go_at_call 39; (with_reducible refine (CF.out _ _ hB1 q0).mono ?_); rintro e w2 ⟨rfl, rfl⟩)
          go_ret
          exact ⟨Lw.ret_int E.out.symm, hB1⟩
  · have E := Lib.hid (Lw.poly_p (zs := zs) hp)
    have h1 : (Lw.pprE p == 0) = false := by simpa using hp
    obtain ⟨e0, he⟩ : ∃ e, Lw.pprE p = e := ⟨_, rfl⟩
    rw [he] at P h1 E
    replace P := Lib.hid P
    clear hp he
    go_enter Try.func37, Try.ntmps37
    go_wp2_with (go_at_call 59; (with_reducible refine (P.out _).mono ?_); rintro e w1 ⟨rfl, hb1⟩)
    go_ret
    exact ⟨Lw.ret_int E.out.symm, by (repeat (first | exact Below.refl _ _ | refine Lw.bt ?_ (by assumption) | refine Lw.balloc ?_ _ | refine Lw.bdrewN ?_ _ | refine Below.drew ?_ | refine Lw.bset ?_ (by first | (simp; done) | (simp; omega) | omega) _))⟩
end Go.Proofs.Ytfocpbknckmmaaa
namespace Lw
open Go Go.RowKit
structure GateT where
  K : Int
  A : Int
  B : Int
  N : Int
def GateT.cs (s : GateT) : List Value := [.int .i64 s.K, .int .i64 s.A, .int .i64 s.B, .int .i64 s.N]
def gatesV (l : List GateT) : List Value := l.flatMap GateT.cs
theorem gatesV_length (l : List GateT) : (gatesV l).length = l.length * 4 := by
  induction l with
  | nil => rfl
  | cons x l ih => simp only [gatesV, List.flatMap_cons, List.length_append, List.length_cons, GateT.cs, List.length_nil] at *; omega
theorem gatesV_get : ∀ {l : List GateT} {i : Nat} (h : i < l.length), (gatesV l)[i * 4 + 0]? = some (.int .i64 l[i].K) ∧ (gatesV l)[i * 4 + 1]? = some (.int .i64 l[i].A) ∧ (gatesV l)[i * 4 + 2]? = some (.int .i64 l[i].B) ∧ (gatesV l)[i * 4 + 3]? = some (.int .i64 l[i].N)
  | x :: l, 0, _ => by simp [gatesV, GateT.cs]
  | x :: l, i + 1, h => by
    have ih := gatesV_get (l := l) (i := i) (by simpa using h)
    have e : gatesV (x :: l) = x.cs ++ gatesV l := by simp [gatesV]
    have hl : x.cs.length = 4 := rfl
    rw [e, List.getElem?_append_right (by omega), List.getElem?_append_right (by omega), List.getElem?_append_right (by omega), List.getElem?_append_right (by omega), hl]
    simp only [List.getElem_cons_succ]
    rw [show (i + 1) * 4 + 0 - 4 = i * 4 + 0 from by omega, show (i + 1) * 4 + 1 - 4 = i * 4 + 1 from by omega, show (i + 1) * 4 + 2 - 4 = i * 4 + 2 from by omega, show (i + 1) * 4 + 3 - 4 = i * 4 + 3 from by omega]
    exact ih
theorem Rd.at4 {w : World} {n k : Nat} {A : Option Addr} {xs : List Value} {x y z u : Value} (h : Rd w 4 A n xs) (hk : k < n) (h0 : xs[k * 4 + 0]? = some x) (h1 : xs[k * 4 + 1]? = some y) (h2 : xs[k * 4 + 2]? = some z) (h3 : xs[k * 4 + 3]? = some u) :
    ∃ ad, A = some ad ∧ ad.block < w.heap.size ∧ w.cell? (ad.add (k * 4)) = some x ∧ w.cell? ⟨(ad.add (k * 4)).block, (ad.add (k * 4)).off + 1, none⟩ = some y ∧ w.cell? ⟨(ad.add (k * 4)).block, (ad.add (k * 4)).off + 2, none⟩ = some z ∧ w.cell? ⟨(ad.add (k * 4)).block, (ad.add (k * 4)).off + 3, none⟩ = some u := by
  obtain ⟨ad, e, hb, hc⟩ := h.at_ hk
  refine ⟨ad, e, hb, ?_, ?_, ?_, ?_⟩
  · have := hc 0 _ h0; rwa [add_zero'] at this
  · have := hc 1 _ h1; rwa [add_succ'] at this
  · have := hc 2 _ h2; rwa [add_succ'] at this
  · have := hc 3 _ h3; rwa [add_succ'] at this
/-- the code of a gate -/
def gateE (p : Int) (i m : Nat) (g : GateT) : Int :=
  if g.K = 1 then (if 0 ≤ g.A ∧ g.A < m then 0 else 3) else if g.K = 2 then (if 0 ≤ g.N ∧ g.N < p then 0 else 2) else if g.K = 3 ∨ g.K = 4 then (if (0 ≤ g.A ∧ g.A < i) ∧ 0 ≤ g.B ∧ g.B < i then 0 else 3) else 6
/-- the first code -/
def gsE (p : Int) (m : Nat) (gs : List GateT) : Nat → Int
  | 0 => 0
  | k + 1 => if gsE p m gs k = 0 then gateE p k m (gs.getD k ⟨0, 0, 0, 0⟩) else gsE p m gs k
theorem gsE_stop {p : Int} {m : Nat} {gs : List GateT} {k : Nat} (h : ¬ gsE p m gs k = 0) : ∀ d, gsE p m gs (k + d) = gsE p m gs k
  | 0 => rfl
  | d + 1 => by
    show (if gsE p m gs (k + d) = 0 then _ else gsE p m gs (k + d)) = _
    rw [gsE_stop h d, if_neg h]
theorem gsE_next {p : Int} {m : Nat} {gs : List GateT} {k : Nat} (hk : k < gs.length) (h : gsE p m gs k = 0) : gsE p m gs (k + 1) = gateE p k m gs[k] := by
  show (if gsE p m gs k = 0 then gateE p k m (gs.getD k ⟨0, 0, 0, 0⟩) else _) = _
  rw [if_pos h, List.getD_eq_getElem?_getD, List.getElem?_eq_getElem hk]; rfl
theorem gsE_bad {p : Int} {m : Nat} {gs : List GateT} {k : Nat} (hk : k < gs.length) (h : gsE p m gs k = 0) (h2 : ¬ gateE p k m gs[k] = 0) : gsE p m gs gs.length = gateE p k m gs[k] := by
  have h3 := gsE_next hk h
  obtain ⟨d, hd⟩ : ∃ d, gs.length = k + 1 + d := ⟨gs.length - (k + 1), by omega⟩
  have h4 := gsE_stop (p := p) (m := m) (gs := gs) (k := k + 1) (by rw [h3]; exact h2) d
  rw [← hd, h3] at h4
  exact h4
theorem gsE_all {p : Int} {m : Nat} {gs : List GateT} (h : gsE p m gs gs.length = 0) : ∀ k (hk : k < gs.length), gsE p m gs k = 0 ∧ gateE p k m gs[k] = 0 := by
  have h1 : ∀ k, k ≤ gs.length → gsE p m gs k = 0 := fun k hk => Classical.byContradiction fun e => by
    have := gsE_stop e (gs.length - k)
    rw [show k + (gs.length - k) = gs.length by omega, h] at this
    exact e this.symm
  intro k hk
  exact ⟨h1 k (by omega), by rw [← gsE_next hk (h1 k (by omega))]; exact h1 (k + 1) (by omega)⟩
def clrE (p : Int) (gs : List GateT) (ins : List Int) : Int := if pprE p = 0 then (if 60 < gs.length ∨ 60 < ins.length then 1 else if outR p ins = true then 2 else gsE p ins.length gs gs.length) else pprE p
/-- what a gate is worth -/
def valG (p : Int) (ins l : List Int) (g : GateT) : Int := if g.K = 1 then ins.getD g.A.toNat 0 else if g.K = 3 then (l.getD g.A.toNat 0 + l.getD g.B.toNat 0) % p else if g.K = 4 then l.getD g.A.toNat 0 * l.getD g.B.toNat 0 % p else g.N
def clrL (p : Int) (ins : List Int) (gs : List GateT) : Nat → List Int
  | 0 => []
  | k + 1 => clrL p ins gs k ++ [valG p ins (clrL p ins gs k) (gs.getD k ⟨0, 0, 0, 0⟩)]
theorem clrL_len {p : Int} {ins : List Int} {gs : List GateT} : ∀ k, (clrL p ins gs k).length = k
  | 0 => rfl
  | k + 1 => by unfold clrL; rw [List.length_append, clrL_len k]; rfl
theorem getD_bd' {p : Int} (hp : 0 < p) {a : List Int} (ha : ∀ x ∈ a, 0 ≤ x ∧ x < p) (i : Nat) : 0 ≤ a.getD i 0 ∧ a.getD i 0 < p := by
  rw [List.getD_eq_getElem?_getD]
  by_cases hi : i < a.length
  · rw [List.getElem?_eq_getElem hi]; exact ha _ (List.getElem_mem hi)
  · rw [List.getElem?_eq_none (by omega)]; exact ⟨Int.le_refl _, hp⟩
theorem clrL_bd {p : Int} (hp : 0 < p) {ins : List Int} {gs : List GateT} {m : Nat} (hi : ∀ x ∈ ins, 0 ≤ x ∧ x < p) (h : ∀ k (hk : k < gs.length), gateE p k m gs[k] = 0) : ∀ k, k ≤ gs.length → ∀ x ∈ clrL p ins gs k, 0 ≤ x ∧ x < p
  | 0, _, x, hx => by cases hx
  | k + 1, hk, x, hx => by
    unfold clrL at hx
    rcases List.mem_append.1 hx with hx | hx
    · exact clrL_bd hp hi h k (by omega) x hx
    · have hg := h k (by omega)
      simp only [List.mem_singleton] at hx
      rw [List.getD_eq_getElem?_getD, List.getElem?_eq_getElem (show k < gs.length by omega)] at hx
      rw [hx, Option.getD_some]
      unfold valG
      generalize gs[k] = g at *
      split
      · exact getD_bd' hp hi _
      · split
        · exact ⟨Int.emod_nonneg _ (by omega), Int.emod_lt_of_pos _ hp⟩
        · split
          · exact ⟨Int.emod_nonneg _ (by omega), Int.emod_lt_of_pos _ hp⟩
          · rename_i k1 k3 k4
            unfold gateE at hg
            rw [if_neg k1] at hg
            by_cases k2 : g.K = 2
            · rw [if_pos k2] at hg
              by_cases hn : 0 ≤ g.N ∧ g.N < p
              · exact hn
              · rw [if_neg hn] at hg; cases hg
            · rw [if_neg k2, if_neg (by omega)] at hg; cases hg
theorem list4 : ∀ {L : List (List Value)}, (∀ vs ∈ L, All2 [IsI .i64, IsI .i64, IsI .i64, IsI .i64] vs) → ∃ T : List GateT, L = T.map GateT.cs
  | [], _ => ⟨[], rfl⟩
  | vs :: L, h => by
    obtain ⟨T, hT⟩ := list4 (L := L) fun z hz => h z (by simp [hz])
    have h0 := h vs (by simp)
    cases h0 with | cons a h1 => cases h1 with | cons b h2 => cases h2 with | cons c h3 => cases h3 with | cons d h4 => cases h4 with | nil =>
      obtain ⟨n0, rfl, w0⟩ := a
      obtain ⟨n1, rfl, w1⟩ := b
      obtain ⟨n2, rfl, w2⟩ := c
      obtain ⟨n3, rfl, w3⟩ := d
      exact ⟨⟨n0, n1, n2, n3⟩ :: T, by simp [hT, GateT.cs]⟩
theorem IsSl.gates {w : World} {A : Option Addr} {n c : Nat} (h : IsSl w [IsI .i64, IsI .i64, IsI .i64, IsI .i64] A n c) : ∃ gs : List GateT, Rd w 4 A n (gatesV gs) := by
  obtain ⟨L, _, h2, R⟩ := h.list (by decide)
  obtain ⟨T, hT⟩ := list4 h2
  refine ⟨T, ?_⟩
  rw [hT] at R
  have : gatesV T = (T.map GateT.cs).flatten := by unfold gatesV; rw [List.flatMap_def]
  rw [this]; exact R
end Lw
set_option linter.unusedVariables false
set_option linter.unusedSimpArgs false
namespace Go.Proofs.Ytfocpbknckmmaaa
open Go.RowKit
set_option maxHeartbeats 1000000 in
theorem prt_idx (A : Option Addr) (n c b : Nat) (p : Int) (zs : List Int) (w : World) (R : Lw.Rd w 1 A n (Lw.intsV .i64 zs)) (hn : n ≤ 9223372036854775807) (hb : w.cell? ⟨b, 0, none⟩ = some (.int .i64 p)) :
    Calls Try.prog 62 #[.slice A n c, .func (.func 40) #[] #[.pointer (some ⟨b, 0, none⟩)]] w (Lw.IdxT (Lw.outR p zs) w) := by
  have R := Lib.hid R
  have l1 : zs.length = n := by have := R.out.1; simpa [Lw.intsV] using this
  have L := Lib.hid l1
  clear l1
  go_enter Try.func62, Try.ntmps62
  go_wp2
  go_loop [5, 8] (fun x i => ∃ k : Nat, i = .int .i64 (k : Int) ∧ k ≤ n ∧ Hid (Lw.outR p (zs.take k) = false)) (fun _ i => n - (intOf i).toNat)
  case atStart => exact ⟨0, rfl, by omega, rfl⟩
  case round =>
    obtain ⟨k, rfl, k1, T⟩ := hrel
    by_cases hlt : k < n
    · have hl : k < zs.length := by rw [L.out]; exact hlt
      obtain ⟨ad, rfl, had, hcell⟩ := R.out.at1 hlt (Lw.intsV_get hl)
      have N := Lib.hid (Lw.any_take (p := fun x => decide (x < 0) || decide (p ≤ x)) hl T.out)
      have D := Lib.hid (Lw.any_at (p := fun x : Int => decide (x < 0) || decide (p ≤ x)) hl)
      obtain ⟨x, hx⟩ : ∃ x, zs[k] = x := ⟨_, rfl⟩
      rw [hx] at hcell N D
      clear hx
      rcases (show x < 0 ∨ (0 ≤ x ∧ p ≤ x) ∨ (0 ≤ x ∧ x < p) by omega) with h0 | ⟨h0, h1⟩ | ⟨h0, h1⟩
      · have D1 : Hid (Lw.outR p zs = true) := D.out (by simp [h0])
        clear N D
        go_wp2
        go_ret
        exact ⟨_, rfl, rfl, .inr ⟨D1.out, by omega⟩⟩
      · have D1 : Hid (Lw.outR p zs = true) := D.out (by simp [h1])
        clear N D
        go_wp2
        go_ret
        exact ⟨_, rfl, rfl, .inr ⟨D1.out, by omega⟩⟩
      · have N1 : Hid (Lw.outR p (zs.take (k + 1)) = false) := N.out (by simp; omega)
        clear N D
        go_wp2
        go_round
        case rel => exact ⟨k + 1, by go_num, by omega, N1⟩
        case measure => simp [intOf]; omega
    · have hk : zs.take k = zs := List.take_of_length_le (by rw [L.out]; omega)
      have E : Hid (Lw.outR p zs = false) := by have := T.out; rwa [hk] at this
      clear hk
      go_wp2
      go_ret
      exact ⟨_, rfl, rfl, .inl ⟨E.out, rfl⟩⟩
theorem prt_con (A : Option Addr) (n c b : Nat) (p : Int) (zs : List Int) (w : World) (R : Lw.Rd w 1 A n (Lw.intsV .i64 zs)) (hn : n ≤ 9223372036854775807) (hb : w.cell? ⟨b, 0, none⟩ = some (.int .i64 p)) :
    Calls Try.prog 39 #[.slice A n c, .func (.func 40) #[] #[.pointer (some ⟨b, 0, none⟩)]] w fun e w' => e = .returned (.bool (Lw.outR p zs)) ∧ w = w' := by
  have X := Lib.hid (prt_idx A n c b p zs w R hn hb)
  clear R hb
  go_enter Try.func39, Try.ntmps39
  go_wp2_with (go_at_call 62; (with_reducible refine (X.out).mono ?_); rintro e w1 ⟨r, rfl, rfl, hr⟩)
  go_ret
  exact ⟨Lw.ret_bool (Lw.IdxT.ge hr), rfl⟩

theorem parts_out (p : Int) (A : Option Addr) (n c : Nat) (zs : List Int) (w : World) (R : Lw.Rd w 1 A n (Lw.intsV .i64 zs)) (hn : n ≤ 9223372036854775807) :
    Calls Try.prog 17 #[.int .i64 p, .slice A n c] w fun e w' => e = .returned (.bool (Lw.outR p zs)) ∧ Below w.heap.size w w' := by
  have X := Lib.hid (prt_con A n c w.heap.size p zs _ (R.alloc (.cells #[.int .i64 p] 2)) hn (by simp))
  clear R
  go_enter Try.func17, Try.ntmps17
  go_wp2_with (go_at_call 39; (with_reducible refine (X.out).mono ?_); rintro e w1 ⟨rfl, rfl⟩)
  go_ret
  exact ⟨rfl, Lw.balloc (Below.refl _ _) _⟩
theorem parts_ahead (k : Int) (i b : Nat) (w : World) (hb : w.cell? ⟨b, 0, none⟩ = some (.int .i64 (i : Int))) :
    Calls Try.prog 61 #[.int .i64 k, .pointer (some ⟨b, 0, none⟩)] w fun e w' => e = .returned (.bool (decide (0 ≤ k) && decide (k < (i : Int)))) ∧ w = w' := by
  by_cases h1 : 0 ≤ k
  · by_cases h2 : k < (i : Int)
    · rw [decide_eq_true h1, decide_eq_true h2]
      go_enter Try.func61, Try.ntmps61
      go_wp2
      go_ret
      exact ⟨rfl, rfl⟩
    · rw [decide_eq_true h1, decide_eq_false h2]
      go_enter Try.func61, Try.ntmps61
      go_wp2
      go_ret
      exact ⟨rfl, rfl⟩
  · rw [decide_eq_false h1]
    go_enter Try.func61, Try.ntmps61
    go_wp2
    go_ret
    exact ⟨rfl, rfl⟩
set_option maxRecDepth 100000 in
set_option maxHeartbeats 4000000 in
theorem parts_gate (p : Int) (i m : Nat) (g : Lw.GateT) (w : World) :
    Calls Try.prog 38 #[.int .i64 p, .int .i64 (i : Int), .agg #[.int .i64 g.K, .int .i64 g.A, .int .i64 g.B, .int .i64 g.N], .int .i64 (m : Int)] w fun e w' => e = .returned (.int .i64 (Lw.gateE p i m g)) ∧ Below w.heap.size w w' := by
  obtain ⟨K, A, B, N⟩ := g
  have GE : Hid (Lw.gateE p i m ⟨K, A, B, N⟩ = if K = 1 then (if 0 ≤ A ∧ A < m then 0 else 3) else if K = 2 then (if 0 ≤ N ∧ N < p then 0 else 2) else if K = 3 ∨ K = 4 then (if (0 ≤ A ∧ A < i) ∧ 0 ≤ B ∧ B < i then 0 else 3) else 6) := rfl
  generalize Lw.gateE p i m ⟨K, A, B, N⟩ = E at *
  simp only at *
  have OUT := Lib.hid (fun W R => parts_out p (some ⟨w.heap.size + 1 + 1, 0, none⟩) 1 1 [N] W R (by omega))
  by_cases k1 : K = 1
  · subst k1
    rcases (by omega : A < 0 ∨ (¬ A < 0 ∧ (m : Int) ≤ A) ∨ (¬ A < 0 ∧ ¬ (m : Int) ≤ A)) with h | ⟨h, h2⟩ | ⟨h, h2⟩
    · have EE : Hid (E = 3) := by rw [GE.out, if_pos rfl, if_neg (by omega)]; rfl
      clear GE OUT
      go_enter Try.func38, Try.ntmps38
      go_wp2_with fail
      go_ret
      exact ⟨Lw.ret_int EE.out.symm, by (repeat (first | exact Below.refl _ _ | refine Lw.bt ?_ (by assumption) | refine Lw.balloc ?_ _ | refine Lw.bdrewN ?_ _ | refine Below.drew ?_ | refine Lw.bset ?_ (by first | (simp; done) | (simp; omega) | omega) _))⟩
    · have EE : Hid (E = 3) := by rw [GE.out, if_pos rfl, if_neg (by omega)]; rfl
      clear GE OUT
      go_enter Try.func38, Try.ntmps38
      go_wp2_with fail
      go_ret
      exact ⟨Lw.ret_int EE.out.symm, by (repeat (first | exact Below.refl _ _ | refine Lw.bt ?_ (by assumption) | refine Lw.balloc ?_ _ | refine Lw.bdrewN ?_ _ | refine Below.drew ?_ | refine Lw.bset ?_ (by first | (simp; done) | (simp; omega) | omega) _))⟩
    · have EE : Hid (E = 0) := by rw [GE.out, if_pos rfl, if_pos (by omega)]; rfl
      clear GE OUT
      go_enter Try.func38, Try.ntmps38
      go_wp2_with fail
      go_ret
      exact ⟨Lw.ret_int EE.out.symm, by (repeat (first | exact Below.refl _ _ | refine Lw.bt ?_ (by assumption) | refine Lw.balloc ?_ _ | refine Lw.bdrewN ?_ _ | refine Below.drew ?_ | refine Lw.bset ?_ (by first | (simp; done) | (simp; omega) | omega) _))⟩
  by_cases k2 : K = 2
  · subst k2
    have O2 : Lw.outR p [N] = decide (¬ (0 ≤ N ∧ N < p)) := by
      unfold Lw.outR; simp [List.any_cons]
      by_cases h1 : N < 0 <;> by_cases h2 : p ≤ N <;> simp [h1, h2] <;> omega
    rw [O2] at OUT
    by_cases h : 0 ≤ N ∧ N < p
    · have EE : Hid (E = 0) := by rw [GE.out, if_neg (by decide), if_pos rfl, if_pos h]; rfl
      have d : decide (¬ (0 ≤ N ∧ N < p)) = false := by simpa using h
      rw [d] at OUT
      clear GE O2 k1 h d
      go_enter Try.func38, Try.ntmps38
      go_wp2_with fail
      refine (OUT.out _ (by exact Lw.Rd.lit (Lw.blk_new' (by simp) _ _) rfl rfl)).mono ?_
      rintro e w1 ⟨rfl, hb1⟩
      go_wp2_with fail
      go_ret
      exact ⟨Lw.ret_int EE.out.symm, by (repeat (first | exact Below.refl _ _ | refine Lw.bt ?_ (by assumption) | refine Lw.balloc ?_ _ | refine Lw.bdrewN ?_ _ | refine Below.drew ?_ | refine Lw.bset ?_ (by first | (simp; done) | (simp; omega) | omega) _))⟩
    · have EE : Hid (E = 2) := by rw [GE.out, if_neg (by decide), if_pos rfl, if_neg h]; rfl
      have d : decide (¬ (0 ≤ N ∧ N < p)) = true := decide_eq_true h
      rw [d] at OUT
      clear GE O2 k1 h d
      go_enter Try.func38, Try.ntmps38
      go_wp2_with fail
      refine (OUT.out _ (by exact Lw.Rd.lit (Lw.blk_new' (by simp) _ _) rfl rfl)).mono ?_
      rintro e w1 ⟨rfl, hb1⟩
      go_wp2_with fail
      go_ret
      exact ⟨Lw.ret_int EE.out.symm, by (repeat (first | exact Below.refl _ _ | refine Lw.bt ?_ (by assumption) | refine Lw.balloc ?_ _ | refine Lw.bdrewN ?_ _ | refine Below.drew ?_ | refine Lw.bset ?_ (by first | (simp; done) | (simp; omega) | omega) _))⟩
  clear OUT
  by_cases k34 : K = 3 ∨ K = 4
  · have ko : Hid (E = if (0 ≤ A ∧ A < i) ∧ 0 ≤ B ∧ B < i then 0 else 3) := by rw [GE.out, if_neg k1, if_neg k2, if_pos k34]; rfl
    have l0 : ((w.alloc (.cells #[.int .i64 (i : Int)] 3)).alloc (.cells #[.int .i64 K, .int .i64 A, .int .i64 B, .int .i64 N] 46)).cell? ⟨w.heap.size, 0, none⟩ = some (.int .i64 (i : Int)) := by
      simp
    have AH := Lib.hid (fun k => parts_ahead k i w.heap.size _ l0)
    clear GE k1 k2 l0
    rcases (by omega : A < 0 ∨ (¬ A < 0 ∧ (i : Int) ≤ A) ∨ (¬ A < 0 ∧ ¬ (i : Int) ≤ A ∧ B < 0) ∨ (¬ A < 0 ∧ ¬ (i : Int) ≤ A ∧ ¬ B < 0 ∧ (i : Int) ≤ B) ∨ (¬ A < 0 ∧ ¬ (i : Int) ≤ A ∧ ¬ B < 0 ∧ ¬ (i : Int) ≤ B)) with h | ⟨h, h2⟩ | ⟨h, h2, h3⟩ | ⟨h, h2, h3, h4⟩ | ⟨h, h2, h3, h4⟩
    · have EE : Hid (E = 3) := by rw [ko.out, if_neg (by omega)]; rfl
      have bA : (decide (0 ≤ A) && decide (A < (i : Int))) = false := by (by_cases q : 0 ≤ A); (rw [decide_eq_false (show ¬ A < (i : Int) by omega), Bool.and_false]); (rw [decide_eq_false q, Bool.false_and])
      have HA := Lib.hid (bA ▸ AH.out A)
      clear ko AH bA
      rcases k34 with k | k <;> subst k
      all_goals
        go_enter Try.func38, Try.ntmps38
        go_wp2_with (go_at_call 61; (with_reducible refine (HA.out).mono ?_); rintro e w' ⟨rfl, rfl⟩)
        go_ret
        exact ⟨Lw.ret_int EE.out.symm, by (repeat (first | exact Below.refl _ _ | refine Lw.bt ?_ (by assumption) | refine Lw.balloc ?_ _ | refine Lw.bdrewN ?_ _ | refine Below.drew ?_ | refine Lw.bset ?_ (by first | (simp; done) | (simp; omega) | omega) _))⟩
    · have EE : Hid (E = 3) := by rw [ko.out, if_neg (by omega)]; rfl
      have bA : (decide (0 ≤ A) && decide (A < (i : Int))) = false := by (by_cases q : 0 ≤ A); (rw [decide_eq_false (show ¬ A < (i : Int) by omega), Bool.and_false]); (rw [decide_eq_false q, Bool.false_and])
      have HA := Lib.hid (bA ▸ AH.out A)
      clear ko AH bA
      rcases k34 with k | k <;> subst k
      all_goals
        go_enter Try.func38, Try.ntmps38
        go_wp2_with (go_at_call 61; (with_reducible refine (HA.out).mono ?_); rintro e w' ⟨rfl, rfl⟩)
        go_ret
        exact ⟨Lw.ret_int EE.out.symm, by (repeat (first | exact Below.refl _ _ | refine Lw.bt ?_ (by assumption) | refine Lw.balloc ?_ _ | refine Lw.bdrewN ?_ _ | refine Below.drew ?_ | refine Lw.bset ?_ (by first | (simp; done) | (simp; omega) | omega) _))⟩
    · have EE : Hid (E = 3) := by rw [ko.out, if_neg (by omega)]; rfl
      have bA : (decide (0 ≤ A) && decide (A < (i : Int))) = true := by rw [decide_eq_true (by omega), decide_eq_true (by omega)]; rfl
      have HA := Lib.hid (bA ▸ AH.out A)
      have bB : (decide (0 ≤ B) && decide (B < (i : Int))) = false := by (by_cases q : 0 ≤ B); (rw [decide_eq_false (show ¬ B < (i : Int) by omega), Bool.and_false]); (rw [decide_eq_false q, Bool.false_and])
      have HB := Lib.hid (bB ▸ AH.out B)
      clear ko AH bA bB
      rcases k34 with k | k <;> subst k
      all_goals
        go_enter Try.func38, Try.ntmps38
        go_wp2_with (first | (go_at_call 61; (with_reducible refine (HA.out).mono ?_); rintro e w' ⟨rfl, rfl⟩) | (go_at_call 61; (with_reducible refine (HB.out).mono ?_); rintro e w' ⟨rfl, rfl⟩))
        go_ret
        exact ⟨Lw.ret_int EE.out.symm, by (repeat (first | exact Below.refl _ _ | refine Lw.bt ?_ (by assumption) | refine Lw.balloc ?_ _ | refine Lw.bdrewN ?_ _ | refine Below.drew ?_ | refine Lw.bset ?_ (by first | (simp; done) | (simp; omega) | omega) _))⟩
    · have EE : Hid (E = 3) := by rw [ko.out, if_neg (by omega)]; rfl
      have bA : (decide (0 ≤ A) && decide (A < (i : Int))) = true := by rw [decide_eq_true (by omega), decide_eq_true (by omega)]; rfl
      have HA := Lib.hid (bA ▸ AH.out A)
      have bB : (decide (0 ≤ B) && decide (B < (i : Int))) = false := by (by_cases q : 0 ≤ B); (rw [decide_eq_false (show ¬ B < (i : Int) by omega), Bool.and_false]); (rw [decide_eq_false q, Bool.false_and])
      have HB := Lib.hid (bB ▸ AH.out B)
      clear ko AH bA bB
      rcases k34 with k | k <;> subst k
      all_goals
        go_enter Try.func38, Try.ntmps38
        go_wp2_with (first | (go_at_call 61; (with_reducible refine (HA.out).mono ?_); rintro e w' ⟨rfl, rfl⟩) | (go_at_call 61; (with_reducible refine (HB.out).mono ?_); rintro e w' ⟨rfl, rfl⟩))
        go_ret
        exact ⟨Lw.ret_int EE.out.symm, by (repeat (first | exact Below.refl _ _ | refine Lw.bt ?_ (by assumption) | refine Lw.balloc ?_ _ | refine Lw.bdrewN ?_ _ | refine Below.drew ?_ | refine Lw.bset ?_ (by first | (simp; done) | (simp; omega) | omega) _))⟩
    · have EE : Hid (E = 0) := by rw [ko.out, if_pos (by omega)]; rfl
      have bA : (decide (0 ≤ A) && decide (A < (i : Int))) = true := by rw [decide_eq_true (by omega), decide_eq_true (by omega)]; rfl
      have HA := Lib.hid (bA ▸ AH.out A)
      have bB : (decide (0 ≤ B) && decide (B < (i : Int))) = true := by rw [decide_eq_true (by omega), decide_eq_true (by omega)]; rfl
      have HB := Lib.hid (bB ▸ AH.out B)
      clear ko AH bA bB
      rcases k34 with k | k <;> subst k
      all_goals
        go_enter Try.func38, Try.ntmps38
        go_wp2_with (first | (go_at_call 61; (with_reducible refine (HA.out).mono ?_); rintro e w' ⟨rfl, rfl⟩) | (go_at_call 61; (with_reducible refine (HB.out).mono ?_); rintro e w' ⟨rfl, rfl⟩))
        go_ret
        exact ⟨Lw.ret_int EE.out.symm, by (repeat (first | exact Below.refl _ _ | refine Lw.bt ?_ (by assumption) | refine Lw.balloc ?_ _ | refine Lw.bdrewN ?_ _ | refine Below.drew ?_ | refine Lw.bset ?_ (by first | (simp; done) | (simp; omega) | omega) _))⟩
  · have EE : Hid (E = 6) := by rw [GE.out, if_neg k1, if_neg k2, if_neg k34]; rfl
    have k3 : ¬ K = 3 := fun e => k34 (.inl e)
    have k4 : ¬ K = 4 := fun e => k34 (.inr e)
    have b1 : (K == 1) = false := by simpa using k1
    have b2 : (K == 2) = false := by simpa using k2
    have b3 : (K == 3) = false := by simpa using k3
    have b4 : (K == 4) = false := by simpa using k4
    clear GE k34
    go_enter Try.func38, Try.ntmps38
    go_wp2_with fail
    go_ret
    exact ⟨Lw.ret_int EE.out.symm, by (repeat (first | exact Below.refl _ _ | refine Lw.bt ?_ (by assumption) | refine Lw.balloc ?_ _ | refine Lw.bdrewN ?_ _ | refine Below.drew ?_ | refine Lw.bset ?_ (by first | (simp; done) | (simp; omega) | omega) _))⟩
end Go.Proofs.Ytfocpbknckmmaaa
namespace Lw
open Go Go.RowKit
theorem clr_ppr {p : Int} {gs : List GateT} {ins : List Int} (h : ¬ pprE p = 0) : clrE p gs ins = pprE p := if_neg h
theorem clr_large {p : Int} {gs : List GateT} {ins : List Int} (h : pprE p = 0) (h2 : 60 < gs.length ∨ 60 < ins.length) : clrE p gs ins = 1 := by unfold clrE; rw [if_pos h, if_pos h2]
theorem clr_out {p : Int} {gs : List GateT} {ins : List Int} (h : pprE p = 0) (h2 : ¬ (60 < gs.length ∨ 60 < ins.length)) (h3 : outR p ins = true) : clrE p gs ins = 2 := by unfold clrE; rw [if_pos h, if_neg h2, if_pos h3]
theorem clr_gates {p : Int} {gs : List GateT} {ins : List Int} (h : pprE p = 0) (h2 : ¬ (60 < gs.length ∨ 60 < ins.length)) (h3 : outR p ins = false) : clrE p gs ins = gsE p ins.length gs gs.length := by unfold clrE; rw [if_pos h, if_neg h2, if_neg (by simp [h3])]
end Lw
set_option linter.unusedVariables false
set_option linter.unusedSimpArgs false
namespace Go.Proofs.Ytfocpbknckmmaaa
open Go.RowKit
set_option maxRecDepth 100000 in
set_option maxHeartbeats 4000000 in
theorem parts_wrong (p : Int) (A : Option Addr) (n c : Nat) (gs : List Lw.GateT) (B : Option Addr) (m d : Nat) (ins : List Int) (w : World) (RA : Lw.Rd w 4 A n (Lw.gatesV gs)) (RB : Lw.Rd w 1 B m (Lw.intsV .i64 ins)) :
    Calls Try.prog 15 #[.int .i64 p, .slice A n c, .slice B m d] w fun e w' => e = .returned (.int .i64 (Lw.clrE p gs ins)) ∧ Below w.heap.size w w' := by
  have la : gs.length = n := by have := RA.1; rw [Lw.gatesV_length] at this; omega
  have lb : ins.length = m := by have := RB.1; simpa [Lw.intsV] using this
  have X := fun w => poly_Check p none 0 0 [] w (Lw.Rd.nil _ _ _)
  by_cases h1 : Lw.pprE p = 0
  · have X : ∀ w, Calls Try.prog 37 #[.int .i64 p, .slice none 0 0] w fun e w' => e = .returned (.int .i64 0) ∧ Below w.heap.size w w' := by
      intro w
      have := X w
      rw [show Lw.polyE p [] = 0 by rw [Lw.poly_in h1 (by decide)]; rfl] at this
      exact this
    replace X := Lib.hid X
    by_cases h2 : 60 < gs.length ∨ 60 < ins.length
    · have E := Lib.hid (Lw.clr_large h1 h2)
      rw [la, lb] at h2
      clear RA RB h1
      rcases (by omega : ((n : Int) < (m : Int) ∧ (60 : Int) < (m : Int)) ∨ (¬ (n : Int) < (m : Int) ∧ (60 : Int) < (n : Int))) with ⟨h3, h4⟩ | ⟨h3, h4⟩
      all_goals
        clear h2
        go_enter Try.func15, Try.ntmps15
        go_wp2_with (go_at_call 37; (with_reducible refine (X.out _).mono ?_); rintro e w1 ⟨rfl, hb1⟩)
        all_goals first | (exfalso; omega) | (go_ret; exact ⟨Lw.ret_int E.out.symm, hb1⟩)
    · have hn : n ≤ 60 := by omega
      have hm : m ≤ 60 := by omega
      have OU := Lib.hid (fun W (h : Below w.heap.size w W) => parts_out p B m d ins W (RB.below (Nat.le_refl w.heap.size) h) (by omega))
      have hnm : ((n : Int) < (m : Int)) ∨ ¬ ((n : Int) < (m : Int)) := by omega
      have b1 : ¬ (60 : Int) < (n : Int) := by omega
      have b2 : ¬ (60 : Int) < (m : Int) := by omega
      cases ho : Lw.outR p ins with
      | true =>
        have E := Lib.hid (Lw.clr_out h1 h2 ho)
        rw [ho] at OU
        clear RA RB h1 h2 ho
        rcases hnm with h3 | h3
        all_goals
          go_enter Try.func15, Try.ntmps15
          go_wp2_with (first | (go_at_call 37; (with_reducible refine (X.out _).mono ?_); rintro e w1 ⟨rfl, hb1⟩) | (go_at_call 17; (with_reducible refine (OU.out _ hb1).mono ?_); rintro e w2 ⟨rfl, hb2⟩))
          all_goals first | (exfalso; omega) | (go_ret; exact ⟨Lw.ret_int E.out.symm, Lw.bt hb1 hb2⟩)
      | false =>
        have E := Lib.hid (Lw.clr_gates h1 h2 ho)
        have NX := Lib.hid (fun k (h : k < gs.length) h2 => Lw.gsE_next (p := p) (m := ins.length) (gs := gs) (k := k) h h2)
        have BD := Lib.hid (fun k (h : k < gs.length) h2 h3 => Lw.gsE_bad (p := p) (m := ins.length) (gs := gs) (k := k) h h2 h3)
        have G0 : Hid (Lw.gsE p ins.length gs 0 = 0) := rfl
        rw [lb] at E NX BD G0
        rw [ho] at OU
        have RA := Lib.hid RA
        have LA := Lib.hid la
        clear RB h1 h2 ho
        generalize Lw.clrE p gs ins = V at *
        rcases hnm with h3 | h3
        all_goals
          go_enter Try.func15, Try.ntmps15
          go_wp2_with (first | (go_at_call 37; (with_reducible refine (X.out _).mono ?_); rintro e w1 ⟨rfl, hb1⟩) | (go_at_call 17; (with_reducible refine (OU.out _ hb1).mono ?_); rintro e w2 ⟨rfl, hb2⟩))
          all_goals first | (exfalso; omega) | skip
          have hB2 := Lw.bt hb1 hb2
          go_loopw [8, 9, 10, 27] (fun ii gg ee i wr => ∃ k : Nat, i = .int .i64 (k : Int) ∧ k ≤ n ∧ Hid (Lw.gsE p m gs k = 0) ∧ Below w.heap.size w wr) (fun _ _ _ i _ => n - (intOf i).toNat)
          case atStart => exact ⟨0, rfl, by omega, G0, hB2⟩
          case round =>
            obtain ⟨k, rfl, hk, H, hB⟩ := hrel
            by_cases hlt : k < n
            · have hkl : k < gs.length := by rw [LA.out]; exact hlt
              obtain ⟨g0, g1, g2, g3⟩ := Lw.gatesV_get hkl
              obtain ⟨ad, rfl, had, c0, c1, c2, c3⟩ := (RA.out.below (Nat.le_refl _) hB).at4 hlt g0 g1 g2 g3
              have NXk := NX.out k hkl H.out
              have BDk := BD.out k hkl H.out
              have PG := fun W => parts_gate p k m gs[k] W
              obtain ⟨⟨K, a, b, N⟩, hg⟩ : ∃ z, gs[k] = z := ⟨_, rfl⟩
              rw [hg] at c0 c1 c2 c3 NXk BDk PG
              simp only at c0 c1 c2 c3 PG
              replace PG := Lib.hid PG
              obtain ⟨ge, hge⟩ : ∃ z, Lw.gateE p k m ⟨K, a, b, N⟩ = z := ⟨_, rfl⟩
              rw [hge] at NXk BDk PG
              have NXk := Lib.hid NXk
              have hlt' : (k : Int) < (n : Int) := by omega
              clear g0 g1 g2 g3 hg hge hkl had
              by_cases g0 : ge = 0
              · subst g0
                clear BDk
                have z : ((0 : Int) != 0) = false := rfl
                go_wp2_with fail
                refine (PG.out _).mono ?_
                rintro e w4 ⟨rfl, hb4⟩
                have hB4 := Lw.bt (Lw.balloc hB _) hb4
                go_wp2_with fail
                go_roundw
                case rel => exact ⟨k + 1, by go_num, by omega, NXk, hB4⟩
                case measure => simp [intOf]; omega
              · have BB := Lib.hid (BDk g0)
                rw [LA.out] at BB E
                have z : (ge != 0) = true := by simpa using g0
                clear BDk NXk
                go_wp2_with fail
                refine (PG.out _).mono ?_
                rintro e w4 ⟨rfl, hb4⟩
                have hB4 := Lw.bt (Lw.balloc hB _) hb4
                go_wp2_with fail
                go_ret
                exact ⟨Lw.ret_int (by rw [E.out, BB.out]), hB4⟩
            · have hkn : k = n := by omega
              subst hkn
              have E2 : Hid (V = 0) := by have h1 := E.out; rw [LA.out] at h1; rw [h1]; exact H.out
              go_wp2_with fail
              go_ret
              exact ⟨Lw.ret_int E2.out.symm, hB⟩
  · have E := Lib.hid (Lw.clr_ppr (gs := gs) (ins := ins) h1)
    have X : ∀ w, Calls Try.prog 37 #[.int .i64 p, .slice none 0 0] w fun e w' => e = .returned (.int .i64 (Lw.pprE p)) ∧ Below w.heap.size w w' := by
      intro w
      have := X w
      rw [Lw.poly_p h1] at this
      exact this
    have z : (Lw.pprE p != 0) = true := by simpa using h1
    have z' : (Lw.pprE p == 0) = false := by simpa using h1
    generalize Lw.pprE p = e0 at *
    replace X := Lib.hid X
    clear RA RB h1
    go_enter Try.func15, Try.ntmps15
    go_wp2_with (go_at_call 37; (with_reducible refine (X.out _).mono ?_); rintro e w1 ⟨rfl, hb1⟩)
    go_ret
    exact ⟨Lw.ret_int E.out.symm, hb1⟩
end Go.Proofs.Ytfocpbknckmmaaa
namespace Lw
open Go Go.RowKit
theorem gate_ok {p : Int} {i m : Nat} {K A B N : Int} (h : gateE p i m ⟨K, A, B, N⟩ = 0) : (K = 1 ∧ 0 ≤ A ∧ A < m) ∨ (K = 2 ∧ 0 ≤ N ∧ N < p) ∨ (K = 3 ∧ (0 ≤ A ∧ A < i) ∧ 0 ≤ B ∧ B < i) ∨ (K = 4 ∧ (0 ≤ A ∧ A < i) ∧ 0 ≤ B ∧ B < i) := by
  have h : (if K = 1 then (if 0 ≤ A ∧ A < m then 0 else 3) else if K = 2 then (if 0 ≤ N ∧ N < p then 0 else 2) else if K = 3 ∨ K = 4 then (if (0 ≤ A ∧ A < i) ∧ 0 ≤ B ∧ B < i then 0 else 3) else 6 : Int) = 0 := h
  by_cases k1 : K = 1
  · rw [if_pos k1] at h
    by_cases c : 0 ≤ A ∧ A < m
    · exact .inl ⟨k1, c⟩
    · rw [if_neg c] at h; cases h
  · rw [if_neg k1] at h
    by_cases k2 : K = 2
    · rw [if_pos k2] at h
      by_cases c : 0 ≤ N ∧ N < p
      · exact .inr (.inl ⟨k2, c⟩)
      · rw [if_neg c] at h; cases h
    · rw [if_neg k2] at h
      by_cases k3 : K = 3 ∨ K = 4
      · rw [if_pos k3] at h
        by_cases c : (0 ≤ A ∧ A < i) ∧ 0 ≤ B ∧ B < i
        · rcases k3 with k | k
          · exact .inr (.inr (.inl ⟨k, c⟩))
          · exact .inr (.inr (.inr ⟨k, c⟩))
        · rw [if_neg c] at h; cases h
      · rw [if_neg k3] at h; cases h
theorem clrL_next {p : Int} {ins : List Int} {gs : List GateT} {k : Nat} (hk : k < gs.length) : clrL p ins gs (k + 1) = clrL p ins gs k ++ [valG p ins (clrL p ins gs k) gs[k]] := by
  show clrL p ins gs k ++ [valG p ins (clrL p ins gs k) (gs.getD k ⟨0, 0, 0, 0⟩)] = _
  rw [List.getD_eq_getElem?_getD, List.getElem?_eq_getElem hk]; rfl
theorem clr_zero {p : Int} {gs : List GateT} {ins : List Int} (h : clrE p gs ins = 0) : pprE p = 0 ∧ gs.length ≤ 60 ∧ ins.length ≤ 60 ∧ outR p ins = false ∧ gsE p ins.length gs gs.length = 0 := by
  by_cases h1 : pprE p = 0
  · by_cases h2 : 60 < gs.length ∨ 60 < ins.length
    · rw [clr_large h1 h2] at h; cases h
    · cases ho : outR p ins with
      | true => rw [clr_out h1 h2 ho] at h; cases h
      | false => rw [clr_gates h1 h2 ho] at h; exact ⟨h1, by omega, by omega, rfl, h⟩
  · rw [clr_ppr h1] at h; exact absurd h h1
theorem outR_in' {zs : List Int} {m : Int} (h : outR m zs = false) : ∀ z ∈ zs, 0 ≤ z ∧ z < m := by
  intro z hz
  have := List.any_eq_false.1 h z hz
  simp at this
  omega
theorem getD_at' {l : List Int} {i : Nat} (h : i < l.length) : l.getD i 0 = l[i] := by rw [List.getD_eq_getElem?_getD, List.getElem?_eq_getElem h]; rfl
theorem mulb {a b p : Int} (a0 : 0 ≤ a) (a1 : a < p) (b0 : 0 ≤ b) (b1 : b < p) (hp : p ≤ 251) : 0 ≤ a * b ∧ a * b ≤ 63001 := by
  refine ⟨Int.mul_nonneg a0 b0, ?_⟩
  have h1 : a * b ≤ 251 * 251 := Int.mul_le_mul (by omega) (by omega) b0 (by omega)
  omega
theorem drewN_own'' {w : Go.World} {base e size n : Nat} {v : Go.Value} {xs : List Go.Value} (h : w.ownsRow base e size v n xs) (d : Nat) : (w.drewN d).ownsRow base e size v n xs := h
def ClrR (l : List Int) (n : Nat) (w : World) (e : Ending) (w' : World) : Prop := ∃ C g, e = .returned (.tuple #[.slice C n g, .int .i64 0]) ∧ Rd w' 1 C n (intsV .i64 l) ∧ Below w.heap.size w w'
def ClrF (l : List Int) (n : Nat) (w : World) (e : Ending) (w' : World) : Prop := ∃ C g, e = .returned (.slice C n g) ∧ Rd w' 1 C n (intsV .i64 l) ∧ Below w.heap.size w w'
theorem intsV_snoc'' (k : IntKind) (a : List Int) (x : Int) : intsV k (a ++ [x]) = intsV k a ++ [.int k x] := by simp [intsV]
end Lw
set_option linter.unusedVariables false
set_option linter.unusedSimpArgs false
namespace Go.Proofs.Ytfocpbknckmmaaa
open Go.RowKit
theorem elLng : Lw.El Try.prog 23 2 (.int .i64 0) 1 8 := Lw.El.mk' Try.underlying23 (by kernel_rfl) rfl (by decide) (by decide)
end Go.Proofs.Ytfocpbknckmmaaa
namespace Lw
open Go Go.RowKit
/-- without zeros at the end -/
def trimL (l : List Int) : List Int := (l.reverse.dropWhile (· == 0)).reverse
theorem trim_snoc {l : List Int} {x : Int} : trimL (l ++ [x]) = if x = 0 then trimL l else l ++ [x] := by
  unfold trimL
  rw [List.reverse_append, List.reverse_singleton, List.singleton_append]
  by_cases h : x = 0
  · rw [if_pos h, List.dropWhile_cons_of_pos (by simpa using h)]
  · rw [if_neg h, List.dropWhile_cons_of_neg (by simpa using h)]; simp
theorem trim_nil : trimL [] = [] := rfl
theorem trim_take {l : List Int} {k : Nat} (h : k < l.length) : trimL (l.take (k + 1)) = if l[k] = 0 then trimL (l.take k) else l.take (k + 1) := by
  rw [List.take_succ_eq_append_getElem h, trim_snoc]
/-- what stands at place i of a sum, when the first k places of b have come -/
def plusF (p : Int) (a b : List Int) (κ : Int) (u k i : Nat) : Int := if u ≤ i ∧ i - u < k then (a.getD i 0 + κ * b.getD (i - u) 0) % p else a.getD i 0
def plusK (p : Int) (a b : List Int) (κ : Int) (u N k : Nat) : List Int := (List.range N).map (plusF p a b κ u k)
/-- what stands at place i of a sum -/
def plusV (p : Int) (a b : List Int) (κ : Int) (u i : Nat) : Int := (a.getD i 0 + κ * (if u ≤ i then b.getD (i - u) 0 else 0)) % p
def plusL (p : Int) (a b : List Int) (κ : Int) (u : Nat) : List Int := trimL ((List.range (max a.length (b.length + u))).map (plusV p a b κ u))
theorem plusK_length {p : Int} {a b : List Int} {κ : Int} {u N k : Nat} : (plusK p a b κ u N k).length = N := by simp [plusK]
theorem plusK_zero {p : Int} {a b : List Int} {κ : Int} {u N : Nat} (h : a.length ≤ N) : plusK p a b κ u N 0 = a ++ List.replicate (N - a.length) 0 := by
  apply List.ext_getElem
  · simp [plusK]; omega
  · intro i h1 h2
    simp only [plusK, List.getElem_map, List.getElem_range, plusF, Nat.not_lt_zero, and_false, if_false]
    by_cases hi : i < a.length
    · rw [List.getElem_append_left hi, List.getD_eq_getElem?_getD, List.getElem?_eq_getElem hi]; rfl
    · rw [List.getElem_append_right (by omega), List.getD_eq_getElem?_getD, List.getElem?_eq_none (by omega)]; simp
theorem splice_plus {p : Int} {a b : List Int} {κ : Int} {u N : Nat} (h : a.length ≤ N) : splice (List.replicate N (Value.int .i64 0)) 0 (intsV .i64 a) = intsV .i64 (plusK p a b κ u N 0) := by
  rw [plusK_zero h]
  simp [splice, intsV]
theorem plusK_get {p : Int} {a b : List Int} {κ : Int} {u N k : Nat} (h : u + k < N) : (plusK p a b κ u N k)[u + k]? = some (a.getD (u + k) 0) := by
  unfold plusK
  rw [List.getElem?_map, List.getElem?_range h]
  simp [plusF]
theorem plusK_next {p : Int} {a b : List Int} {κ : Int} {u N k : Nat} (h : u + k < N) : plusK p a b κ u N (k + 1) = (plusK p a b κ u N k).set (u + k) ((a.getD (u + k) 0 + κ * b.getD k 0) % p) := by
  apply List.ext_getElem
  · simp [plusK]
  · intro i h1 h2
    rw [List.getElem_set]
    simp only [plusK, List.getElem_map, List.getElem_range, plusF]
    by_cases hi : u + k = i
    · subst hi
      rw [if_pos rfl, if_pos (by omega)]
      simp
    · rw [if_neg hi]
      by_cases h3 : u ≤ i ∧ i - u < k
      · rw [if_pos h3, if_pos (by omega)]
      · rw [if_neg h3, if_neg (by omega)]
theorem plusK_end {p : Int} {a b : List Int} {κ : Int} {u N : Nat} (hp : 0 < p) (ha : ∀ x ∈ a, 0 ≤ x ∧ x < p) (hN : N = max a.length (b.length + u)) : trimL (plusK p a b κ u N b.length) = plusL p a b κ u := by
  subst hN
  unfold plusL plusK
  congr 1
  apply List.map_congr_left
  intro i _
  unfold plusF plusV
  have hb : 0 ≤ a.getD i 0 ∧ a.getD i 0 < p := by
    rw [List.getD_eq_getElem?_getD]
    by_cases hi : i < a.length
    · rw [List.getElem?_eq_getElem hi]; exact ha _ (List.getElem_mem hi)
    · rw [List.getElem?_eq_none (by omega)]; exact ⟨by simp, by simpa using hp⟩
  by_cases h1 : u ≤ i
  · rw [if_pos h1]
    by_cases h2 : i - u < b.length
    · rw [if_pos ⟨h1, h2⟩]
    · rw [if_neg (by omega)]
      have : b.getD (i - u) 0 = 0 := by rw [List.getD_eq_getElem?_getD, List.getElem?_eq_none (by omega)]; rfl
      rw [this, Int.mul_zero, Int.add_zero, Int.emod_eq_of_lt hb.1 hb.2]
  · rw [if_neg h1, if_neg (by omega), Int.mul_zero, Int.add_zero, Int.emod_eq_of_lt hb.1 hb.2]
theorem mul_ab {κ x : Int} (k1 : -251 ≤ κ) (k2 : κ ≤ 251) (x1 : 0 ≤ x) (x2 : x ≤ 251) : -63001 ≤ κ * x ∧ κ * x ≤ 63001 := by
  have h1 : κ * x ≤ 251 * x := Int.mul_le_mul_of_nonneg_right k2 x1
  have h2 : (-251) * x ≤ κ * x := Int.mul_le_mul_of_nonneg_right k1 x1
  omega
/-- a list that is returned: where it lies, how it reads -/
def RetL (zs : List Int) (w : World) (e : Ending) (w' : World) : Prop := ∃ C m c, e = .returned (.slice C m c) ∧ Rd w' 1 C m (intsV .i64 zs) ∧ m ≤ c ∧ Below w.heap.size w w'
theorem rd_take {w : World} {A : Option Addr} {n k : Nat} {zs : List Int} (R : Rd w 1 A n (intsV .i64 zs)) (h : k ≤ n) : Rd w 1 A k (intsV .i64 (zs.take k)) := by
  have l1 : zs.length = n := by have := R.1; simpa [intsV] using this
  refine ⟨by simp [intsV]; omega, fun hk => ?_⟩
  obtain ⟨ad, e, hb, hc⟩ := R.2 (by omega)
  refine ⟨ad, e, hb, fun j v hv => hc j v ?_⟩
  rw [intsV, List.map_take] at hv
  rw [intsV]
  rw [List.getElem?_take] at hv
  split at hv
  · exact hv
  · cases hv
end Lw
set_option linter.unusedVariables false
set_option linter.unusedSimpArgs false
namespace Go.Proofs.Ytfocpbknckmmaaa
open Go.RowKit
theorem elPly : Lw.El Try.prog 23 2 (.int .i64 0) 1 8 := Lw.El.mk' Try.underlying23 (by kernel_rfl) rfl (by decide) (by decide)
end Go.Proofs.Ytfocpbknckmmaaa
namespace Lw
open Go Go.RowKit
theorem outR_in {zs : List Int} {m : Int} (h : outR m zs = false) : ∀ z ∈ zs, 0 ≤ z ∧ z < m := by
  intro z hz
  unfold outR at h
  rw [List.any_eq_false] at h
  have := h z hz
  simp at this
  omega
theorem intsV_snoc (k : IntKind) (a : List Int) (x : Int) : intsV k (a ++ [x]) = intsV k a ++ [.int k x] := by simp [intsV]
theorem plusV_add (p : Int) (a b : List Int) (i : Nat) : plusV p a b 1 0 i = (a.getD i 0 + b.getD i 0) % p := by simp [plusV]
def sumK (p : Int) (a b : List Int) (k : Nat) : List Int := (List.range k).map (plusV p a b 1 0)
theorem sumK_succ (p : Int) (a b : List Int) (k : Nat) : sumK p a b (k + 1) = sumK p a b k ++ [(a.getD k 0 + b.getD k 0) % p] := by
  unfold sumK; rw [List.range_succ, List.map_append, List.map_singleton, plusV_add]
theorem sumK_length (p : Int) (a b : List Int) (k : Nat) : (sumK p a b k).length = k := by simp [sumK]
theorem poly_facts {p : Int} {zs : List Int} (h : polyE p zs = 0) : 2 ≤ p ∧ p ≤ 251 ∧ primeB p = true ∧ zs.length ≤ 13 ∧ (∀ x ∈ zs, 0 ≤ x ∧ x < p) ∧ endZ zs = false := by
  by_cases hp : pprE p = 0
  · obtain ⟨h1, h2, h3⟩ := ppr_ok hp
    by_cases hl : 13 < zs.length
    · rw [poly_len hp hl] at h; omega
    · rw [poly_in hp hl] at h
      by_cases ho : (outR p zs || endZ zs) = true
      · rw [if_pos ho] at h; omega
      · simp at ho
        exact ⟨h1, h2, h3, by omega, outR_in ho.1, ho.2⟩
  · rw [poly_p hp] at h; exact absurd h hp
theorem getD_bd {p : Int} (hp : 0 < p) {a : List Int} (ha : ∀ x ∈ a, 0 ≤ x ∧ x < p) (i : Nat) : 0 ≤ a.getD i 0 ∧ a.getD i 0 < p := by
  rw [List.getD_eq_getElem?_getD]
  by_cases hi : i < a.length
  · rw [List.getElem?_eq_getElem hi]; exact ha _ (List.getElem_mem hi)
  · rw [List.getElem?_eq_none (by omega)]; exact ⟨by simp, by simpa using hp⟩
end Lw
set_option linter.unusedVariables false
set_option linter.unusedSimpArgs false
namespace Go.Proofs.Ytfocpbknckmmaaa
open Go.RowKit
theorem ref_Longs (n c1 c2 : Nat) (A1 A2 : Option Addr) (zs : List Int) (w : World) (R1 : Lw.Rd w 1 A1 n (Lw.intsV .i64 zs)) (R2 : Lw.Rd w 1 A2 n (Lw.intsV .i64 zs)) (hn : n ≤ 1048576) :
    Calls Try.prog 24 #[.slice A1 n c1, .slice A2 n c2] w fun e w' => e = .returned (.bool true) ∧ ∃ d, w' = w.drewN d := by
  have hl : zs.length = n := by have := R1.1; simpa [Lw.intsV] using this
  have R1 := Lib.hid R1
  have R2 := Lib.hid R2
  have HL := Lib.hid hl
  clear hl
  go_enter Try.func24, Try.ntmps24
  go_wp2
  go_loopw [5] (fun i wr => ∃ k d : Nat, i = .int .i64 (k : Int) ∧ k ≤ n ∧ wr = w.drewN d) (fun i _ => n - (intOf i).toNat)
  case atStart => exact ⟨0, 0, rfl, by omega, rfl⟩
  case round =>
    obtain ⟨k, d, rfl, k1, rfl⟩ := hrel
    by_cases hlt : k < n
    · have hk : k < zs.length := by have := HL.out; omega
      obtain ⟨ad, rfl, had, c0⟩ := R1.out.at1 hlt (Lw.intsV_get hk)
      obtain ⟨ae, rfl, hae, e0⟩ := R2.out.at1 hlt (Lw.intsV_get hk)
      obtain ⟨x, hx⟩ : ∃ x, zs[k] = x := ⟨_, rfl⟩
      rw [hx] at c0 e0
      clear hx hk
      go_wp2
      go_quiet (fail)
      go_wp2
      go_roundw
      case rel => exact ⟨k + 1, _, by go_num, by omega, rfl⟩
      case measure => simp [intOf]; omega
    · go_wp2
      go_ret
      exact ⟨rfl, d, rfl⟩
end Go.Proofs.Ytfocpbknckmmaaa
namespace Lw
open Go Go.RowKit
theorem getD_at {l : List Int} {i : Nat} (h : i < l.length) : l.getD i 0 = l[i] := by rw [List.getD_eq_getElem?_getD, List.getElem?_eq_getElem h]; rfl
theorem getD_out {l : List Int} {i : Nat} (h : l.length ≤ i) : l.getD i 0 = 0 := by rw [List.getD_eq_getElem?_getD, List.getElem?_eq_none h]; rfl
/-- what trimL leaves -/
theorem trim_form (l : List Int) : ∀ k, k ≤ l.length → ∃ m, m ≤ k ∧ trimL (l.take k) = l.take m ∧ (∀ i, m ≤ i → i < k → l.getD i 0 = 0) ∧ (m = 0 ∨ l.getD (m - 1) 0 ≠ 0)
  | 0, _ => ⟨0, by omega, by simp [trim_nil], fun i h1 h2 => by omega, .inl rfl⟩
  | k + 1, h => by
    have hk : k < l.length := by omega
    rw [trim_take hk]
    by_cases h0 : l[k] = 0
    · obtain ⟨m, m1, m2, m3, m4⟩ := trim_form l k (by omega)
      refine ⟨m, by omega, by rw [if_pos h0, m2], fun i i1 i2 => ?_, m4⟩
      by_cases hi : i = k
      · subst hi; rw [getD_at hk]; exact h0
      · exact m3 i i1 (by omega)
    · exact ⟨k + 1, by omega, by rw [if_neg h0], fun i i1 i2 => by omega, .inr (by rw [Nat.add_sub_cancel, getD_at hk]; exact h0)⟩
theorem trim_is (l : List Int) : ∃ m, m ≤ l.length ∧ trimL l = l.take m ∧ (∀ i, m ≤ i → l.getD i 0 = 0) ∧ (m = 0 ∨ l.getD (m - 1) 0 ≠ 0) := by
  obtain ⟨m, m1, m2, m3, m4⟩ := trim_form l l.length (Nat.le_refl _)
  rw [List.take_length] at m2
  refine ⟨m, m1, m2, fun i i1 => ?_, m4⟩
  by_cases hi : i < l.length
  · exact m3 i i1 hi
  · exact getD_out (by omega)
theorem trim_getD (l : List Int) (i : Nat) : (trimL l).getD i 0 = l.getD i 0 := by
  obtain ⟨m, m1, m2, m3, _⟩ := trim_is l
  rw [m2]
  by_cases hi : i < m
  · rw [getD_at (l := l.take m) (by rw [List.length_take]; omega), getD_at (by omega : i < l.length), List.getElem_take]
  · rw [getD_out (by rw [List.length_take]; omega), m3 i (by omega)]
theorem trim_unique {l l' : List Int} (h : ∀ i, l.getD i 0 = l'.getD i 0) : trimL l = trimL l' := by
  obtain ⟨m, m1, m2, m3, m4⟩ := trim_is l
  obtain ⟨n, n1, n2, n3, n4⟩ := trim_is l'
  have e : m = n := by
    rcases Nat.lt_trichotomy m n with hl | he | hl
    · rcases n4 with h0 | h0
      · omega
      · exact absurd (by rw [← h]; exact m3 _ (by omega)) h0
    · exact he
    · rcases m4 with h0 | h0
      · omega
      · exact absurd (by rw [h]; exact n3 _ (by omega)) h0
  subst e
  rw [m2, n2]
  apply List.ext_getElem
  · simp; omega
  · intro i h1 h2
    rw [List.getElem_take, List.getElem_take]
    rw [List.length_take] at h1 h2
    have := h i
    rwa [getD_at (by omega), getD_at (by omega)] at this
theorem trim_trim (l : List Int) : trimL (trimL l) = trimL l := trim_unique (trim_getD l)
theorem trim_mem {l : List Int} {x : Int} (h : x ∈ trimL l) : x ∈ l := by
  obtain ⟨m, _, m2, _⟩ := trim_is l
  rw [m2] at h
  exact List.mem_of_mem_take h
theorem trim_len (l : List Int) : (trimL l).length ≤ l.length := by
  obtain ⟨m, _, m2, _⟩ := trim_is l
  rw [m2, List.length_take]; omega
theorem plusL_getD {p : Int} {a b : List Int} {κ : Int} {u : Nat} (i : Nat) : (plusL p a b κ u).getD i 0 = plusV p a b κ u i := by
  unfold plusL
  rw [trim_getD]
  by_cases hi : i < max a.length (b.length + u)
  · rw [getD_at (by simpa using hi)]; simp
  · rw [getD_out (by simp; omega)]
    unfold plusV
    rw [getD_out (by omega)]
    have : (if u ≤ i then b.getD (i - u) 0 else 0) = 0 := by
      split
      · exact getD_out (by omega)
      · rfl
    rw [this, Int.mul_zero, Int.add_zero, Int.zero_emod]
theorem plusL_bd {p : Int} (hp : 0 < p) {a b : List Int} {κ : Int} {u : Nat} : ∀ x ∈ plusL p a b κ u, 0 ≤ x ∧ x < p := by
  intro x hx
  obtain ⟨i, _, rfl⟩ := List.mem_map.1 (trim_mem hx)
  exact ⟨Int.emod_nonneg _ (by omega), Int.emod_lt_of_pos _ hp⟩
theorem plusL_len {p : Int} {a b : List Int} {κ : Int} {u : Nat} : (plusL p a b κ u).length ≤ max a.length (b.length + u) := by
  have := trim_len ((List.range (max a.length (b.length + u))).map (plusV p a b κ u))
  simpa [plusL] using this
/-- what has come after k rounds of Times -/
def timesK (p : Int) (a b : List Int) : Nat → List Int
  | 0 => []
  | k + 1 => plusL p (timesK p a b k) b (a.getD k 0) k
/-- the coefficient at place i after k terms -/
def convM (p : Int) (a b : List Int) (i : Nat) : Nat → Int
  | 0 => 0
  | k + 1 => (convM p a b i k + a.getD k 0 * (if k ≤ i then b.getD (i - k) 0 else 0)) % p
theorem timesK_getD {p : Int} {a b : List Int} (i : Nat) : ∀ k, (timesK p a b k).getD i 0 = convM p a b i k
  | 0 => rfl
  | k + 1 => by
    show (plusL p (timesK p a b k) b (a.getD k 0) k).getD i 0 = _
    rw [plusL_getD]
    unfold plusV convM
    rw [timesK_getD i k]
theorem timesK_bd {p : Int} (hp : 0 < p) {a b : List Int} : ∀ k, ∀ x ∈ timesK p a b k, 0 ≤ x ∧ x < p
  | 0 => fun _ h => by cases h
  | _ + 1 => plusL_bd hp
theorem timesK_len {p : Int} {a b : List Int} : ∀ k, (timesK p a b k).length ≤ b.length + k
  | 0 => Nat.zero_le _
  | k + 1 => by
    have h1 := plusL_len (p := p) (a := timesK p a b k) (b := b) (κ := a.getD k 0) (u := k)
    have h2 := timesK_len (p := p) (a := a) (b := b) k
    show (plusL p (timesK p a b k) b (a.getD k 0) k).length ≤ _
    omega
theorem timesK_trim {p : Int} {a b : List Int} : ∀ k, trimL (timesK p a b k) = timesK p a b k
  | 0 => rfl
  | _ + 1 => trim_trim _
theorem convM_bd {p : Int} (hp : 0 < p) {a b : List Int} {i : Nat} : ∀ k, 0 ≤ convM p a b i k ∧ convM p a b i k < p
  | 0 => ⟨Int.le_refl _, hp⟩
  | _ + 1 => ⟨Int.emod_nonneg _ (by omega), Int.emod_lt_of_pos _ hp⟩
theorem conv_stable {p : Int} (hp : 0 < p) {a b : List Int} {i k : Nat} (h : ∀ j, k ≤ j → a.getD j 0 * (if j ≤ i then b.getD (i - j) 0 else 0) = 0) : ∀ t, convM p a b i (k + t) = convM p a b i k
  | 0 => rfl
  | t + 1 => by
    show (convM p a b i (k + t) + a.getD (k + t) 0 * (if k + t ≤ i then b.getD (i - (k + t)) 0 else 0)) % p = _
    rw [h (k + t) (by omega), conv_stable hp h t, Int.add_zero, Int.emod_eq_of_lt (convM_bd hp k).1 (convM_bd hp k).2]
def mulK (p : Int) (a b : List Int) (K : Nat) : List Int := (List.range K).map fun i => convM p a b i (i + 1)
theorem mulK_succ (p : Int) (a b : List Int) (k : Nat) : mulK p a b (k + 1) = mulK p a b k ++ [convM p a b k (k + 1)] := by
  unfold mulK; rw [List.range_succ, List.map_append, List.map_singleton]
theorem mulK_length (p : Int) (a b : List Int) (k : Nat) : (mulK p a b k).length = k := by simp [mulK]
theorem mul_eq {p : Int} (hp : 0 < p) (a b : List Int) : trimL (mulK p a b (a.length + b.length - 1)) = timesK p a b a.length := by
  rw [← timesK_trim a.length]
  apply trim_unique
  intro i
  rw [timesK_getD]
  have s1 : ∀ j, a.length ≤ j → a.getD j 0 * (if j ≤ i then b.getD (i - j) 0 else 0) = 0 := fun j hj => by rw [getD_out hj, Int.zero_mul]
  by_cases hi : i < a.length + b.length - 1
  · rw [getD_at (by simpa [mulK] using hi)]
    simp only [mulK, List.getElem_map, List.getElem_range]
    have s2 : ∀ j, i + 1 ≤ j → a.getD j 0 * (if j ≤ i then b.getD (i - j) 0 else 0) = 0 := fun j hj => by rw [if_neg (by omega), Int.mul_zero]
    have h1 := conv_stable hp s1 (i + 1)
    have h2 := conv_stable hp s2 a.length
    rw [← h1, ← h2, Nat.add_comm]
  · rw [getD_out (by simp [mulK]; omega)]
    have s0 : ∀ j, 0 ≤ j → a.getD j 0 * (if j ≤ i then b.getD (i - j) 0 else 0) = 0 := fun j _ => by
      by_cases hj : j < a.length
      · by_cases hji : j ≤ i
        · rw [if_pos hji, getD_out (l := b) (by omega), Int.mul_zero]
        · rw [if_neg hji, Int.mul_zero]
      · exact s1 j (by omega)
    have := conv_stable hp s0 a.length
    rw [Nat.zero_add] at this
    rw [this]; rfl
end Lw
set_option linter.unusedVariables false
set_option linter.unusedSimpArgs false
namespace Go.Proofs.Ytfocpbknckmmaaa
open Go.RowKit
end Go.Proofs.Ytfocpbknckmmaaa
namespace Lw
open Go Go.RowKit
theorem inv_spec' {a m : Int} (hm : 0 < m) (hm2 : m ≤ 1048576) (ha : 0 ≤ a) (ha2 : a < m) (h : gcdI a m = 1) : invE a m = 0 ∧ invR a m * a % m = 1 % m ∧ 0 ≤ invR a m ∧ invR a m < m := by
  obtain ⟨e1, e2⟩ := invE_zero (a := a) (m := m) (by omega) h
  obtain ⟨g, x, h1, h2, _, h4⟩ := exists_step a m
  rw [h] at h1
  have hg : g = 1 := by have := h4 ha (by omega); unfold absI at h1; omega
  subst hg
  have h5 : x % m * a % m = 1 % m := by rw [mul_emod_left]; exact emod_of_dvd_sub h2
  have e3 := invI_eq (a := a) (Int.emod_nonneg x (by omega)) (Int.emod_lt_of_pos x hm) h5
  rw [e2, e3]
  exact ⟨e1, h5, Int.emod_nonneg x (by omega), Int.emod_lt_of_pos x hm⟩
theorem emod_q (x P : Int) : ∃ q, x % P = x - P * q := ⟨x / P, Int.emod_def x P⟩
theorem gcd_prime {p b : Int} (hp : primeB p = true) (b1 : 0 < b) (b2 : b < p) : gcdI b p = 1 := by
  have hp' : Prime p.toNat := by simpa [primeB] using hp
  have h1 : Nat.gcd p.toNat b.toNat = 1 := hp'.coprime (fun h => by have := Nat.le_of_dvd (by omega) h; omega)
  unfold gcdI
  rw [Int.gcd, show b.natAbs = b.toNat by omega, show p.natAbs = p.toNat by omega, Nat.gcd_comm, h1]; rfl
/-- the inverse of what is not 0 by a prime -/
theorem inv_prime {p b : Int} (hp : primeB p = true) (p2 : p ≤ 1048576) (b1 : 0 < b) (b2 : b < p) : invR b p * b % p = 1 % p ∧ 0 ≤ invR b p ∧ invR b p < p :=
  (inv_spec' (by omega) p2 (by omega) b2 (gcd_prime hp b1 b2)).2
/-- the k by which the top goes -/
def topK (p : Int) (li : Int) (r : List Int) : Int := r.getD (r.length - 1) 0 * li % p
/-- quotient and rest after j rounds -/
def ovN (p : Int) (a b : List Int) (li : Int) : Nat → List Int × List Int
  | 0 => ([], a)
  | j + 1 => (plusL p (ovN p a b li j).1 [1] (topK p li (ovN p a b li j).2) ((ovN p a b li j).2.length - b.length), plusL p (ovN p a b li j).2 b (-topK p li (ovN p a b li j).2) ((ovN p a b li j).2.length - b.length))
theorem topK_bd {p : Int} (hp : 0 < p) {li : Int} {r : List Int} : 0 ≤ topK p li r ∧ topK p li r < p := ⟨Int.emod_nonneg _ (by omega), Int.emod_lt_of_pos _ hp⟩
/-- a round takes the top away -/
theorem over_less {p li : Int} {r b : List Int} (hp : 2 ≤ p) (hb : 0 < b.length) (hr : b.length ≤ r.length) (hl : b.getD (b.length - 1) 0 * li % p = 1) (ht : ∀ x ∈ r, 0 ≤ x ∧ x < p) :
    (plusL p r b (-topK p li r) (r.length - b.length)).length < r.length := by
  have hN : max r.length (b.length + (r.length - b.length)) = r.length := by omega
  have h0 : plusV p r b (-topK p li r) (r.length - b.length) (r.length - 1) = 0 := by
    unfold plusV
    rw [if_pos (by omega), show r.length - 1 - (r.length - b.length) = b.length - 1 by omega]
    unfold topK
    generalize r.getD (r.length - 1) 0 = t at *
    generalize b.getD (b.length - 1) 0 = c at *
    obtain ⟨u, hu⟩ := emod_q (t * li) p
    obtain ⟨v, hv⟩ := emod_q (c * li) p
    rw [hu]
    rw [hv] at hl
    have : t + -(t * li - p * u) * c = 0 + p * (u * c - t * v) := by
      have : c * li = 1 + p * v := by omega
      have e : t * li * c = t * (c * li) := by grind
      grind
    rw [this, Int.add_mul_emod_self_left]; rfl
  unfold plusL
  rw [hN]
  obtain ⟨m, m1, m2, m3, m4⟩ := trim_is ((List.range r.length).map (plusV p r b (-topK p li r) (r.length - b.length)))
  rw [m2]
  simp only [List.length_map, List.length_range] at m1
  rw [List.length_take, List.length_map, List.length_range]
  have : m ≠ r.length := by
    intro e
    rcases m4 with h | h
    · omega
    · apply h
      rw [e, getD_at (by simp; omega)]
      simpa using h0
  omega
theorem ovN_bd {p : Int} (hp : 0 < p) {a b : List Int} {li : Int} (ha : ∀ x ∈ a, 0 ≤ x ∧ x < p) : ∀ j, (∀ x ∈ (ovN p a b li j).1, 0 ≤ x ∧ x < p) ∧ ∀ x ∈ (ovN p a b li j).2, 0 ≤ x ∧ x < p
  | 0 => ⟨fun _ h => by simp [ovN] at h, ha⟩
  | _ + 1 => ⟨plusL_bd hp, plusL_bd hp⟩
/-- what Over returns -/
def OvR (p : Int) (a b : List Int) (w : World) (e : Ending) (w' : World) : Prop :=
  ∃ (j : Nat) (C : Option Addr) (k g : Nat) (D : Option Addr) (l h : Nat), e = .returned (.tuple #[.slice C k g, .slice D l h]) ∧ Rd w' 1 C k (intsV .i64 (ovN p a b (invR (b.getD (b.length - 1) 0) p) j).1) ∧ Rd w' 1 D l (intsV .i64 (ovN p a b (invR (b.getD (b.length - 1) 0) p) j).2) ∧ l < b.length ∧ k ≤ a.length ∧ (∀ i, i < j → b.length ≤ (ovN p a b (invR (b.getD (b.length - 1) 0) p) i).2.length) ∧ Below w.heap.size w w'
end Lw
set_option linter.unusedVariables false
set_option linter.unusedSimpArgs false
namespace Go.Proofs.Ytfocpbknckmmaaa
open Go.RowKit
end Go.Proofs.Ytfocpbknckmmaaa
namespace Lw
open Go Go.RowKit
/-- a round of left at place i -/
def leftS (p : Int) (b : List Int) (li : Int) (R : List Int) (i : Nat) : List Int :=
  (List.range R.length).map fun x => if i + 1 - b.length ≤ x ∧ x ≤ i then (R.getD x 0 - R.getD i 0 * li % p * b.getD (x - (i + 1 - b.length)) 0) % p else R.getD x 0
def leftN (p : Int) (a b : List Int) (li : Int) : Nat → List Int
  | 0 => a
  | t + 1 => leftS p b li (leftN p a b li t) (a.length - 1 - t)
theorem leftS_length {p : Int} {b : List Int} {li : Int} {R : List Int} {i : Nat} : (leftS p b li R i).length = R.length := by simp [leftS]
theorem leftN_length {p : Int} {a b : List Int} {li : Int} : ∀ t, (leftN p a b li t).length = a.length
  | 0 => rfl
  | t + 1 => by show (leftS ..).length = _; rw [leftS_length, leftN_length t]
theorem leftS_getD {p : Int} {b : List Int} {li : Int} {R : List Int} {i : Nat} (hi : i < R.length) (x : Nat) :
    (leftS p b li R i).getD x 0 = if i + 1 - b.length ≤ x ∧ x ≤ i then (R.getD x 0 - R.getD i 0 * li % p * b.getD (x - (i + 1 - b.length)) 0) % p else R.getD x 0 := by
  by_cases hx : x < R.length
  · rw [getD_at (by rw [leftS_length]; exact hx)]
    simp [leftS]
  · rw [getD_out (by rw [leftS_length]; omega), if_neg (by omega), getD_out (by omega)]
theorem ovN_trim {p : Int} {a b : List Int} {li : Int} (ha : trimL a = a) : ∀ j, trimL (ovN p a b li j).2 = (ovN p a b li j).2
  | 0 => ha
  | _ + 1 => trim_trim _
/-- left follows Over -/
theorem left_sim {p : Int} {a b : List Int} {li : Int} (hinv : b.getD (b.length - 1) 0 * li % p = 1) (hp : 2 ≤ p) (ha : ∀ x ∈ a, 0 ≤ x ∧ x < p) (hm : 0 < b.length) (hnm : b.length ≤ a.length) :
    ∀ t, t ≤ a.length + 1 - b.length → ∃ j, (∀ x, (ovN p a b li j).2.getD x 0 = (leftN p a b li t).getD x 0) ∧ (ovN p a b li j).2.length ≤ a.length - t ∧ ∀ i, i < j → b.length ≤ (ovN p a b li i).2.length
  | 0, _ => ⟨0, fun _ => rfl, Nat.le_refl _, fun i hi => by omega⟩
  | t + 1, ht => by
    obtain ⟨j, h1, h2, h3⟩ := left_sim hinv hp ha hm hnm t (by omega)
    have hi : a.length - 1 - t < (leftN p a b li t).length := by rw [leftN_length]; omega
    have bT : ∀ x, 0 ≤ (ovN p a b li j).2.getD x 0 ∧ (ovN p a b li j).2.getD x 0 < p := getD_bd (by omega) (ovN_bd (by omega) ha j).2
    have bd : ∀ x, 0 ≤ (leftN p a b li t).getD x 0 ∧ (leftN p a b li t).getD x 0 < p := fun x => by rw [← h1]; exact bT x
    by_cases hl : (ovN p a b li j).2.length = a.length - t
    · refine ⟨j + 1, fun x => ?_, ?_, fun i hij => ?_⟩
      · show (plusL p (ovN p a b li j).2 b (-topK p li (ovN p a b li j).2) ((ovN p a b li j).2.length - b.length)).getD x 0 = (leftS p b li (leftN p a b li t) (a.length - 1 - t)).getD x 0
        rw [plusL_getD, leftS_getD hi]
        unfold plusV topK
        rw [hl, h1, h1, show a.length - t - 1 = a.length - 1 - t by omega, show a.length - 1 - t + 1 - b.length = a.length - t - b.length by omega]
        generalize (leftN p a b li t).getD (a.length - 1 - t) 0 * li % p = k
        by_cases c1 : a.length - t - b.length ≤ x
        · rw [if_pos c1]
          by_cases c2 : x ≤ a.length - 1 - t
          · rw [if_pos ⟨c1, c2⟩]; congr 1; grind
          · rw [if_neg (by omega), getD_out (l := b) (by omega), Int.mul_zero, Int.add_zero, Int.emod_eq_of_lt (bd x).1 (bd x).2]
        · rw [if_neg c1, if_neg (by omega), Int.mul_zero, Int.add_zero, Int.emod_eq_of_lt (bd x).1 (bd x).2]
      · have h4 := over_less (r := (ovN p a b li j).2) hp hm (by omega) hinv (ovN_bd (by omega) ha j).2
        show (plusL p (ovN p a b li j).2 b (-topK p li (ovN p a b li j).2) ((ovN p a b li j).2.length - b.length)).length ≤ _
        omega
      · by_cases hij' : i = j
        · subst hij'; omega
        · exact h3 i (by omega)
    · refine ⟨j, fun x => ?_, by omega, h3⟩
      show _ = (leftS p b li (leftN p a b li t) (a.length - 1 - t)).getD x 0
      rw [leftS_getD hi, h1]
      have z : (leftN p a b li t).getD (a.length - 1 - t) 0 = 0 := by rw [← h1]; exact getD_out (by omega)
      rw [z, Int.zero_mul, Int.zero_emod]
      split
      · rw [Int.zero_mul, Int.sub_zero, Int.emod_eq_of_lt (bd x).1 (bd x).2]
      · rfl
/-- what left leaves is Over's rest -/
theorem left_end {p : Int} {a b : List Int} {li : Int} {j : Nat} (hinv : b.getD (b.length - 1) 0 * li % p = 1) (hp : 2 ≤ p) (ha : ∀ x ∈ a, 0 ≤ x ∧ x < p) (hat : trimL a = a) (hm : 0 < b.length) (h1 : (ovN p a b li j).2.length < b.length)
    (h2 : ∀ i, i < j → b.length ≤ (ovN p a b li i).2.length) : trimL (leftN p a b li (a.length + 1 - b.length)) = (ovN p a b li j).2 := by
  rw [← ovN_trim hat j]
  apply trim_unique
  intro x
  by_cases hnm : b.length ≤ a.length
  · obtain ⟨i, k1, k2, k3⟩ := left_sim hinv hp ha hm hnm (a.length + 1 - b.length) (Nat.le_refl _)
    have : i = j := by
      rcases Nat.lt_trichotomy i j with h | h | h
      · have := h2 i h; omega
      · exact h
      · have := k3 j h; omega
    subst this
    exact (k1 x).symm
  · have hj : j = 0 := by
      rcases Nat.eq_zero_or_pos j with h | h
      · exact h
      · have := h2 0 h
        have e : (ovN p a b li 0).2 = a := rfl
        rw [e] at this; omega
    subst hj
    rw [show a.length + 1 - b.length = 0 by omega]; rfl
theorem trim_endZ {a : List Int} (h : endZ a = false) : trimL a = a := by
  obtain ⟨m, m1, m2, m3, _⟩ := trim_is a
  rw [m2]
  by_cases hm : m = a.length
  · rw [hm, List.take_length]
  · exfalso
    obtain ⟨k, hk⟩ : ∃ k, a.length = k + 1 := ⟨a.length - 1, by omega⟩
    obtain ⟨hl, e⟩ := endZ_last hk
    rw [e] at h
    have := m3 k (by omega)
    rw [getD_at hl] at this
    simp [this] at h
end Lw
namespace Lw
open Go Go.RowKit
theorem pow_inv {p x : Int} (hp : primeB p = true) (p2 : p ≤ 1048576) (x1 : 0 < x) (x2 : x < p) {e : Int} (he : e = p - 2 ∨ (p = 2 ∧ e = 1)) : pw x e p = invR x p := by
  obtain ⟨i1, i2, i3⟩ := inv_prime hp p2 x1 x2
  have hp' : Prime p.toNat := by simpa [primeB] using hp
  have hp2 : 2 ≤ p := by have := hp'.1; omega
  have hb := pw_bd x e p (by omega)
  refine inv_unique (a := x) (m := p) hb.1 hb.2 i2 i3 ?_ i1
  unfold pw
  rcases he with rfl | ⟨rfl, rfl⟩
  · obtain ⟨q, rfl⟩ := Int.eq_ofNat_of_zero_le (by omega : 0 ≤ p)
    obtain ⟨b, rfl⟩ := Int.eq_ofNat_of_zero_le (by omega : 0 ≤ x)
    rw [Int.toNat_natCast] at hp'
    have hd : ¬ q ∣ b := fun h => by have := Nat.le_of_dvd (by omega) h; omega
    have h1 : (b : Int) ^ (q - 1) % (q : Int) = 1 % (q : Int) := emod_of_dvd_sub (fermat hp' hd)
    rw [Int.mul_emod, Int.emod_emod_of_dvd _ (Int.dvd_refl _), ← Int.mul_emod, ← Int.pow_succ]
    rw [show ((q : Int) - 2).toNat.succ = q - 1 by omega]
    exact h1
  · have : x = 1 := by omega
    subst this
    decide
end Lw
set_option linter.unusedVariables false
set_option linter.unusedSimpArgs false
namespace Go.Proofs.Ytfocpbknckmmaaa
open Go.RowKit
theorem ref_inverse (x p : Int) (w : World) (hp : Lw.primeB p = true) (p2 : p ≤ 1048576) (x1 : 0 < x) (x2 : x < p) :
    Calls Try.prog 46 #[.int .i64 x, .int .i64 p] w fun e w' => e = .returned (.int .i64 (Lw.invR x p)) ∧ w = w' := by
  have hp1 : 2 ≤ p := by
    have hp' : Lw.Prime p.toNat := by simpa [Lw.primeB] using hp
    have := hp'.1; omega
  have p0 : ¬ p = 0 := by omega
  by_cases h : p = 2
  · subst h
    have E := Lib.hid (Lw.pow_inv hp p2 x1 x2 (e := 1) (.inr ⟨rfl, rfl⟩))
    have PW := Lib.hid (fun w => ref_Pow ((1 : Int).toNat) x 1 2 w (Nat.le_refl _) (by omega) (by omega) (by omega) (by omega))
    clear hp
    go_enter Try.func46, Try.ntmps46
    go_wp2_with (go_at_call 58; (with_reducible refine (PW.out _).mono ?_); rintro e w' ⟨rfl, rfl⟩)
    go_ret
    exact ⟨Lw.ret_int E.out, rfl⟩
  · have E := Lib.hid (Lw.pow_inv hp p2 x1 x2 (e := p - 2) (.inl rfl))
    have PW := Lib.hid (fun w => ref_Pow ((p - 2).toNat) x (p - 2) p w (Nat.le_refl _) (by omega) (by omega) (by omega) (by omega))
    have q : (2 : Int).tdiv p = 0 := by rw [Int.tdiv_eq_ediv_of_nonneg (by omega)]; exact Int.ediv_eq_zero_of_lt (by omega) (by omega)
    clear hp h
    go_enter Try.func46, Try.ntmps46
    go_wp2_with (go_at_call 58; (with_reducible refine (PW.out _).mono ?_); rintro e w' ⟨rfl, rfl⟩)
    go_ret
    exact ⟨Lw.ret_int E.out, rfl⟩
end Go.Proofs.Ytfocpbknckmmaaa
namespace Lw
open Go Go.RowKit
def hornV (p : Int) (zs : List Int) (x : Int) : Int := zs.foldr (fun k y => (y * x + k) % p) 0
def evalI (zs : List Int) (x : Int) : Int := zs.foldr (fun k y => y * x + k) 0
def valS (p : Int) (zs : List Int) (x : Int) : Nat → Int
  | 0 => 0
  | k + 1 => (valS p zs x k + zs.getD k 0 * pw x (k : Int) p) % p
def sumI (zs : List Int) (x : Int) : Nat → Int
  | 0 => 0
  | k + 1 => sumI zs x k + zs.getD k 0 * x ^ k
theorem sumI_cons (z : Int) (zs : List Int) (x : Int) : ∀ k, sumI (z :: zs) x (k + 1) = z + x * sumI zs x k
  | 0 => by simp [sumI]
  | k + 1 => by
    show sumI (z :: zs) x (k + 1) + (z :: zs).getD (k + 1) 0 * x ^ (k + 1) = z + x * (sumI zs x k + zs.getD k 0 * x ^ k)
    rw [sumI_cons z zs x k, List.getD_cons_succ, Int.pow_succ]
    grind
theorem sumI_all (x : Int) : ∀ zs : List Int, sumI zs x zs.length = evalI zs x
  | [] => rfl
  | z :: zs => by
    show sumI (z :: zs) x (zs.length + 1) = evalI zs x * x + z
    rw [sumI_cons, sumI_all x zs]; grind
theorem horn_eval (p x : Int) : ∀ zs : List Int, hornV p zs (x % p) = evalI zs x % p
  | [] => by simp [hornV, evalI]
  | z :: zs => by
    show (hornV p zs (x % p) * (x % p) + z) % p = (evalI zs x * x + z) % p
    rw [horn_eval p x zs, Int.add_emod, ← Int.mul_emod, ← Int.add_emod]
theorem valS_sum (p : Int) (zs : List Int) (x : Int) : ∀ k, valS p zs x k = sumI zs x k % p
  | 0 => by simp [valS, sumI]
  | k + 1 => by
    show (valS p zs x k + zs.getD k 0 * pw x (k : Int) p) % p = (sumI zs x k + zs.getD k 0 * x ^ k) % p
    rw [valS_sum p zs x k]
    unfold pw
    rw [Int.toNat_natCast, Int.add_emod (sumI zs x k % p), Int.emod_emod_of_dvd _ (Int.dvd_refl p), Int.mul_emod (zs.getD k 0), Int.emod_emod_of_dvd _ (Int.dvd_refl p), ← Int.mul_emod, ← Int.add_emod]
theorem val_eq (p : Int) (zs : List Int) (x : Int) : valS p zs x zs.length = hornV p zs (x % p) := by rw [valS_sum, sumI_all, horn_eval]
theorem valS_bd {p : Int} (hp : 0 < p) {zs : List Int} {x : Int} : ∀ k, 0 ≤ valS p zs x k ∧ valS p zs x k < p
  | 0 => ⟨Int.le_refl _, hp⟩
  | _ + 1 => ⟨Int.emod_nonneg _ (by omega), Int.emod_lt_of_pos _ hp⟩
/-- a number that may be -/
abbrev NumG (p : Int) := { z : Int // 0 ≤ z ∧ z < p }
def numsG (p : Int) (zs : List Int) (h : ∀ z ∈ zs, 0 ≤ z ∧ z < p) : List (NumG p) := zs.pmap (fun z h => ⟨z, h⟩) h
theorem numsG_map (p : Int) (zs : List Int) (h) : (numsG p zs h).map (fun a => a.1) = zs := by unfold numsG; rw [List.map_pmap]; simp
def stV {p : Int} (x : Int) (pre : List (Nat × NumG p)) : Int := pre.foldl (fun y z => (y * x + z.2.1) % p) 0
theorem stV_snoc {p x : Int} (pre : List (Nat × NumG p)) (z : Nat × NumG p) : stV x (pre ++ [z]) = (stV x pre * x + z.2.1) % p := by simp [stV]
theorem stV_bd {p x : Int} (hp : 0 < p) (pre : List (Nat × NumG p)) : 0 ≤ stV x pre ∧ stV x pre < p := by
  unfold stV
  have : ∀ (pre : List (Nat × NumG p)) (y : Int), 0 ≤ y ∧ y < p → 0 ≤ pre.foldl (fun y z => (y * x + z.2.1) % p) y ∧ pre.foldl (fun y z => (y * x + z.2.1) % p) y < p := by
    intro pre
    induction pre with
    | nil => intro y h; exact h
    | cons z pre ih => intro y _; exact ih _ ⟨Int.emod_nonneg _ (by omega), Int.emod_lt_of_pos _ hp⟩
  exact this pre 0 ⟨Int.le_refl _, hp⟩
theorem stV_all {p x : Int} (zs : List Int) (h) : stV x (bks (numsG p zs h) 0) = hornV p zs x := by
  have e : ∀ (l : List (Nat × NumG p)) (y : Int), l.foldl (fun y z => (y * x + z.2.1) % p) y = (l.map (fun z => z.2.1)).foldl (fun y z => (y * x + z) % p) y := by
    intro l
    induction l with
    | nil => intro y; rfl
    | cons z l ih => intro y; simp only [List.foldl_cons, List.map_cons]; exact ih _
  unfold stV
  rw [e]
  have e2 : (bks (numsG p zs h) 0).map (fun z => z.2.1) = zs.reverse := by
    have := congrArg (List.map (fun a : NumG p => a.1)) (bks_snd (numsG p zs h))
    rw [List.map_map, List.map_reverse, numsG_map] at this
    exact this
  rw [e2, List.foldl_reverse]
  rfl
end Lw
namespace Go.Proofs.Ytfocpbknckmmaaa
open Go.RowKit Go.Shelf
attribute [local go_sem] Oper.semAt_some
set_option maxRecDepth 100000 in
set_option maxHeartbeats 2000000 in
theorem bkw_longs_run {α : Type} (enc : α → Value) (xs : List α) (Bs Ba len cap : Nat) (ad : Addr) (hl : xs.length = len) (hlen : len ≤ 1048576) (hBa : ad.block = Ba) (n l : Nat) (hn : 1 ≤ n) (J Jx : List (Nat × α) → World → Prop)
    (hY : ∀ pre x W, J pre W → pre.length < len → YieldAt Fence.wide (n - 1) Try.prog l #[.int .i64 (x.1 : Int), enc x.2] W fun e W' =>
      (e = .returned (.bool true) ∧ J (pre ++ [x]) W' ∧ Lw.KB Bs Ba W W') ∨ (e = .returned (.bool false) ∧ Jx (pre ++ [x]) W'))
    (W : World) (hBs : W.cell? ⟨Bs, 0, none⟩ = some (.slice (some ad) len cap)) (hc : ∀ j (h : j < xs.length), W.cell? (ad.add j) = some (enc xs[j])) (h0 : J [] W) :
    CallsIn Fence.wide n Try.prog 91 #[.func (.yield l) #[] #[], .pointer (some ⟨Bs, 0, none⟩)] W fun e W' => (∃ v, e = .returned v) ∧
      ((∃ ys, ys = Lw.bks xs 0 ∧ J ys W') ∨ (∃ pre, (∃ m, m ≤ len ∧ pre = Lw.bks xs m) ∧ Jx pre W')) := by
  refine callsIn_of_wp Try.func91 rfl trivial ?_ rfl
  simp only [Try.ntmps91, List.size_toArray, List.length_cons, List.length_nil, Nat.reduceAdd, Nat.reduceSub, Array.replicate_succ, Array.replicate_zero, List.push_toArray, List.append_toArray, List.nil_append, List.cons_append]
  gi_wp2
  gi_loopw [3] (fun i wr => ∃ m : Nat, m ≤ len ∧ i = .int .i64 ((m : Int) - 1) ∧ J (Lw.bks xs m) wr ∧ Lw.KB Bs Ba W wr) (fun i _ => (intOf i + 1).toNat)
  case atStart => exact ⟨len, Nat.le_refl _, by go_num, by rw [← hl, Lw.bks_top]; exact h0, Lw.KB.refl _ _ _⟩
  case round =>
    obtain ⟨m, hm, rfl, hJs, hk⟩ := hrel
    have hBs2 := (hk.cells ⟨Bs, 0, none⟩ (.inl rfl)).trans hBs
    cases m with
    | zero =>
      gi_wp2
      go_end0
      exact ⟨⟨_, rfl⟩, .inl ⟨_, rfl, hJs⟩⟩
    | succ m =>
      have hmx : m < xs.length := by omega
      have hcx := (hk.cells (ad.add m) (.inr (by rw [Lw.add_block]; exact hBa))).trans (hc m hmx)
      have hi : ((m + 1 : Nat) : Int) - 1 = (m : Int) := by omega
      rw [hi]
      obtain ⟨fn, tmps, assign, body, hy, hR⟩ := hY _ (m, xs[m]) wr hJs (by rw [Lw.bks_length]; omega)
      dsimp only at hy
      obtain ⟨v, hv⟩ : ∃ v, enc xs[m] = v := ⟨_, rfl⟩
      rw [hv] at hcx hy
      have hml : (m : Int) < (len : Int) := by omega
      clear hv hc
      gi_wp2
      refine hR.mono ?_
      rintro e W3 (⟨rfl, hJ3, hk3⟩ | ⟨rfl, hJx3⟩)
      · gi_wp2
        go_roundw
        case rel => exact ⟨m, by omega, by go_num, by rw [Lw.bks_succ hmx]; exact hJ3, hk.trans hk3⟩
        case measure => simp [intOf] <;> omega
      · gi_wp2
        refine bodyPost_ret (results_none rfl _ _ _) rfl ?_
        exact ⟨⟨_, rfl⟩, .inr ⟨_, ⟨m, by omega, (Lw.bks_succ hmx).symm⟩, hJx3⟩⟩
set_option maxRecDepth 100000 in
theorem bkw_longs_nil {α : Type} (Bs : Nat) (n l : Nat) (J : List (Nat × α) → World → Prop) (W : World) (A : Option Addr) (cap : Nat) (hBs : W.cell? ⟨Bs, 0, none⟩ = some (.slice A 0 cap)) (h0 : J [] W) :
    CallsIn Fence.wide n Try.prog 91 #[.func (.yield l) #[] #[], .pointer (some ⟨Bs, 0, none⟩)] W fun e W' => (∃ v, e = .returned v) ∧ J [] W' := by
  refine callsIn_of_wp Try.func91 rfl trivial ?_ rfl
  simp only [Try.ntmps91, List.size_toArray, List.length_cons, List.length_nil, Nat.reduceAdd, Nat.reduceSub, Array.replicate_succ, Array.replicate_zero, List.push_toArray, List.append_toArray, List.nil_append, List.cons_append]
  gi_wp2
  gi_loopw [3] (fun i wr => i = .int .i64 (-1) ∧ J [] wr) (fun _ _ => 0)
  case atStart => exact ⟨by first | rfl | go_num, h0⟩
  case round =>
    obtain ⟨rfl, hJs⟩ := hrel
    gi_wp2
    go_end0
    exact ⟨⟨_, rfl⟩, hJs⟩
theorem bkw_longs_stops {α : Type} (enc : α → Value) (xs : List α) (Bs Ba len cap : Nat) (A : Option Addr) (hlen : len ≤ 1048576) (n : Nat) (hn : 1 ≤ n) (w : World) (hBs : Bs < w.heap.size) (hBa : Ba < w.heap.size)
    (hs : w.cell? ⟨Bs, 0, none⟩ = some (.slice A len cap)) (R : Lw.Rd w 1 A len (xs.map enc)) (hA : 0 < len → ∀ ad, A = some ad → ad.block = Ba) :
    SeqStopsK Fence.wide n Try.prog 91 #[.pointer (some ⟨Bs, 0, none⟩)] (fun x : Nat × α => #[Value.int .i64 (x.1 : Int), enc x.2]) (Lw.KB Bs Ba) (fun ys => ys = Lw.bks xs 0)
      (fun pre => ∃ m, m ≤ len ∧ pre = Lw.bks xs m) len w := fun l J Jx W hW _ _ hY h0 => by
  have hs' := (hW.cell (p := ⟨Bs, 0, none⟩) hBs).trans hs
  have hl : xs.length = len := by have := R.1; simpa using this
  rcases Nat.eq_zero_or_pos len with rfl | hp
  · have hx : xs = [] := List.eq_nil_of_length_eq_zero hl
    subst hx
    exact (bkw_longs_nil Bs n l J W A cap hs' h0).mono fun e W' ⟨he, hj⟩ => ⟨he, .inl ⟨_, rfl, hj⟩⟩
  · obtain ⟨ad, rfl, _, hc⟩ := R.2 hp
    exact bkw_longs_run enc xs Bs Ba len cap ad hl hlen (hA hp ad rfl) n l hn J Jx hY W hs' (fun j hj => (hW.cell (p := ad.add j) (by rw [Lw.add_block, hA hp ad rfl]; exact hBa)).trans (hc j _ (by simp [hj]))) h0
theorem bkw_longs (A : Option Addr) (len cap : Nat) (w : World) :
    Calls Try.prog 77 #[.slice A len cap] w fun e w' => e = .returned (.func (.func 91) #[] #[.pointer (some ⟨w.heap.size, 0, none⟩)]) ∧ w.alloc (.cells #[.slice A len cap] 23) = w' := by
  go_enter Try.func77, Try.ntmps77
  go_wp2
  go_ret
  exact ⟨rfl, rfl⟩

set_option maxRecDepth 100000 in
set_option maxHeartbeats 4000000 in
theorem poly_Value (p : Int) (A : Option Addr) (n c : Nat) (zs : List Int) (x : Int) (w : World) (R : Lw.Rd w 1 A n (Lw.intsV .i64 zs)) (hz : ∀ z ∈ zs, 0 ≤ z ∧ z < p) (p1 : 2 ≤ p) (p2 : p ≤ 251) (hn : n ≤ 4096) (x1 : 0 ≤ x) (x2 : x < p) :
    Calls Try.prog 65 #[.int .i64 p, .slice A n c, .int .i64 x] w fun e w' => e = .returned (.int .i64 (Lw.hornV p zs x)) ∧ Below w.heap.size w w' := by
  have RR := Lib.hid R
  refine (callsIn_wide (n := 4)).1 ?_
  refine callsIn_of_wp_marks Try.func65 rfl trivial ?_ rfl
  simp only [Try.ntmps65, List.size_toArray, List.length_cons, List.length_nil, Nat.reduceAdd, Nat.reduceSub, Array.replicate_succ, Array.replicate_zero, List.push_toArray, List.append_toArray, List.nil_append, List.cons_append]
  gi_wp2_with (refine ⟨trivial, ?_⟩; gi_at_call 77; refine (callsIn_wide.2 (bkw_longs _ _ _ _)).mono ?_; rintro e w' ⟨rfl, rfl⟩)
  have hB4 : Below w.heap.size w ((((w.alloc (.cells #[.int .i64 p] 2)).alloc (.cells #[.int .i64 x] 2)).alloc (.cells #[.int .i64 0] 2)).alloc (.cells #[.slice A n c] 23)) := Lw.balloc (Lw.balloc (Lw.balloc (Lw.balloc (Below.refl _ _) _) _) _) _
  obtain ⟨Ba, hBa, hA⟩ : ∃ Ba, Ba < w.heap.size + 4 ∧ (0 < n → ∀ ad, A = some ad → ad.block = Ba) ∧ (0 < n → Ba < w.heap.size) ∧ (n = 0 → Ba = w.heap.size + 3) := by
    rcases Nat.eq_zero_or_pos n with h0 | hp
    · exact ⟨w.heap.size + 3, by omega, fun h => by omega, fun h => by omega, fun _ => rfl⟩
    · obtain ⟨ad, rfl, hb, _⟩ := R.2 hp
      exact ⟨ad.block, by omega, fun _ ad' e => by injection e with e; rw [e], fun _ => hb, fun h => by omega⟩
  obtain ⟨hA, hBl, hB0⟩ := hA
  have bP := Boxed.new w 2 (.int .i64 p)
  have bX := Boxed.new (w.alloc (.cells #[.int .i64 p] 2)) 2 (.int .i64 x)
  have bY := Boxed.new ((w.alloc (.cells #[.int .i64 p] 2)).alloc (.cells #[.int .i64 x] 2)) 2 (.int .i64 0)
  rw [World.size_alloc] at bX
  rw [World.size_alloc, World.size_alloc] at bY
  have hcS := Lw.blk_cell (Lw.blk_new (((w.alloc (.cells #[.int .i64 p] 2)).alloc (.cells #[.int .i64 x] 2)).alloc (.cells #[.int .i64 0] 2)) #[.slice A n c] 23) 0
  simp at hcS
  have ST := Lib.hid (fun pre => Lw.stV_bd (x := x) (by omega : 0 < p) pre)
  refine wpIn_rangeFunc_ownG rfl (by omega) (gf := 91) (lb := #[.pointer (some ⟨w.heap.size + 1 + 1 + 1, 0, none⟩)]) rfl trivial (enters_of Try.func91 (by kernel_rfl) rfl)
    (bkw_longs_stops (fun a : Lw.NumG p => .int .i64 a.1) (Lw.numsG p zs hz) (w.heap.size + 1 + 1 + 1) Ba n c A (by omega) _ (by omega) _ (by simp) (by simp; omega) hcS
      ((show Lw.Rd w 1 A n ((Lw.numsG p zs hz).map (fun a => Value.int .i64 a.1)) from by
        have e : (Lw.numsG p zs hz).map (fun a => Value.int .i64 a.1) = Lw.intsV .i64 zs := by
          have := congrArg (List.map (Value.int .i64)) (Lw.numsG_map p zs hz)
          rw [List.map_map] at this; exact this
        rw [e]; exact RR.out).below (Nat.le_refl _) hB4) hA) Lw.KB.trans (Lw.KB.put (by simp) (by simp; omega)) (Below.refl _ _) (fun _ => rfl)
    (fun pre W => (W.cell? ⟨w.heap.size, 0, none⟩ = some (.int .i64 p) ∧ W.cell? ⟨w.heap.size + 1, 0, none⟩ = some (.int .i64 x) ∧ W.cell? ⟨w.heap.size + 1 + 1, 0, none⟩ = some (.int .i64 (Lw.stV x pre)) ∧ W.frozen? ⟨w.heap.size + 1 + 1, 0, none⟩ = false) ∧ Below w.heap.size w W)
    (fun _ _ _ => False)
    (OwnFrom.and (Own.from (fun s A B row hs hg hr => ⟨cell_kept hs.1 hg hr, cell_kept hs.2.1 hg hr, cell_kept hs.2.2.1 hg hr, (frozen_kept hs.2.2.1 hg hr).trans hs.2.2.2⟩) _) (ownFrom_below (Nat.le_refl _) (by simp; omega)))
    (fun _ _ _ _ _ hs _ _ => hs)
    ⟨⟨(((bP.alloc _).alloc _).alloc _).cell, ((bX.alloc _).alloc _).cell, (bY.alloc _).cell, (bY.alloc _).frozen⟩, hB4⟩
    (fun z => { tmps := #[.int .i64 p, .slice A n c, .int .i64 x, .pointer (some ⟨w.heap.size, 0, none⟩), undef, .pointer (some ⟨w.heap.size + 1, 0, none⟩), .int .i64 0, .pointer (some ⟨w.heap.size + 1 + 1, 0, none⟩), undef, .int .i64 z.2.1, .slice A n c, .func (.func 91) #[] #[.pointer (some ⟨w.heap.size + 1 + 1 + 1, 0, none⟩)], .int .i64 (z.1 : Int), .int .i64 z.2.1, undef, undef, undef, undef, undef, undef, undef, undef], defers := [] }) ?assign ?body ?done ?stop
  case assign =>
    intro l x W K hK
    gi_wp2
    exact hK
  case body =>
    rintro l pre ⟨i, z, z1, z2⟩ W ⟨⟨cP, cX, cY, fY⟩, hB⟩ hlen
    obtain ⟨y1, y2⟩ := ST.out pre
    have F1 := Lw.stV_snoc (x := x) pre (i, (⟨z, z1, z2⟩ : Lw.NumG p))
    obtain ⟨y, hy⟩ : ∃ y, Lw.stV x pre = y := ⟨_, rfl⟩
    rw [hy] at F1 cY y1 y2
    obtain ⟨m1, m2⟩ := Lw.mul_ab (κ := y) (x := x) (by omega) (by omega) x1 (by omega)
    have m3 : 0 ≤ y * x := Int.mul_nonneg y1 x1
    have e1 : IntKind.i64.wrap (y * x) = y * x := by rw [IntKind.wrap_i64]; omega
    have e2 : IntKind.i64.wrap (y * x + z) = y * x + z := by rw [IntKind.wrap_i64]; omega
    have e3 : (y * x + z).tmod p = (y * x + z) % p := Int.tmod_eq_emod_of_nonneg (by omega)
    have p0 : ¬ p = 0 := by omega
    have F1 := Lib.hid F1
    have hn0 : 0 < n := by omega
    have hbl := hBl hn0
    clear hy
    gi_wp2
    refine ⟨(KeepsOthers.setCell _ _ _).from _, ⟨Below.heap_setCell _ _ _ _ (by show w.heap.size + 1 + 1 + 1 ≠ w.heap.size + 1 + 1; omega), Below.heap_setCell _ _ _ _ (by show Ba ≠ w.heap.size + 1 + 1; omega)⟩, ⟨?_, ?_, ?_, ?_⟩, hB.setCell (p := ⟨w.heap.size + 1 + 1, 0, none⟩) (by show w.heap.size ≤ w.heap.size + 1 + 1; omega) _⟩
    · rw [World.cell?_setCell_far _ _ _ _ (by show w.heap.size + 1 + 1 ≠ w.heap.size; omega)]; exact cP
    · rw [World.cell?_setCell_far _ _ _ _ (by show w.heap.size + 1 + 1 ≠ w.heap.size + 1; omega)]; exact cX
    · rw [F1.out]; exact World.cell?_setCell_same' _ _ _ (by rw [cY]; rfl)
    · rw [World.frozen?_setCell]; exact fY
  case done =>
    rintro D ys W hD rfl ⟨⟨cP, cX, cY, fY⟩, hB⟩ hK
    rw [Lw.stV_all] at cY
    gi_wp2
    refine ⟨by simp, .inl ⟨_, _, rfl, run_takeDeferred hK, ?_⟩⟩
    exact ⟨_, results_tmp rfl _ _ _, rfl, hB.trans (belowK_b (w := w) (Nat.le_refl _) W D _ _ (by simp at hD; omega) hK rfl rfl)⟩
  case stop =>
    rintro D c pre W _ _ h _
    exact h.elim
end Go.Proofs.Ytfocpbknckmmaaa
namespace Lw
def sumC (f : Nat → Int) (x : Int) : Nat → Int
  | 0 => 0
  | k + 1 => sumC f x k + f k * x ^ k
theorem sumI_C (zs : List Int) (x : Int) : ∀ k, sumI zs x k = sumC (fun i => zs.getD i 0) x k
  | 0 => rfl
  | k + 1 => by show sumI zs x k + _ = sumC _ x k + _; rw [sumI_C zs x k]
theorem sumC_long {f : Nat → Int} {x : Int} {k : Nat} (h : ∀ i, k ≤ i → f i = 0) : ∀ t, sumC f x (k + t) = sumC f x k
  | 0 => rfl
  | t + 1 => by show sumC f x (k + t) + f (k + t) * _ = _; rw [sumC_long h t, h (k + t) (by omega)]; simp
theorem eval_C {zs : List Int} {x : Int} {N : Nat} (h : zs.length ≤ N) : evalI zs x = sumC (fun i => zs.getD i 0) x N := by
  obtain ⟨t, rfl⟩ : ∃ t, N = zs.length + t := ⟨N - zs.length, by omega⟩
  rw [sumC_long (fun i hi => getD_out hi) t, ← sumI_C, sumI_all]
theorem sumC_mod {f g : Nat → Int} {p x : Int} (h : ∀ i, f i % p = g i % p) : ∀ k, sumC f x k % p = sumC g x k % p
  | 0 => rfl
  | k + 1 => by
    show (sumC f x k + f k * x ^ k) % p = (sumC g x k + g k * x ^ k) % p
    rw [Int.add_emod, sumC_mod h k, Int.mul_emod, h k, ← Int.mul_emod, ← Int.add_emod]
theorem sumC_lin (f g : Nat → Int) (κ x : Int) : ∀ k, sumC (fun i => f i + κ * g i) x k = sumC f x k + κ * sumC g x k
  | 0 => by simp [sumC]
  | k + 1 => by
    show sumC (fun i => f i + κ * g i) x k + (f k + κ * g k) * x ^ k = sumC f x k + f k * x ^ k + κ * (sumC g x k + g k * x ^ k)
    rw [sumC_lin f g κ x k]; grind
theorem sumC_shift (g : Nat → Int) (x : Int) (u : Nat) : ∀ k, sumC (fun i => if u ≤ i then g (i - u) else 0) x (u + k) = x ^ u * sumC g x k
  | 0 => by
    have : ∀ v, v ≤ u → sumC (fun i => if u ≤ i then g (i - u) else 0) x v = 0 := by
      intro v
      induction v with
      | zero => intro _; rfl
      | succ v ih => intro hv; show sumC _ x v + (if u ≤ v then _ else _) * _ = 0; rw [ih (by omega), if_neg (by omega)]; simp
    rw [Nat.add_zero, this u (Nat.le_refl _)]; simp [sumC]
  | k + 1 => by
    show sumC _ x (u + k) + (if u ≤ u + k then g (u + k - u) else 0) * x ^ (u + k) = x ^ u * (sumC g x k + g k * x ^ k)
    rw [sumC_shift g x u k, if_pos (by omega), show u + k - u = k by omega, Int.pow_add]; grind
theorem eval_plus (p : Int) (a b : List Int) (κ : Int) (u : Nat) (x : Int) : evalI (plusL p a b κ u) x % p = (evalI a x + κ * (x ^ u * evalI b x)) % p := by
  have hl := plusL_len (p := p) (a := a) (b := b) (κ := κ) (u := u)
  rw [eval_C (N := u + (a.length + b.length)) (by omega), eval_C (zs := a) (N := u + (a.length + b.length)) (by omega), eval_C (zs := b) (N := a.length + b.length) (by omega), ← sumC_shift, ← sumC_lin]
  refine sumC_mod (fun i => ?_) _
  rw [plusL_getD]
  unfold plusV
  rw [Int.emod_emod_of_dvd _ (Int.dvd_refl p)]
theorem eval_timesK (p : Int) (a b : List Int) (x : Int) : ∀ k, evalI (timesK p a b k) x % p = (sumC (fun i => a.getD i 0) x k * evalI b x) % p
  | 0 => by simp [timesK, evalI, sumC]
  | k + 1 => by
    show evalI (plusL p (timesK p a b k) b (a.getD k 0) k) x % p = ((sumC _ x k + a.getD k 0 * x ^ k) * evalI b x) % p
    rw [eval_plus, Int.add_emod, eval_timesK p a b x k, ← Int.add_emod]
    congr 1; grind
theorem eval_times (p : Int) (a b : List Int) (x : Int) : evalI (timesK p a b a.length) x % p = (evalI a x * evalI b x) % p := by
  rw [eval_timesK, eval_C (zs := a) (Nat.le_refl _)]
theorem eval_trim (l : List Int) (x : Int) : evalI (trimL l) x = evalI l x := by
  rw [eval_C (trim_len l), eval_C (zs := l) (Nat.le_refl _)]
  congr 1; funext i; exact trim_getD l i
theorem times_short {p : Int} {a b : List Int} : ∀ k, (timesK p a b k).length ≤ b.length + k - 1
  | 0 => Nat.zero_le _
  | k + 1 => by
    have h1 := plusL_len (p := p) (a := timesK p a b k) (b := b) (κ := a.getD k 0) (u := k)
    have h2 := times_short (p := p) (a := a) (b := b) k
    show (plusL p (timesK p a b k) b (a.getD k 0) k).length ≤ _
    omega
theorem eval_two (c k x : Int) : evalI [c, k] x = k * x + c := by simp [evalI]
theorem pri_mul {P a b : Int} (hp : primeB P = true) (h : (a * b) % P = 0) : a % P = 0 ∨ b % P = 0 := by
  have hp' : Prime P.toNat := by simpa [primeB] using hp
  have h2 := hp'.1
  have h3 : P.toNat ∣ a.natAbs * b.natAbs := by
    rw [← Int.natAbs_mul]
    have := Int.natAbs_dvd_natAbs.2 (Int.dvd_of_emod_eq_zero h)
    rwa [show P.natAbs = P.toNat by omega] at this
  rcases hp'.dvd_mul h3 with h4 | h4
  · exact .inl (Int.emod_eq_zero_of_dvd (Int.natAbs_dvd_natAbs.1 (by rwa [show P.natAbs = P.toNat by omega])))
  · exact .inr (Int.emod_eq_zero_of_dvd (Int.natAbs_dvd_natAbs.1 (by rwa [show P.natAbs = P.toNat by omega])))
/-! a polynomial has no more roots than places -/
def quo (c : Int) : List Int → List Int
  | [] => []
  | _ :: M => match M with
    | [] => []
    | _ :: _ => evalI M c :: quo c M
theorem quo_len (c : Int) : ∀ L, (quo c L).length = L.length - 1
  | [] => rfl
  | [_] => rfl
  | _ :: b :: M => by
    show (quo c (b :: M)).length + 1 = _
    rw [quo_len c (b :: M)]; simp
theorem eval_cons (a : Int) (M : List Int) (x : Int) : evalI (a :: M) x = evalI M x * x + a := rfl
theorem quo_eval (c x : Int) : ∀ L, evalI L x = (x - c) * evalI (quo c L) x + evalI L c
  | [] => by simp [quo, evalI]
  | [a] => by simp [quo, evalI]
  | a :: b :: M => by
    have ih := quo_eval c x (b :: M)
    show evalI (b :: M) x * x + a = (x - c) * (evalI (quo c (b :: M)) x * x + evalI (b :: M) c) + (evalI (b :: M) c * c + a)
    rw [ih]; grind
theorem quo_dvd {p c : Int} : ∀ L, (∀ z ∈ quo c L, z % p = 0) → evalI L c % p = 0 → ∀ z ∈ L, z % p = 0
  | [], _, _, _, hz => by cases hz
  | [a], _, h, z, hz => by
    simp at hz; subst hz
    simpa [evalI] using h
  | a :: b :: M, hq, h, z, hz => by
    have h1 : evalI (b :: M) c % p = 0 := hq _ (List.mem_cons_self ..)
    have h2 := quo_dvd (p := p) (c := c) (b :: M) (fun z hz => hq z (List.mem_cons_of_mem _ hz)) h1
    rcases List.mem_cons.1 hz with rfl | hz
    · rw [eval_cons, Int.add_emod, Int.mul_emod, h1] at h
      simpa using h
    · exact h2 z hz
theorem few_roots {p : Int} (hp : primeB p = true) : ∀ (xs L : List Int), (∀ x ∈ xs, evalI L x % p = 0) → xs.Pairwise (fun x y => (y - x) % p ≠ 0) → L.length ≤ xs.length → ∀ z ∈ L, z % p = 0
  | [], L, _, _, h, z, hz => by
    have : L = [] := List.eq_nil_of_length_eq_zero (by simpa using h)
    subst this; cases hz
  | c :: xs, L, h0, hd, h, z, hz => by
    obtain ⟨d1, d2⟩ := List.pairwise_cons.1 hd
    have hc := h0 c (by simp)
    refine quo_dvd L (few_roots hp xs (quo c L) (fun x hx => ?_) d2 (by rw [quo_len]; simp at h; omega)) hc z hz
    have hx0 := h0 x (by simp [hx])
    rw [quo_eval c x L, Int.add_emod, hc, Int.add_zero, Int.emod_emod_of_dvd _ (Int.dvd_refl p)] at hx0
    rcases pri_mul hp hx0 with h1 | h1
    · exact absurd h1 (d1 x hx)
    · exact h1
/-- two that are trimmed and agree at as many places as they are long are the same -/
theorem same_poly {p : Int} (hp : primeB p = true) {a b : List Int} {xs : List Int} (ha : ∀ x ∈ a, 0 ≤ x ∧ x < p) (hb : ∀ x ∈ b, 0 ≤ x ∧ x < p) (p0 : 0 < p) (la : a.length ≤ xs.length) (lb : b.length ≤ xs.length)
    (ta : trimL a = a) (tb : trimL b = b) (hd : xs.Pairwise (fun x y => (y - x) % p ≠ 0)) (he : ∀ x ∈ xs, evalI a x % p = evalI b x % p) : a = b := by
  rw [← ta, ← tb]
  refine trim_unique fun i => ?_
  have hl : ((List.range xs.length).map fun i => a.getD i 0 + (-1) * b.getD i 0).length = xs.length := by simp
  have hg : ∀ i, ((List.range xs.length).map fun i => a.getD i 0 + (-1) * b.getD i 0).getD i 0 = a.getD i 0 + (-1) * b.getD i 0 := fun i => by
    by_cases hi : i < xs.length
    · rw [List.getD_eq_getElem?_getD, List.getElem?_eq_getElem (by simpa using hi)]; simp
    · have h1 := getD_out (l := (List.range xs.length).map fun i => a.getD i 0 + (-1) * b.getD i 0) (i := i) (by rw [hl]; omega)
      rw [h1, getD_out (l := a) (i := i) (by omega), getD_out (l := b) (i := i) (by omega)]; simp
  have hz := few_roots hp xs ((List.range xs.length).map fun i => a.getD i 0 + (-1) * b.getD i 0) (fun x hx => by
    rw [eval_C (N := xs.length) (by rw [hl]; exact Nat.le_refl _)]
    rw [show (fun i => ((List.range xs.length).map fun i => a.getD i 0 + (-1) * b.getD i 0).getD i 0) = fun i => a.getD i 0 + (-1) * b.getD i 0 from funext hg, sumC_lin, ← eval_C la, ← eval_C lb]
    have := he x hx
    have h1 : (evalI a x - evalI b x) % p = 0 := Int.emod_eq_emod_iff_emod_sub_eq_zero.1 this
    rw [show evalI a x + -1 * evalI b x = evalI a x - evalI b x by omega]
    exact h1) hd (by rw [hl]; exact Nat.le_refl _)
  by_cases hi : i < xs.length
  · have h1 := hz (a.getD i 0 + (-1) * b.getD i 0) (List.mem_map.2 ⟨i, List.mem_range.2 hi, rfl⟩)
    have h2 := getD_bd p0 ha i
    have h3 := getD_bd p0 hb i
    have h4 : (a.getD i 0 - b.getD i 0) % p = 0 := by rw [show a.getD i 0 - b.getD i 0 = a.getD i 0 + (-1) * b.getD i 0 by omega]; exact h1
    have h5 := Int.emod_eq_emod_iff_emod_sub_eq_zero.2 h4
    rw [Int.emod_eq_of_lt h2.1 h2.2, Int.emod_eq_of_lt h3.1 h3.2] at h5
    exact h5
  · rw [getD_out (l := a) (by omega), getD_out (l := b) (by omega)]
end Lw
