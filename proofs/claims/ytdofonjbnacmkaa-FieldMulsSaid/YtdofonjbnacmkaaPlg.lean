/- poly.Gcd and the reference's PolyGcd: both follow the same rests. -/
import Derived.Test.YtdofonjbnacmkaaPld
namespace Lw
open Go Go.RowKit
def remL (p : Int) (a b : List Int) : List Int := trimL (leftN p a b (invR (b.getD (b.length - 1) 0) p) (a.length + 1 - b.length))
/-- the last divisor of Euclid's way -/
inductive GcdR (p : Int) : List Int → List Int → List Int → Prop
  | stop (a : List Int) : GcdR p a [] a
  | step {a b d : List Int} (h : 0 < b.length) (r : GcdR p b (remL p a b) d) : GcdR p a b d
/-- a polynomial that may be -/
def goodL (p : Int) (a : List Int) : Prop := (∀ x ∈ a, 0 ≤ x ∧ x < p) ∧ endZ a = false ∧ a.length ≤ 13
/-- what divides both, with a last coefficient of 1 -/
def finL (p : Int) (d : List Int) : List Int := if d.length = 0 then [] else plusL p [] d (invR (d.getD (d.length - 1) 0) p) 0
theorem rem_good {p : Int} {a b : List Int} (hp : 0 < p) (ha : goodL p a) : goodL p (remL p a b) := by
  refine ⟨fun x hx => leftN_mem hp ha.1 _ x (trim_mem hx), endZ_trim _, ?_⟩
  have := trim_len (leftN p a b (invR (b.getD (b.length - 1) 0) p) (a.length + 1 - b.length))
  rw [leftN_length] at this
  have := ha.2.2
  unfold remL
  omega
theorem conv_one {p κ : Int} {a : List Int} {i : Nat} : ∀ K, K ≤ i → convM p a [κ] i K = 0
  | 0, _ => rfl
  | K + 1, h => by
    unfold convM
    rw [conv_one K (by omega), getD_out (l := [κ]) (i := i - K) (by simp; omega)]
    simp
theorem times_one {p κ : Int} (hp : 0 < p) (a : List Int) : timesK p a [κ] a.length = plusL p [] a κ 0 := by
  have t : trimL (plusL p [] a κ 0) = plusL p [] a κ 0 := trim_trim _
  rw [← timesK_trim a.length, ← t]
  refine trim_unique fun i => ?_
  rw [timesK_getD, conv_end hp, plusL_getD]
  unfold convM plusV
  rw [conv_one i (Nat.le_refl _), if_pos (Nat.le_refl _), if_pos (Nat.zero_le _), Nat.sub_self, Nat.sub_zero]
  have e1 : [κ].getD 0 0 = κ := rfl
  have e2 : ([] : List Int).getD i 0 = 0 := rfl
  rw [e1, e2, Int.mul_comm]
theorem ov_rem {p : Int} {a b : List Int} {j : Nat} (p1 : 2 ≤ p) (p2 : p ≤ 251) (pp : primeB p = true) (ha : goodL p a) (hb : goodL p b) (hm : 0 < b.length) (h1 : (ovN p a b (invR (b.getD (b.length - 1) 0) p) j).2.length < b.length)
    (h2 : ∀ i, i < j → b.length ≤ (ovN p a b (invR (b.getD (b.length - 1) 0) p) i).2.length) : (ovN p a b (invR (b.getD (b.length - 1) 0) p) j).2 = remL p a b :=
  (left_end (inv_top p1 p2 pp hb.1 (endZ_top hb.2.1 hm)) p1 ha.1 (trim_endZ ha.2.1) hm h1 h2).symm
theorem good_of {p : Int} {a : List Int} (h : polyE p a = 0) : goodL p a := by
  obtain ⟨_, _, _, l1, b1, z1⟩ := poly_facts h
  exact ⟨b1, z1, l1⟩
theorem good_top {p : Int} {a : List Int} (h : goodL p a) {t : Nat} (ht : a.length = t + 1) : ∃ (hl : t < a.length), 0 < a[t] ∧ a[t] < p ∧ a.getD (a.length - 1) 0 = a[t] := by
  have h1 := endZ_top h.2.1 (by omega)
  have hl : t < a.length := by omega
  have h2 := h.1 _ (List.getElem_mem hl)
  rw [show a.length - 1 = t by omega, getD_at hl] at h1
  exact ⟨hl, by omega, h2.2, by rw [show a.length - 1 = t by omega, getD_at hl]⟩
theorem fin_nil {p : Int} {d : List Int} (h : d.length = 0) : finL p d = [] := if_pos h
theorem fin_top {p : Int} {d : List Int} {t : Nat} (h : d.length = t + 1) : finL p d = plusL p [] d (invR (d.getD (d.length - 1) 0) p) 0 := if_neg (by omega)
end Lw
set_option linter.unusedVariables false
set_option linter.unusedSimpArgs false
namespace Go.Proofs.Ytdofonjbnacmkaa
open Go.RowKit
theorem poly_Gcd_bad (p : Int) (A B : Option Addr) (n c m d : Nat) (a b : List Int) (w : World) (RA : Lw.Rd w 1 A n (Lw.intsV .i64 a)) (RB : Lw.Rd w 1 B m (Lw.intsV .i64 b)) (h : ¬ Lw.firstI (Lw.polyE p a) (Lw.polyE p b) = 0) :
    Calls Try.prog 32 #[.int .i64 p, .slice A n c, .slice B m d] w fun e w' => e = .returned (.tuple #[.slice none 0 0, .int .i64 (Lw.firstI (Lw.polyE p a) (Lw.polyE p b))]) ∧ Below w.heap.size w w' := by
  have X := Lib.hid (poly_both p A B n c m d a b w RA RB)
  have h1 : (Lw.firstI (Lw.polyE p a) (Lw.polyE p b) == 0) = false := by simpa using h
  generalize Lw.firstI (Lw.polyE p a) (Lw.polyE p b) = f at *
  clear RA RB h
  go_enter Try.func32, Try.ntmps32
  go_wp2_with (go_at_call 52; (with_reducible refine (X.out).mono ?_); rintro e w1 ⟨rfl, hb1⟩)
  go_ret2
  exact ⟨rfl, hb1⟩
set_option maxHeartbeats 4000000 in
theorem poly_Gcd_ok (p : Int) (A B : Option Addr) (n c m d : Nat) (a b : List Int) (w : World) (RA : Lw.Rd w 1 A n (Lw.intsV .i64 a)) (RB : Lw.Rd w 1 B m (Lw.intsV .i64 b)) (ha : Lw.polyE p a = 0) (hb : Lw.polyE p b = 0) :
    Calls Try.prog 32 #[.int .i64 p, .slice A n c, .slice B m d] w fun e w' => ∃ D C k g, Lw.GcdR p a b D ∧ e = .returned (.tuple #[.slice C k g, .int .i64 0]) ∧ Lw.Rd w' 1 C k (Lw.intsV .i64 (Lw.finL p D)) ∧ k ≤ 13 ∧ Below w.heap.size w w' := by
  have X := poly_both p A B n c m d a b w RA RB
  rw [ha, hb] at X
  have f0 : Lw.firstI 0 0 = 0 := rfl
  rw [f0] at X
  replace X := Lib.hid X
  obtain ⟨p1, p2, pp, _, _, _⟩ := Lw.poly_facts ha
  have GA := Lib.hid (Lw.good_of ha)
  have GB := Lib.hid (Lw.good_of hb)
  have RA := Lib.hid RA
  have RB := Lib.hid RB
  have PP := Lib.hid pp
  have P := Lib.hid (fun W A B n c m d a b (RA : Lw.Rd W 1 A n (Lw.intsV .i64 a)) (RB : Lw.Rd W 1 B m (Lw.intsV .i64 b)) (ha : Lw.goodL p a) (hb : Lw.goodL p b) (hn : a.length = n) (hm : b.length = m) (m1 : 1 ≤ m) => poly_Over p A B n c m d a b W RA RB ha.1 hb.1 p1 p2 pp (by have := ha.2.2; omega) (by have := hb.2.2; omega) m1 (Lw.endZ_top hb.2.1 (by omega)))
  have OV : Hid (∀ (W W' : World) (e : Ending) a b, Lw.goodL p a → Lw.goodL p b → 0 < b.length → Lw.OvR p a b W e W' → ∃ C k g D l h, e = .returned (.tuple #[.slice C k g, .slice D l h]) ∧ Lw.Rd W' 1 D l (Lw.intsV .i64 (Lw.remL p a b)) ∧ l < b.length ∧ Below W.heap.size W W') := by
    rintro W W' e a b ha hb hm ⟨j, C, k, g, D, l, h, rfl, r1, r2, h1, h2, h3, h4⟩
    have l3 : (Lw.ovN p a b (Lw.invR (b.getD (b.length - 1) 0) p) j).2.length = l := by have := r2.1; simpa [Lw.intsV] using this
    have := Lw.ov_rem p1 p2 pp ha hb hm (by omega) h3
    rw [this] at r2
    exact ⟨C, k, g, D, l, h, rfl, r2, h1, h4⟩
  have RG := Lib.hid (fun a b (ha : Lw.goodL p a) => Lw.rem_good (p := p) (a := a) (b := b) (by omega) ha)
  have IV := Lib.hid (fun a W => poly_inverse a p W)
  have IB := Lib.hid (fun a (h1 : 0 < a) (h2 : a < p) => Lw.inv_prime (p := p) (b := a) pp (by omega) h1 h2)
  have PL := Lib.hid (fun C j g k (b : List Int) W (R : Lw.Rd W 1 C j (Lw.intsV .i64 b)) (hb : Lw.goodL p b) (hl : b.length = j) (k1 : 0 ≤ k) (k2 : k < p) => poly_Plus p none C 0 0 j g [] b k 0 W (Lw.Rd.nil _ _ _) R (by simp) hb.1 p1 p2 (by omega) (by omega) (by omega) (by have := hb.2.2; omega) (by omega))
  clear pp f0 ha hb
  go_enter Try.func32, Try.ntmps32
  go_wp2_with fail
  refine X.out.mono ?_
  rintro e w1 ⟨rfl, hb1⟩
  go_wp2_with fail
  go_loopw [1, 2, 9, 10] (fun av bv q r wr => ∃ (a' b' : List Int) (C : Option Addr) (k g : Nat) (D : Option Addr) (l h : Nat), av = .slice C k g ∧ bv = .slice D l h ∧ Hid (Lw.Rd wr 1 C k (Lw.intsV .i64 a')) ∧ Hid (Lw.Rd wr 1 D l (Lw.intsV .i64 b')) ∧ a'.length = k ∧ b'.length = l ∧ Hid (Lw.goodL p a') ∧ Hid (Lw.goodL p b') ∧ Hid (∀ d, Lw.GcdR p a' b' d → Lw.GcdR p a b d) ∧ Below w.heap.size w wr) (fun _ bv _ _ _ => (match bv with | .slice _ l _ => l | _ => 0))
  case atStart => exact ⟨a, b, A, n, c, B, m, d, rfl, rfl, RA.out.below (Nat.le_refl _) hb1, RB.out.below (Nat.le_refl _) hb1, by have := RA.out.1; simpa [Lw.intsV] using this, by have := RB.out.1; simpa [Lw.intsV] using this, GA, GB, fun _ h => h, hb1⟩
  case round =>
    clear GA GB RA RB
    obtain ⟨a', b', C, k, g, D, l, h, rfl, rfl, RA, RB, la, lb, GA, GB, SIM, hB⟩ := hrel
    rcases Nat.eq_zero_or_pos l with l0 | l0
    · subst l0
      have hb0 : b' = [] := List.eq_nil_of_length_eq_zero lb
      have G1 : Hid (Lw.GcdR p a b a') := SIM.out _ (by rw [hb0]; exact Lw.GcdR.stop a')
      clear SIM RB GB P OV RG X
      rcases Nat.eq_zero_or_pos k with k0 | k0
      · subst k0
        go_wp2_with fail
        go_ret2
        exact ⟨a', none, 0, 0, G1.out, rfl, by rw [Lw.fin_nil la]; exact Lw.Rd.nil _ _ _, by omega, hB⟩
      · obtain ⟨t, rfl⟩ : ∃ t, k = t + 1 := ⟨k - 1, by omega⟩
        obtain ⟨hl, t1, t2, ht⟩ := Lw.good_top GA.out la
        have FT := Lib.hid (Lw.fin_top (p := p) la)
        rw [ht] at FT
        obtain ⟨ad, rfl, had, hcell⟩ := RA.out.at1 (by omega : t < t + 1) (Lw.intsV_get hl)
        obtain ⟨x, hx⟩ : ∃ x, a'[t] = x := ⟨_, rfl⟩
        rw [hx] at hcell t1 t2 FT
        clear hx hl ht
        obtain ⟨_, i1, i2⟩ := IB.out x t1 t2
        have t12 : t ≤ 12 := by have := GA.out.2.2; omega
        go_wp2_with fail
        refine (IV.out x _).mono ?_
        rintro e w2 ⟨rfl, hb2⟩
        have PLL := Lib.hid (PL.out _ _ g (Lw.invR x p) a' w2 (RA.out.below (Nat.le_refl _) hb2) GA.out la i1 i2)
        rw [← FT.out] at PLL
        have PLL := PLL.out
        simp only [Int.natCast_zero] at PLL
        replace PLL := Lib.hid PLL
        generalize Lw.invR x p = κ at *
        go_wp2_with fail
        refine PLL.out.mono ?_
        rintro e w3 ⟨C', k', g', rfl, R', _, hb3⟩
        go_wp2_with fail
        go_ret2
        exact ⟨a', C', k', g', G1.out, rfl, R', by have h1 := R'.1; have h2 := Lw.plusL_len (p := p) (a := []) (b := a') (κ := κ) (u := 0); rw [← FT.out] at h2; have := GA.out.2.2; simp [Lw.intsV] at h1 h2; omega, Lw.bt hB (Lw.bt hb2 hb3)⟩
    · have PO := Lib.hid (P.out wr _ _ k g l h a' b' RA.out RB.out GA.out GB.out la lb l0)
      go_wp2_with fail
      refine PO.out.mono ?_
      intro e w2 hov
      obtain ⟨Cq, kq, gq, Dr, lr, hr, rfl, RR, hlr, hb2⟩ := OV.out _ _ _ _ _ GA.out GB.out (by omega) hov
      clear hov PO
      have SIM2 : Hid (∀ d, Lw.GcdR p b' (Lw.remL p a' b') d → Lw.GcdR p a b d) := fun d hd => SIM.out d (Lw.GcdR.step (by omega) hd)
      have G2 := Lib.hid (RG.out a' b' GA.out)
      generalize Lw.remL p a' b' = rr at *
      have lrr : rr.length = lr := by have := RR.1; simpa [Lw.intsV] using this
      have RB2 := Lib.hid (RB.out.below (Nat.le_refl _) hb2)
      have RR := Lib.hid RR
      have hB2 := Lw.bt hB hb2
      clear RA RB SIM GA P OV RG X
      go_wp2_with fail
      go_roundw
      case rel => exact ⟨b', rr, D, l, h, Dr, lr, hr, rfl, rfl, RB2, RR, lb, lrr, GB, G2, SIM2, hB2⟩
      case measure => simp; omega
set_option maxHeartbeats 4000000 in
theorem ref_PolyGcd (p : Int) (p1 : 2 ≤ p) (p2 : p ≤ 251) (pp : Lw.primeB p = true) {a b D : List Int} (G : Lw.GcdR p a b D) : ∀ (A B : Option Addr) (n c m d : Nat) (w : World) (RA : Lw.Rd w 1 A n (Lw.intsV .i64 a)) (RB : Lw.Rd w 1 B m (Lw.intsV .i64 b)) (ha : Lw.goodL p a) (hb : Lw.goodL p b),
    Calls Try.prog 33 #[.int .i64 p, .slice A n c, .slice B m d] w (Lw.RetL (Lw.finL p D) w) := by
  induction G with
  | stop a =>
    intro A B n c m d w RA RB ha hb
    have la : a.length = n := by have := RA.1; simpa [Lw.intsV] using this
    have lb : m = 0 := by have := RB.1; simpa [Lw.intsV] using this.symm
    subst lb
    rcases Nat.eq_zero_or_pos n with n0 | n0
    · subst n0
      have F := Lib.hid (Lw.fin_nil (p := p) la)
      clear RA RB
      go_enter Try.func33, Try.ntmps33
      go_wp2_with fail
      go_ret
      exact ⟨none, 0, 0, rfl, by rw [F.out]; exact Lw.Rd.nil _ _ _, by omega, Below.refl _ _⟩
    · obtain ⟨t, rfl⟩ : ∃ t, n = t + 1 := ⟨n - 1, by omega⟩
      obtain ⟨hl, t1, t2, ht⟩ := Lw.good_top ha la
      have FT := Lw.fin_top (p := p) la
      rw [ht, ← Lw.times_one (by omega : 0 < p)] at FT
      replace FT := Lib.hid FT
      obtain ⟨ad, rfl, had, hcell⟩ := RA.at1 (by omega : t < t + 1) (Lw.intsV_get hl)
      have IB := Lw.inv_prime (p := p) (b := a[t]) pp (by omega) t1 t2
      have IV := Lib.hid (fun w => ref_inverse a[t] p w pp (by omega) t1 t2)
      obtain ⟨x, hx⟩ : ∃ x, a[t] = x := ⟨_, rfl⟩
      rw [hx] at hcell t1 t2 FT IB IV
      obtain ⟨_, i1, i2⟩ := IB
      have MU := Lib.hid (fun W (h : Below w.heap.size w W) (R : Lw.Rd W 1 (some ⟨w.heap.size, 0, none⟩) 1 (Lw.intsV .i64 [Lw.invR x p])) => ref_Mul p (some ad) (some ⟨w.heap.size, 0, none⟩) (t + 1) c 1 1 a [Lw.invR x p] W (RA.below (Nat.le_refl w.heap.size) h) R ha.1 (by intro z hz; simp at hz; omega) p1 p2 (by have := ha.2.2; omega) (by omega))
      rw [← FT.out] at MU
      have t12 : t ≤ 12 := by have := ha.2.2; omega
      generalize Lw.invR x p = κ at *
      generalize Lw.finL p a = out at *
      clear RA RB hx hl ht FT ha hb
      go_enter Try.func33, Try.ntmps33
      go_wp2_with (go_at_call 59; (with_reducible refine (IV.out _).mono ?_); rintro e w1 ⟨rfl, rfl⟩)
      refine (MU.out _ (Lw.balloc (Below.refl _ _) _) (by exact Lw.Rd.lit (Lw.blk_new' (by simp) _ _) rfl rfl)).mono ?_
      rintro e w3 ⟨C', k', g', rfl, R', hg, hb3⟩
      go_wp2_with fail
      go_ret
      exact ⟨C', k', g', rfl, R', hg, Lw.bt (Lw.balloc (Below.refl _ _) _) hb3⟩
  | @step a b D h r ih =>
    intro A B n c m d w RA RB ha hb
    have la : a.length = n := by have := RA.1; simpa [Lw.intsV] using this
    have lb : b.length = m := by have := RB.1; simpa [Lw.intsV] using this
    have LF := Lib.hid (ref_left p A B n c m d a b w RA RB ha.1 hb.1 p1 p2 pp (by have := ha.2.2; omega) (by have := hb.2.2; omega) (by omega) (Lw.endZ_top hb.2.1 h))
    have IH := Lib.hid (fun W (h : Below w.heap.size w W) D l hh (R : Lw.Rd W 1 D l (Lw.intsV .i64 (Lw.remL p a b))) => ih B D m d l hh W (RB.below (Nat.le_refl w.heap.size) h) R hb (Lw.rem_good (by omega) ha))
    have m0 : 0 < m := by omega
    clear RA RB ha hb r ih la lb
    go_enter Try.func33, Try.ntmps33
    go_wp2_with fail
    refine LF.out.mono ?_
    rintro e w1 ⟨C, k, g, rfl, R1, hg, hb1⟩
    have IHH := Lib.hid (IH.out _ hb1 _ _ g R1)
    clear R1
    go_wp2_with fail
    refine IHH.out.mono ?_
    rintro e w2 ⟨C2, k2, g2, rfl, R2, hg2, hb2⟩
    go_wp2_with fail
    go_ret
    exact ⟨C2, k2, g2, rfl, R2, hg2, Lw.bt hb1 hb2⟩
end Go.Proofs.Ytdofonjbnacmkaa
