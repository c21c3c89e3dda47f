/- Fields: the reference's product, the program's splits. -/
import Derived.Test.YtjhjppaabmbbbaaFdw
namespace Lw
open Go Go.RowKit
def PrA (p : Int) (f : List Int) (a : Int) : Prop := 2 * (digs p a).length ≤ f.length + 1 ∧ remL p f (digs p a) = []
def SpA (p : Int) (f : List Int) (a : Int) : Prop := (digs p a).getD ((digs p a).length - 1) 0 = 1 ∧ remL p f (digs p a) = []
theorem prd_a {p : Int} {f : List Int} : Prd p f ↔ ∃ a, p ≤ a ∧ a < p ^ (f.length - 1) ∧ PrA p f a := Iff.rfl
theorem spl_a {p : Int} {f : List Int} : Spl p f ↔ ∃ a, p ≤ a ∧ a < 2 * p ^ ((f.length - 1) / 2) ∧ SpA p f a := Iff.rfl
def BoR (Q : Prop) (w : World) (e : Ending) (w' : World) : Prop := (∃ r : Bool, e = .returned (.bool r) ∧ (r = true ↔ Q)) ∧ Below w.heap.size w w'
theorem digs_top {p a : Int} (hp : 2 ≤ p) (h0 : p ≤ a) (h1 : a < 8192) : ∃ t, (digs p a).length = t + 1 ∧ 1 ≤ t ∧ ¬ (digs p a).getD ((digs p a).length - 1) 0 = 0 := by
  obtain ⟨d, d0, d1, d2, d3⟩ := digs_split hp h0 (by omega)
  exact ⟨d, d0, d1, endZ_top (digs_good hp (by omega) h1).2.1 (by omega)⟩
end Lw
set_option linter.unusedVariables false
set_option linter.unusedSimpArgs false
namespace Go.Proofs.Ytjhjppaabmbbbaa
open Go.RowKit
set_option maxHeartbeats 4000000 in
theorem ref_product (p : Int) (A : Option Addr) (n c : Nat) (f : List Int) (w : World) (RA : Lw.Rd w 1 A n (Lw.intsV .i64 f)) (p1 : 2 ≤ p) (p2 : p ≤ 251) (pp : Lw.primeB p = true) (hf : Lw.goodL p f) (n1 : 2 ≤ n) (hs : p ^ (n - 1) ≤ 4096) :
    Calls Try.prog 102 #[.int .i64 p, .slice A n c] w (Lw.BoR (Lw.Prd p f) w) := by
  have la : f.length = n := by have := RA.1; simpa [Lw.intsV] using this
  have n13 : n ≤ 13 := by have := hf.2.2; omega
  have FSq := fun W => ref_FieldSize p A n c W p1 p2 (by omega) n13
  have SZ : Lw.sizL p n = p ^ (n - 1) := by unfold Lw.sizL; rw [if_neg (by omega)]
  rw [SZ] at FSq
  have PR := Lib.hid (Lw.prd_a (p := p) (f := f))
  rw [la] at PR
  have PA : Hid (∀ a, Lw.PrA p f a ↔ 2 * (Lw.digs p a).length ≤ n + 1 ∧ Lw.remL p f (Lw.digs p a) = []) := fun a => by rw [← la]; exact Iff.rfl
  obtain ⟨S, hS⟩ : ∃ z, p ^ (n - 1) = z := ⟨_, rfl⟩
  rw [hS] at FSq hs PR
  replace FSq := Lib.hid FSq
  have DG := Lib.hid (fun a W (a0 : 0 ≤ a) (a1 : a < 8192) => ref_digits p a W p1 p2 a0 a1)
  have DT := Lib.hid (fun a (h0 : p ≤ a) (h1 : a < 8192) => Lw.digs_top (p := p) (a := a) p1 h0 h1)
  have GD := Lib.hid (fun a (h0 : 0 ≤ a) (h1 : a < 8192) => Lw.digs_good (p := p) (a := a) p1 h0 h1)
  have LF := Lib.hid (fun W (h : Below w.heap.size w W) B m d b (RB : Lw.Rd W 1 B m (Lw.intsV .i64 b)) (hb : Lw.goodL p b) (hm : b.length = m) (m1 : 1 ≤ m) (hz : ¬ b.getD (b.length - 1) 0 = 0) => ref_left p A B n c m d f b W (RA.below (Nat.le_refl w.heap.size) h) RB hf.1 hb.1 p1 p2 pp (by omega) (by have := hb.2.2; omega) m1 hz)
  have RM : Hid (∀ b, Lw.trimL (Lw.leftN p f b (Lw.invR (b.getD (b.length - 1) 0) p) (f.length + 1 - b.length)) = Lw.remL p f b) := fun _ => rfl
  generalize Lw.Prd p f = Q at *
  clear RA la hf SZ pp hS
  go_enter Try.func102, Try.ntmps102
  go_wp2
  go_loopw [5, 6] (fun av l wr => ∃ a : Int, av = .int .i64 a ∧ p ≤ a ∧ (a ≤ S ∨ a = p) ∧ Hid (∀ x, p ≤ x → x < a → ¬ Lw.PrA p f x) ∧ Below w.heap.size w wr) (fun av _ _ => (S - intOf av).toNat)
  case atStart => exact ⟨p, rfl, Int.le_refl _, .inr rfl, fun x h1 h2 => by omega, Below.refl _ _⟩
  case round =>
    obtain ⟨a, rfl, pa, aS, H, hB⟩ := hrel
    have FSW := Lib.hid (FSq.out wr)
    by_cases hlt : a < S
    · have a8 : a < 8192 := by omega
      have a0 : 0 ≤ a := by omega
      have a0' : ¬ a < 0 := by omega
      have DW := Lib.hid (DG.out a wr a0 a8)
      obtain ⟨t, ht, t1, hz⟩ := DT.out a pa a8
      have G := GD.out a a0 a8
      have PAa := PA.out a
      have QQ : Hid (Lw.PrA p f a → Q) := fun h => PR.out.2 ⟨a, pa, hlt, h⟩
      have HN : Hid (¬ Lw.PrA p f a → ∀ x, p ≤ x → x < a + 1 → ¬ Lw.PrA p f x) := fun h x h1 h2 => by
        by_cases e : x = a
        · subst e; exact h
        · exact H.out x h1 (by omega)
      have RMa := RM.out (Lw.digs p a)
      have LFa := fun W h B m d RB hm m1 => LF.out W h B m d (Lw.digs p a) RB G hm m1 hz
      rw [RMa] at LFa
      have t13 : t ≤ 12 := by have := G.2.2; omega
      obtain ⟨l, hl⟩ : ∃ z, Lw.digs p a = z := ⟨_, rfl⟩
      rw [hl] at DW ht PAa LFa
      obtain ⟨r, hr⟩ : ∃ z, Lw.remL p f l = z := ⟨_, rfl⟩
      rw [hr] at PAa LFa
      rw [ht] at PAa
      have LFa := Lib.hid LFa
      have PAa := Lib.hid PAa
      have HT := Lib.hid ht
      clear hz G RMa hl hr ht H FSq DG DT GD LF RM PR PA
      go_wp2_with fail
      refine FSW.out.mono ?_
      rintro e w' ⟨rfl, rfl⟩
      go_wp2_with fail
      refine DW.out.mono ?_
      rintro e w1 ⟨C, m, g, rfl, R1, hg, hb1⟩
      have hm : m = t + 1 := by have h1 := R1.1; have h2 := HT.out; simp [Lw.intsV] at h1; omega
      subst hm
      have hB1 := Lw.bt hB hb1
      have LFW := Lib.hid (LFa.out w1 hB1 C (t + 1) g R1 HT.out (by omega))
      clear R1
      by_cases c1 : 2 * (t + 1) ≤ n + 1
      · have c1' : 2 * ((t : Int) + 1) ≤ (n : Int) + 1 := by omega
        go_wp2_with fail
        refine LFW.out.mono ?_
        rintro e w2 ⟨C2, m2, g2, rfl, R2, hg2, hb2⟩
        have hB2 := Lw.bt hB1 hb2
        have hm2 : r.length = m2 := by have h1 := R2.1; simpa [Lw.intsV] using h1
        clear R2
        by_cases m0 : m2 = 0
        · have QT : Hid Q := QQ.out (PAa.out.2 ⟨c1, List.eq_nil_of_length_eq_zero (by omega)⟩)
          clear QQ HN PAa
          subst m0
          go_wp2_with fail
          go_ret
          exact ⟨⟨true, rfl, by simpa using QT.out⟩, hB2⟩
        · have HN2 := Lib.hid (HN.out fun h => m0 (by have := (PAa.out.1 h).2; rw [this] at hm2; exact hm2.symm))
          clear HN QQ PAa
          go_wp2_with fail
          go_roundw
          case rel => exact ⟨a + 1, by go_num, by omega, .inl (by omega), HN2, hB2⟩
          case measure => simp [intOf]; omega
      · have c1' : ¬ 2 * ((t : Int) + 1) ≤ (n : Int) + 1 := by omega
        have HN2 := Lib.hid (HN.out fun h => c1 (PAa.out.1 h).1)
        clear HN QQ PAa
        go_wp2_with fail
        go_roundw
        case rel => exact ⟨a + 1, by go_num, by omega, .inl (by omega), HN2, hB1⟩
        case measure => simp [intOf]; omega
    · have QN : Hid (¬ Q) := fun h => by
        obtain ⟨x, h1, h2, h3⟩ := PR.out.1 h
        exact H.out x h1 (by omega) h3
      go_wp2_with (go_at_call 95; (with_reducible refine FSW.out.mono ?_); rintro e w' ⟨rfl, rfl⟩)
      go_ret
      exact ⟨⟨false, rfl, by simpa using QN.out⟩, hB⟩
set_option maxRecDepth 100000 in
set_option maxHeartbeats 4000000 in
theorem field_splits (p sz : Int) (A : Option Addr) (n c : Nat) (f : List Int) (w : World) (RA : Lw.Rd w 1 A n (Lw.intsV .i64 f)) (p1 : 2 ≤ p) (p2 : p ≤ 251) (pp : Lw.primeB p = true) (hf : Lw.goodL p f) (n1 : 2 ≤ n) (hs : p ^ (n - 1) ≤ 4096) :
    Calls Try.prog 135 #[.agg #[.int .i64 p, .int .i64 sz, .slice A n c]] w (Lw.BoR (Lw.Spl p f) w) := by
  have la : f.length = n := by have := RA.1; simpa [Lw.intsV] using this
  have n13 : n ≤ 13 := by have := hf.2.2; omega
  have PR := Lib.hid (Lw.spl_a (p := p) (f := f))
  rw [la] at PR
  have PA : Hid (∀ a, Lw.SpA p f a ↔ (Lw.digs p a).getD ((Lw.digs p a).length - 1) 0 = 1 ∧ Lw.remL p f (Lw.digs p a) = []) := fun _ => Iff.rfl
  have PS : Hid (∀ k, p ^ (k + 1) = p ^ k * p) := fun k => Int.pow_succ ..
  have PP : Hid (∀ k, 0 < p ^ k) := fun k => Int.pow_pos (by omega)
  have PL := Lib.hid (fun k (h : k ≤ (n - 1) / 2) => Int.le_trans (Lw.ipow_le p1 (show k ≤ n - 1 by omega)) hs)
  have P0 : Hid (p ^ 0 = 1) := Int.pow_zero _
  have DG := Lib.hid (fun a W (a0 : 0 ≤ a) (a1 : a < 8192) => field_poly p sz a A n c W p1 p2 a0 a1)
  have DT := Lib.hid (fun a (h0 : p ≤ a) (h1 : a < 8192) => Lw.digs_top (p := p) (a := a) p1 h0 h1)
  have GD := Lib.hid (fun a (h0 : 0 ≤ a) (h1 : a < 8192) => Lw.digs_good (p := p) (a := a) p1 h0 h1)
  have P := Lib.hid (fun W (h : Below w.heap.size w W) B m d b (RB : Lw.Rd W 1 B m (Lw.intsV .i64 b)) (hb : Lw.goodL p b) (hm : b.length = m) (m1 : 1 ≤ m) (hz : ¬ b.getD (b.length - 1) 0 = 0) => poly_Over p A B n c m d f b W (RA.below (Nat.le_refl w.heap.size) h) RB hf.1 hb.1 p1 p2 pp (by omega) (by have := hb.2.2; omega) m1 hz)
  have OV : Hid (∀ (W W' : World) (e : Ending) b, Lw.goodL p b → 0 < b.length → Lw.OvR p f b W e W' → ∃ C k g D l h, e = .returned (.tuple #[.slice C k g, .slice D l h]) ∧ (Lw.remL p f b).length = l ∧ Below W.heap.size W W') := by
    rintro W W' e b hb hm ⟨j, C, k, g, D, l, h, rfl, r1, r2, h1, h2, h3, h4⟩
    have l3 : (Lw.ovN p f b (Lw.invR (b.getD (b.length - 1) 0) p) j).2.length = l := by have := r2.1; simpa [Lw.intsV] using this
    have e := Lw.ov_rem p1 p2 pp hf hb hm (by omega) h3
    rw [e] at l3
    exact ⟨C, k, g, D, l, h, rfl, l3, h4⟩
  obtain ⟨half, hh⟩ : ∃ z, (n - 1) / 2 = z := ⟨_, rfl⟩
  rw [hh] at PR PL
  have hh2 : ((n : Int) - 1).tdiv 2 = (half : Int) := by rw [Int.tdiv_eq_ediv_of_nonneg (by omega)]; omega
  have hh3 : half ≤ 6 := by omega
  generalize Lw.Spl p f = Q at *
  obtain ⟨W, hW⟩ : ∃ W, w.alloc (.cells #[.int .i64 p, .int .i64 sz, .slice A n c] 130) = W := ⟨_, rfl⟩
  have B0 := Lib.hid (show W.heap[w.heap.size]? = some (.cells #[.int .i64 p, .int .i64 sz, .slice A n c] 130 (0, 0)) from hW ▸ Lw.blk_new _ _ _)
  have hBW : Below w.heap.size w W := by rw [← hW]; exact Lw.balloc (Below.refl _ _) _
  have hWs : w.heap.size < W.heap.size := by rw [← hW]; simp
  have l0 := Lw.blk_cell B0.out 0; have l1 := Lw.blk_cell B0.out 1; have l2 := Lw.blk_cell B0.out 2
  simp at l0 l1 l2
  have HW := Lib.hid hW
  have n1' : (n : Int) - 1 ≥ 0 := by omega
  clear hW RA la hf hs pp hh
  go_enter Try.func135, Try.ntmps135
  go_wp2_with fail
  rw [HW.out]
  go_loop [4, 15] (fun s k => ∃ j : Nat, k = .int .i64 (j : Int) ∧ j ≤ half ∧ s = .int .i64 (p ^ j)) (fun _ k => half - (intOf k).toNat)
  case atStart => exact ⟨0, rfl, by omega, by rw [P0.out]⟩
  case round =>
    obtain ⟨j, rfl, hj, rfl⟩ := hrel
    have h1 := PS.out j
    have h2 := PP.out j
    have h3 := PL.out j hj
    obtain ⟨t, ht⟩ : ∃ z, p ^ j = z := ⟨_, rfl⟩
    rw [ht] at h1 h2 h3
    rw [ht]
    by_cases hlt : j < half
    · have hlt' : (j : Int) < (half : Int) := by omega
      have m2 : t * p ≤ 4096 * 251 := Int.mul_le_mul h3 p2 (by omega) (by omega)
      have m3 : 0 ≤ t * p := Int.mul_nonneg (by omega) (by omega)
      obtain ⟨u, hu⟩ : ∃ z, t * p = z := ⟨_, rfl⟩
      rw [hu] at h1 m2 m3
      have W1 : wrap64 (t * p) = u := by rw [hu]; exact IntWalk.wrap64_in _ (by omega)
      have h1 := Lib.hid h1
      clear ht
      go_wp2_with fail
      go_round
      case rel => exact ⟨j + 1, by go_num, by omega, by rw [h1.out]⟩
      case measure => simp [intOf]; omega
    · have hjh : j = half := by omega
      subst hjh
      rw [ht] at PR
      have t2 : wrap64 (2 * t) = 2 * t := IntWalk.wrap64_in _ (by omega)
      have t3 : IntKind.i64.wrap (2 * t) = 2 * t := by rw [IntWalk.i64_left]; exact t2
      clear ht h1 PS PP PL P0
      go_wp2_with fail
      go_loopw [5, 6, 7, 8] (fun av l q r wr => ∃ a : Int, av = .int .i64 a ∧ p ≤ a ∧ (a ≤ 2 * t ∨ a = p) ∧ Hid (∀ x, p ≤ x → x < a → ¬ Lw.SpA p f x) ∧ Below W.heap.size W wr) (fun av _ _ _ _ => (2 * t - intOf av).toNat)
      case atStart => exact ⟨p, rfl, Int.le_refl _, .inr rfl, fun x h1 h2 => by omega, Below.refl _ _⟩
      case round =>
        obtain ⟨a, rfl, pa, aS, H, hB⟩ := hrel
        have hBr : Below w.heap.size w wr := hBW.trans (hB.mono hBW.size)
        have m0 : wr.cell? ⟨w.heap.size, 0, none⟩ = some (.int .i64 p) := (hB.cell hWs).trans l0
        have m1 : wr.cell? ⟨w.heap.size, 1, none⟩ = some (.int .i64 sz) := (hB.cell hWs).trans l1
        have m2 : wr.cell? ⟨w.heap.size, 2, none⟩ = some (.slice A n c) := (hB.cell hWs).trans l2
        by_cases hlt : a < 2 * t
        · have a8 : a < 8192 := by omega
          have a0 : 0 ≤ a := by omega
          have DW := Lib.hid (DG.out a wr a0 a8)
          obtain ⟨k, hk, k1, hz⟩ := DT.out a pa a8
          have G := GD.out a a0 a8
          have PAa := PA.out a
          have QQ : Hid (Lw.SpA p f a → Q) := fun h => PR.out.2 ⟨a, pa, hlt, h⟩
          have HN : Hid (¬ Lw.SpA p f a → ∀ x, p ≤ x → x < a + 1 → ¬ Lw.SpA p f x) := fun h x h1 h2 => by
            by_cases e : x = a
            · subst e; exact h
            · exact H.out x h1 (by omega)
          have Pa := fun W h B m d RB hm m1 => P.out W h B m d (Lw.digs p a) RB G hm m1 hz
          have Oa := fun W W' e hm h => OV.out W W' e (Lw.digs p a) G hm h
          have k13 : k ≤ 12 := by have := G.2.2; omega
          have k13 : k ≤ 12 := by have := G.2.2; omega
          obtain ⟨l, hl⟩ : ∃ z, Lw.digs p a = z := ⟨_, rfl⟩
          rw [hl] at DW hk PAa Pa Oa
          obtain ⟨r, hr⟩ : ∃ z, Lw.remL p f l = z := ⟨_, rfl⟩
          rw [hr] at PAa Oa
          have kl : k < l.length := by omega
          rw [show l.length - 1 = k by omega, Lw.getD_at kl] at PAa
          have Pa := Lib.hid Pa
          have Oa := Lib.hid Oa
          replace PAa := Lib.hid PAa
          have HK := Lib.hid hk
          clear hz G hl hr hk H DG DT GD P OV PR PA
          go_wp2_with fail
          refine DW.out.mono ?_
          rintro e w1 ⟨C, m, g, rfl, R1, hg, hb1⟩
          have hm : m = k + 1 := by have h1 := R1.1; have h2 := HK.out; simp [Lw.intsV] at h1; omega
          subst hm
          have hB1 := Lw.bt hB hb1
          have hBr1 : Below w.heap.size w w1 := Lw.bt hBr hb1
          have PW := Lib.hid (Pa.out w1 hBr1 C (k + 1) g R1 HK.out (by omega))
          obtain ⟨ad, rfl, had, hcell⟩ := R1.at1 (by omega : k < k + 1) (Lw.intsV_get kl)
          have n0 : w1.cell? ⟨w.heap.size, 0, none⟩ = some (.int .i64 p) := (hB1.cell hWs).trans l0
          have n1 : w1.cell? ⟨w.heap.size, 1, none⟩ = some (.int .i64 sz) := (hB1.cell hWs).trans l1
          have n2 : w1.cell? ⟨w.heap.size, 2, none⟩ = some (.slice A n c) := (hB1.cell hWs).trans l2
          obtain ⟨x, hx⟩ : ∃ z, l[k] = z := ⟨_, rfl⟩
          rw [hx] at hcell PAa
          clear R1 hx kl m0 m1 m2
          by_cases x1 : x = 1
          · subst x1
            have z1 : ((1 : Int) != 1) = false := rfl
            go_wp2_with fail
            refine PW.out.mono ?_
            intro e w2 hov
            obtain ⟨Cq, kq, gq, Dr, lr, hr, rfl, hlr, hb2⟩ := Oa.out _ _ _ (by have := HK.out; omega) hov
            clear hov PW Oa
            have hB2 := Lw.bt hB1 hb2
            have hBr2 := Lw.bt hBr1 hb2
            by_cases m0 : lr = 0
            · have QT : Hid Q := QQ.out (PAa.out.2 ⟨by first | rfl | trivial, List.eq_nil_of_length_eq_zero (by omega)⟩)
              clear QQ HN PAa
              subst m0
              go_wp2_with fail
              go_ret
              exact ⟨⟨true, rfl, by simpa using QT.out⟩, hBr2⟩
            · have HN2 := Lib.hid (HN.out fun h => m0 (by have := (PAa.out.1 h).2; rw [this] at hlr; exact hlr.symm))
              clear HN QQ PAa
              go_wp2_with fail
              go_roundw
              case rel => exact ⟨a + 1, by go_num, by omega, .inl (by omega), HN2, hB2⟩
              case measure => simp [intOf]; omega
          · have HN2 := Lib.hid (HN.out fun h => x1 (PAa.out.1 h).1)
            have z1 : (x != 1) = true := by simpa using x1
            clear HN QQ PAa
            go_wp2_with fail
            go_roundw
            case rel => exact ⟨a + 1, by go_num, by omega, .inl (by omega), HN2, hB1⟩
            case measure => simp [intOf]; omega
        · have QN : Hid (¬ Q) := fun h => by
            obtain ⟨x, h1, h2, h3⟩ := PR.out.1 h
            exact H.out x h1 (by omega) h3
          go_wp2_with fail
          go_ret
          exact ⟨⟨false, rfl, by simpa using QN.out⟩, hBr⟩
end Go.Proofs.Ytjhjppaabmbbbaa
