/- The reference's Split and Points. -/
import Derived.Test.YtkgfaaabhmcdoaaShs
set_option linter.unusedVariables false
set_option linter.unusedSimpArgs false
namespace Go.Proofs.Ytkgfaaabhmcdoaa
open Go.RowKit
theorem ref_Points (n c1 c2 : Nat) (A1 A2 : Option Addr) (zs : List (Int × Int)) (w : World) (R1 : Lw.Rd w 2 A1 n (Lw.pairsV .i64 .i64 zs)) (R2 : Lw.Rd w 2 A2 n (Lw.pairsV .i64 .i64 zs)) (hn : n ≤ 1048576) :
    Calls Try.prog 33 #[.slice A1 n c1, .slice A2 n c2] w fun e w' => e = .returned (.bool true) ∧ ∃ d, w' = w.drewN d := by
  have R1 := Lib.hid R1
  have R2 := Lib.hid R2
  have hl : zs.length = n := by have := R1.out.1; rw [Lw.pairsV_length] at this; omega
  have HL := Lib.hid hl
  clear hl
  go_enter Try.func33, Try.ntmps33
  go_wp2
  go_loopw [5] (fun i wr => ∃ k d : Nat, i = .int .i64 (k : Int) ∧ k ≤ n ∧ wr = w.drewN d) (fun i _ => n - (intOf i).toNat)
  case atStart => exact ⟨0, 0, rfl, by omega, rfl⟩
  case round =>
    obtain ⟨k, d, rfl, k1, rfl⟩ := hrel
    by_cases hlt : k < n
    · have hk : k < zs.length := by have := HL.out; omega
      obtain ⟨g0, g1⟩ := Lw.pairsV_get (k := .i64) (l := .i64) (zs := zs) (i := k) hk
      obtain ⟨x, hx⟩ : ∃ x, zs[k] = x := ⟨_, rfl⟩
      rw [hx] at g0 g1
      obtain ⟨ad, rfl, had, c0, c1⟩ := R1.out.at2 hlt g0 g1
      obtain ⟨ae, rfl, hae, e0, e1⟩ := R2.out.at2 hlt g0 g1
      clear g0 g1 hx hk
      go_wp2
      go_quiet (fail)
      go_wp2
      go_roundw
      case rel => exact ⟨k + 1, _, by go_num, by omega, rfl⟩
      case measure => simp [intOf]; omega
    · go_wp2
      go_ret
      exact ⟨rfl, d, rfl⟩
set_option maxRecDepth 100000 in
set_option maxHeartbeats 4000000 in
theorem ref_Split (p sec : Int) (n : Nat) (A : Option Addr) (m c : Nat) (more : List Int) (w : World) (RA : Lw.Rd w 1 A m (Lw.intsV .i64 more)) (p1 : 2 ≤ p) (p2 : p ≤ 251) (hm : m ≤ 12) (s0 : 0 ≤ sec) (s1 : sec < p) (hb : ∀ x ∈ more, 0 ≤ x ∧ x < p) (hn : (n : Int) < p) :
    Calls Try.prog 34 #[.int .i64 p, .int .i64 sec, .slice A m c, .int .i64 (n : Int)] w (Lw.PtsF p (sec :: more) n w) := by
  have lm : more.length = m := by have := RA.1; simpa [Lw.intsV] using this
  have PS := Lib.hid (Lw.pts_succ p (sec :: more))
  have SH := Lib.hid (fun x (x0 : 0 ≤ x) (x1 : x < p) => Lw.spl_horn (p := p) (sec := sec) (x := x) (more := more) p1 s0 s1 x0 x1)
  rw [lm] at SH
  have PB := Lib.hid (fun x k => Lw.powS_bd (p := p) (x := x) p1 k)
  have SB := Lib.hid (fun x k => Lw.splS_bd (p := p) (sec := sec) (x := x) (more := more) p1 s0 s1 k)
  have PN : Hid (∀ x k, Lw.powS p x (k + 1) = Lw.powS p x k * x % p) := fun _ _ => rfl
  have SN : Hid (∀ x k, Lw.splS p sec more x (k + 1) = (Lw.splS p sec more x k + more.getD k 0 * Lw.powS p x (k + 1)) % p) := fun _ _ => rfl
  have S0 : Hid (∀ x, Lw.splS p sec more x 0 = sec) := fun _ => rfl
  have P0 : Hid (∀ x, Lw.powS p x 0 = 1) := fun _ => rfl
  have HBM := Lib.hid hb
  have LM := Lib.hid lm
  have RA := Lib.hid RA
  have p0 : ¬ p = 0 := by omega
  clear lm hb
  go_enter Try.func34, Try.ntmps34
  go_wp2_with fail
  go_loopw [9, 10, 11, 12, 14] (fun l x y pw cc wr => ∃ k : Nat, x = .int .i64 ((k : Int) + 1) ∧ k ≤ n ∧ wr.ownsRow w.heap.size 81 2 l k (Lw.pairsV .i64 .i64 (Lw.ptsL p (sec :: more) k)) ∧ Below w.heap.size w wr) (fun _ x _ _ _ _ => n + 1 - (intOf x).toNat)
  case atStart => exact ⟨0, rfl, by omega, World.ownsRow_nil _ _ _ _, Below.refl _ _⟩
  case round =>
    obtain ⟨k, rfl, hk, own, hB⟩ := hrel
    have hszr := hB.size
    by_cases hlt : k < n
    · have hlt' : (k : Int) + 1 ≤ (n : Int) := by omega
      have PK := PS.out k
      have SHK := SH.out ((k : Int) + 1) (by omega) (by omega)
      obtain ⟨x, hx⟩ : ∃ z : Int, (k : Int) + 1 = z := ⟨_, rfl⟩
      have x0 : 0 ≤ x := by omega
      have x1 : x < p := by omega
      rw [hx] at PK SHK hlt'
      rw [hx]
      obtain ⟨y, hy⟩ : ∃ z, Lw.hornV p (sec :: more) x = z := ⟨_, rfl⟩
      rw [hy] at PK SHK
      have HX := Lib.hid hx
      have PK := Lib.hid PK
      have SHK := Lib.hid SHK
      have OWN := Lib.hid own
      have RR := Lib.hid (RA.out.below (Nat.le_refl _) hB)
      have kk : k ≤ 251 := by omega
      clear own hx hy
      go_wp2_with fail
      go_loop [11, 12, 14, 23] (fun y pw cc i => ∃ j : Nat, i = .int .i64 (j : Int) ∧ j ≤ m ∧ y = .int .i64 (Lw.splS p sec more x j) ∧ pw = .int .i64 (Lw.powS p x j)) (fun _ _ _ i => m - (intOf i).toNat)
      case atStart => exact ⟨0, rfl, by omega, by rw [S0.out], by rw [P0.out]⟩
      case round =>
        obtain ⟨j, rfl, hj, rfl, rfl⟩ := hrel
        obtain ⟨q1, q2⟩ := PB.out x j
        obtain ⟨t1, t2⟩ := SB.out x j
        by_cases hjl : j < m
        · have hl : j < more.length := by rw [LM.out]; exact hjl
          obtain ⟨ad, rfl, had, hcell⟩ := RR.out.at1 hjl (Lw.intsV_get hl)
          obtain ⟨c1, c2⟩ := HBM.out _ (List.getElem_mem hl)
          have PNJ := PN.out x j
          have SNJ := SN.out x j
          obtain ⟨u1, u2⟩ := PB.out x (j + 1)
          rw [Lw.getD_at hl] at SNJ
          obtain ⟨cv, hc⟩ : ∃ z, more[j] = z := ⟨_, rfl⟩
          obtain ⟨P, hP⟩ : ∃ z, Lw.powS p x j = z := ⟨_, rfl⟩
          obtain ⟨P', hP'⟩ : ∃ z, Lw.powS p x (j + 1) = z := ⟨_, rfl⟩
          obtain ⟨S, hS⟩ : ∃ z, Lw.splS p sec more x j = z := ⟨_, rfl⟩
          rw [hc] at hcell SNJ c1 c2
          rw [hP] at q1 q2 PNJ
          rw [hP'] at PNJ SNJ u1 u2
          rw [hS] at SNJ t1 t2
          rw [hP, hS]
          obtain ⟨m1, m2⟩ := Lw.mul_ab (κ := P) (x := x) (by omega) (by omega) x0 (by omega)
          have m3 : 0 ≤ P * x := Int.mul_nonneg q1 x0
          obtain ⟨m4, m5⟩ := Lw.mul_ab (κ := cv) (x := P') (by omega) (by omega) u1 (by omega)
          have m6 : 0 ≤ cv * P' := Int.mul_nonneg c1 u1
          have e1 : IntKind.i64.wrap (P * x) = P * x := by rw [IntKind.wrap_i64]; omega
          have e2 : (P * x).tmod p = P' := by rw [Int.tmod_eq_emod_of_nonneg m3, PNJ]
          have e3 : IntKind.i64.wrap (cv * P') = cv * P' := by rw [IntKind.wrap_i64]; omega
          have e4 : IntKind.i64.wrap (S + cv * P') = S + cv * P' := by rw [IntKind.wrap_i64]; omega
          have e5 : (S + cv * P').tmod p = (S + cv * P') % p := Int.tmod_eq_emod_of_nonneg (by omega)
          have SNJ := Lib.hid SNJ
          have HP' := Lib.hid hP'
          have hjl' : (j : Int) < (m : Int) := by omega
          clear hc hP hP' hS PNJ hl had
          go_wp2_with fail
          go_round
          case rel => exact ⟨j + 1, by go_num, by omega, by rw [SNJ.out], by rw [HP'.out]⟩
          case measure => simp [intOf]; omega
        · have hjm : j = m := by omega
          subst hjm
          rw [SHK.out]
          clear q1 q2 t1 t2
          go_wp2_with (at_builtin; refine Lw.wpList_app elPnt rfl _ _ rfl rfl (OWN.out.alloc _) rfl (by first | exact Lw.Rd.nil _ _ _ | exact Lw.Rd.lit (Lw.blk_new' (by simp) _ _) rfl rfl | exact Lw.Rd.lit (Lw.blk_alloc (Lw.blk_new' (by simp) _ _) _) rfl rfl) (Lw.pairs_one _ _) (by omega) (Lw.balloc hB _) (Nat.le_refl _) (by simp; omega) ?_; intro v2 w5 own5 hb5 _ _)
          have O5 := Lib.hid own5
          clear own5
          go_wp2
          go_roundw
          case rel => exact ⟨k + 1, by rw [← HX.out]; go_num, by omega, by rw [PK.out, Lw.pairsV_append]; exact O5.out, hb5⟩
          case measure => simp [intOf]; omega
    · have hkn : k = n := by omega
      subst hkn
      have hnl : ¬ (k : Int) + 1 ≤ (k : Int) := by omega
      obtain ⟨D, e, rfl, hg, _⟩ := Lw.ownsForm own
      have RR := Lib.hid (Lw.Rd.of_own own)
      clear own
      go_wp2
      go_ret
      exact ⟨D, e, rfl, RR.out, hB⟩
end Go.Proofs.Ytkgfaaabhmcdoaa
