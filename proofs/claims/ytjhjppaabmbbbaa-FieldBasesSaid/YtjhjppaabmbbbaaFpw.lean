/- field.pow walked: powers of a member; field.Inv. -/
import Derived.Test.YtjhjppaabmbbbaaFdx
import Derived.Test.YtjhjppaabmbbbaaPow
namespace Lw
open Go Go.RowKit
theorem Ab.sq {G : Type} (A : Ab G) (v : G) (j : Nat) : A.pow (A.mul v v) j = A.pow v (j + j) := by rw [A.mul_pow, A.pow_add]
theorem Ab.step_odd {G : Type} (A : Ab G) (u v : G) {k : Int} (h : 0 < k) (ho : k % 2 = 1) : A.mul (A.mul u v) (A.pow (A.mul v v) (k / 2).toNat) = A.mul u (A.pow v k.toNat) := by
  obtain ⟨j, rfl⟩ : ∃ j : Nat, k = 2 * (j : Int) + 1 := ⟨(k / 2).toNat, by omega⟩
  rw [A.sq, show ((2 * (j : Int) + 1) / 2).toNat = j by omega, show (2 * (j : Int) + 1).toNat = j + j + 1 by omega, A.assoc]
  congr 1
  exact A.comm _ _
theorem Ab.step_even {G : Type} (A : Ab G) (u v : G) {k : Int} (h : 0 < k) (ho : ¬ k % 2 = 1) : A.mul u (A.pow (A.mul v v) (k / 2).toNat) = A.mul u (A.pow v k.toNat) := by
  obtain ⟨j, rfl⟩ : ∃ j : Nat, k = 2 * (j : Int) := ⟨(k / 2).toNat, by omega⟩
  rw [A.sq, show ((2 * (j : Int)) / 2).toNat = j by omega, show (2 * (j : Int)).toNat = j + j by omega]
end Lw
set_option linter.unusedVariables false
set_option linter.unusedSimpArgs false
namespace Go.Proofs.Ytjhjppaabmbbbaa
open Go.RowKit
set_option maxRecDepth 100000 in
set_option maxHeartbeats 4000000 in
theorem field_pow (p S : Int) (A : Option Addr) (n c : Nat) (f : List Int) (F : Lw.Fld p f) (x : Lw.Mem0 p f) (k : Nat) (w : World) (RA : Lw.Rd w 1 A n (Lw.intsV .i64 f)) (hk : k ≤ 4096) :
    Calls Try.prog 94 #[.agg #[.int .i64 p, .int .i64 S, .slice A n c], .int .i64 x.1, .int .i64 (k : Int)] w fun e w' => e = .returned (.int .i64 ((Lw.fAb F).pow x k).1) ∧ Below w.heap.size w w' := by
  have la : f.length = n := by have := RA.1; simpa [Lw.intsV] using this
  obtain ⟨W, hW⟩ : ∃ W, w.alloc (.cells #[.int .i64 p, .int .i64 S, .slice A n c] 130) = W := ⟨_, rfl⟩
  have B0 := show W.heap[w.heap.size]? = some (.cells #[.int .i64 p, .int .i64 S, .slice A n c] 130 (0, 0)) from hW ▸ Lw.blk_new _ _ _
  have l0 := Lw.blk_cell B0 0; have l1 := Lw.blk_cell B0 1; have l2 := Lw.blk_cell B0 2
  simp at l0 l1 l2
  have hBW : Below w.heap.size w W := by rw [← hW]; exact Lw.balloc (Below.refl _ _) _
  have hWs : w.heap.size < W.heap.size := by rw [← hW]; simp
  have sz := F.size
  rw [la] at sz
  have mb := Lib.hid (fun (y : Lw.Mem0 p f) => (show 1 ≤ y.1 ∧ y.1 < 4096 from ⟨y.2.1, by have := y.2.2; have := F.size; omega⟩))
  have MU := Lib.hid (fun (y z : Lw.Mem0 p f) W' (hb : Below W.heap.size W W') => (show Calls Try.prog 133 #[.agg #[.int .i64 p, .int .i64 S, .slice A n c], .int .i64 y.1, .int .i64 z.1] W' fun e w' => e = .returned (.int .i64 ((Lw.fAb F).mul y z).1) ∧ Below W'.heap.size W' w' from field_mul p S A n c f y.1 z.1 W' ((RA.below (Nat.le_refl _) hBW).below (Nat.le_refl _) hb) F.p1 F.p2 F.pp F.good (by have := F.len; omega) sz (by have := (mb.out y).1; omega) (mb.out y).2 (by have := (mb.out z).1; omega) (mb.out z).2))
  have SO := Lib.hid (fun u v (k : Int) (h : 0 < k) (ho : k % 2 = 1) => (Lw.fAb F).step_odd u v h ho)
  have SE := Lib.hid (fun u v (k : Int) (h : 0 < k) (ho : ¬ k % 2 = 1) => (Lw.fAb F).step_even u v h ho)
  have S0 : Hid ((Lw.fAb F).mul (Lw.fAb F).one ((Lw.fAb F).pow x ((k : Int)).toNat) = (Lw.fAb F).pow x k) := Lib.hid (by rw [(Lw.fAb F).one_mul, Int.toNat_natCast])
  have SF : Hid (∀ u v, (Lw.fAb F).mul u ((Lw.fAb F).pow v 0) = u) := fun u v => (Lw.fAb F).mul_one u
  have O1 : Hid ((Lw.fAb F).one.1 = 1) := rfl
  have kk : (k : Int) ≤ 4096 := by omega
  generalize (Lw.fAb F).pow x k = R at *
  generalize (Lw.fAb F).one = one at *
  have HW := Lib.hid hW
  clear hW RA sz B0
  go_enter Try.func94, Try.ntmps94
  go_wp2
  rw [HW.out]
  go_loopw [7, 1, 2] (fun x' a' k' wr => ∃ (u v : Lw.Mem0 p f) (k1 : Int), 0 ≤ k1 ∧ k1 ≤ 4096 ∧ x' = .int .i64 u.1 ∧ a' = .int .i64 v.1 ∧ k' = .int .i64 k1 ∧ Hid ((Lw.fAb F).mul u ((Lw.fAb F).pow v k1.toNat) = R) ∧ Below W.heap.size W wr) (fun _ _ k' _ => (intOf k').toNat)
  case atStart => exact ⟨one, x, k, by omega, kk, by rw [O1.out], rfl, rfl, S0, Below.refl _ _⟩
  case round =>
    obtain ⟨u, v, k1, k2, k3, rfl, rfl, rfl, H, hB⟩ := hrel
    have c0 : wr.cell? ⟨w.heap.size, 0, none⟩ = some (.int .i64 p) := (hB.cell (p := ⟨w.heap.size, 0, none⟩) hWs).trans l0
    have c1 : wr.cell? ⟨w.heap.size, 1, none⟩ = some (.int .i64 S) := (hB.cell (p := ⟨w.heap.size, 1, none⟩) hWs).trans l1
    have c2 : wr.cell? ⟨w.heap.size, 2, none⟩ = some (.slice A n c) := (hB.cell (p := ⟨w.heap.size, 2, none⟩) hWs).trans l2
    by_cases hlt : 0 < k1
    · have hand : bits .and .i64 k1 1 = k1 % 2 := Lw.and_one k1 k2 (by omega)
      by_cases ho : k1 % 2 = 1
      · have hb : (bits .and .i64 k1 1 == 1) = true := by rw [hand]; simpa using ho
        have NN := Lib.hid (SO.out u v k1 hlt ho)
        have M1 := Lib.hid (MU.out u v wr hB)
        have M2 := Lib.hid (MU.out v v)
        clear hand ho SO SE
        generalize (Lw.fAb F).mul u v = uv at *
        generalize (Lw.fAb F).mul v v = vv at *
        go_wp2_with fail
        refine M1.out.mono ?_
        rintro e w2 ⟨rfl, hb2⟩
        have hB2 := Lw.bt hB hb2
        have d0 : w2.cell? ⟨w.heap.size, 0, none⟩ = some (.int .i64 p) := (hB2.cell (p := ⟨w.heap.size, 0, none⟩) hWs).trans l0
        have d1 : w2.cell? ⟨w.heap.size, 1, none⟩ = some (.int .i64 S) := (hB2.cell (p := ⟨w.heap.size, 1, none⟩) hWs).trans l1
        have d2 : w2.cell? ⟨w.heap.size, 2, none⟩ = some (.slice A n c) := (hB2.cell (p := ⟨w.heap.size, 2, none⟩) hWs).trans l2
        go_wp2_with fail
        refine (M2.out w2 hB2).mono ?_
        rintro e w3 ⟨rfl, hb3⟩
        go_wp2_with fail
        go_roundw
        case rel => exact ⟨uv, vv, _, by omega, by omega, rfl, rfl, rfl, NN.out.trans H.out, Lw.bt hB2 hb3⟩
        case measure => simp [intOf]; omega
      · have hb : (bits .and .i64 k1 1 == 1) = false := by rw [hand]; simpa using ho
        have NN := Lib.hid (SE.out u v k1 hlt ho)
        have M2 := Lib.hid (MU.out v v wr hB)
        clear hand ho SO SE
        generalize (Lw.fAb F).mul v v = vv at *
        go_wp2_with fail
        refine M2.out.mono ?_
        rintro e w3 ⟨rfl, hb3⟩
        go_wp2_with fail
        go_roundw
        case rel => exact ⟨u, vv, _, by omega, by omega, rfl, rfl, rfl, NN.out.trans H.out, Lw.bt hB hb3⟩
        case measure => simp [intOf]; omega
    · obtain rfl : k1 = 0 := by omega
      have E : Hid (u = R) := (SF.out u v).symm.trans H.out
      clear H SO SE SF MU
      go_wp2_with fail
      go_ret
      exact ⟨by rw [← E.out]; rfl, hBW.trans (hB.mono hBW.size)⟩
theorem field_Inv_bad (p : Int) (A : Option Addr) (n c : Nat) (f : List Int) (a : Int) (w : World) (RA : Lw.Rd w 1 A n (Lw.intsV .i64 f)) (h : ¬ Lw.fldE p f = 0) :
    Calls Try.prog 46 #[.int .i64 p, .slice A n c, .int .i64 a] w fun e w' => e = .returned (.tuple #[.int .i64 0, .int .i64 (Lw.fldE p f)]) ∧ Below w.heap.size w w' := by
  have X := Lib.hid (fun B m d W (hb : Below w.heap.size w W) => field_elements_bad p A n c f B m d W (RA.below (Nat.le_refl w.heap.size) hb) h)
  have z : (Lw.fldE p f != 0) = true := by simpa using h
  have z' : (Lw.fldE p f == 0) = false := by simpa using h
  generalize Lw.fldE p f = E at *
  clear RA h
  go_enter Try.func46, Try.ntmps46
  go_wp2_with fail
  refine (X.out _ _ _ _ (Lw.balloc (Below.refl _ _) _)).mono ?_
  rintro e w1 ⟨rfl, hb1⟩
  go_wp2_with fail
  go_ret2
  exact ⟨rfl, Lw.balloc (Lw.bt (Lw.balloc (Below.refl _ _) _) hb1) _⟩
theorem field_Inv_out (p : Int) (A : Option Addr) (n c : Nat) (f : List Int) (a : Int) (w : World) (RA : Lw.Rd w 1 A n (Lw.intsV .i64 f)) (h : Lw.fldE p f = 0) (h2 : ¬ Lw.elB (p ^ (n - 1)) [a] = true) :
    Calls Try.prog 46 #[.int .i64 p, .slice A n c, .int .i64 a] w fun e w' => e = .returned (.tuple #[.int .i64 0, .int .i64 2]) ∧ Below w.heap.size w w' := by
  have X := fun W (hb : Below w.heap.size w W) (RB : Lw.Rd W 1 (some ⟨w.heap.size, 0, none⟩) 1 (Lw.intsV .i64 [a])) => field_elements_ok p A n c f (some ⟨w.heap.size, 0, none⟩) 1 1 [a] W (RA.below (Nat.le_refl w.heap.size) hb) RB h (by omega)
  rw [if_neg h2] at X
  replace X := Lib.hid X
  generalize p ^ (n - 1) = S at *
  clear RA h h2
  go_enter Try.func46, Try.ntmps46
  go_wp2_with fail
  refine (X.out _ (Lw.balloc (Below.refl _ _) _) (by exact Lw.Rd.lit (Lw.blk_new' (by simp) _ _) rfl rfl)).mono ?_
  rintro e w1 ⟨rfl, hb1⟩
  go_wp2_with fail
  go_ret2
  exact ⟨rfl, Lw.balloc (Lw.bt (Lw.balloc (Below.refl _ _) _) hb1) _⟩
theorem field_Inv_zero (p : Int) (A : Option Addr) (n c : Nat) (f : List Int) (w : World) (RA : Lw.Rd w 1 A n (Lw.intsV .i64 f)) (h : Lw.fldE p f = 0) (h2 : Lw.elB (p ^ (n - 1)) [0] = true) :
    Calls Try.prog 46 #[.int .i64 p, .slice A n c, .int .i64 0] w fun e w' => e = .returned (.tuple #[.int .i64 0, .int .i64 5]) ∧ Below w.heap.size w w' := by
  have X := fun W (hb : Below w.heap.size w W) (RB : Lw.Rd W 1 (some ⟨w.heap.size, 0, none⟩) 1 (Lw.intsV .i64 [0])) => field_elements_ok p A n c f (some ⟨w.heap.size, 0, none⟩) 1 1 [0] W (RA.below (Nat.le_refl w.heap.size) hb) RB h (by omega)
  rw [if_pos h2] at X
  replace X := Lib.hid X
  generalize p ^ (n - 1) = S at *
  clear RA h h2
  go_enter Try.func46, Try.ntmps46
  go_wp2_with fail
  refine (X.out _ (Lw.balloc (Below.refl _ _) _) (by exact Lw.Rd.lit (Lw.blk_new' (by simp) _ _) rfl rfl)).mono ?_
  rintro e w1 ⟨rfl, hb1⟩
  go_wp2_with fail
  go_ret2
  exact ⟨rfl, Lw.balloc (Lw.bt (Lw.balloc (Below.refl _ _) _) hb1) _⟩
set_option maxHeartbeats 4000000 in
theorem field_Inv_ok (p : Int) (A : Option Addr) (n c : Nat) (f : List Int) (F : Lw.Fld p f) (x : Lw.Mem0 p f) (w : World) (RA : Lw.Rd w 1 A n (Lw.intsV .i64 f)) (h : Lw.fldE p f = 0) (h2 : Lw.elB (p ^ (n - 1)) [x.1] = true) (hn : Lw.fN p f = (p ^ (n - 1)).toNat - 1) (s1 : 2 ≤ p ^ (n - 1)) (s2 : p ^ (n - 1) ≤ 4096) :
    Calls Try.prog 46 #[.int .i64 p, .slice A n c, .int .i64 x.1] w fun e w' => e = .returned (.tuple #[.int .i64 ((Lw.fAb F).pow x (Lw.fN p f - 1)).1, .int .i64 0]) ∧ Below w.heap.size w w' := by
  have X := fun W (hb : Below w.heap.size w W) (RB : Lw.Rd W 1 (some ⟨w.heap.size, 0, none⟩) 1 (Lw.intsV .i64 [x.1])) => field_elements_ok p A n c f (some ⟨w.heap.size, 0, none⟩) 1 1 [x.1] W (RA.below (Nat.le_refl w.heap.size) hb) RB h (by omega)
  rw [if_pos h2] at X
  replace X := Lib.hid X
  have PW := fun W (hb : Below w.heap.size w W) => field_pow p (p ^ (n - 1)) A n c f F x (Lw.fN p f - 1) W (RA.below (Nat.le_refl _) hb) (by omega)
  have e1 : ((Lw.fN p f - 1 : Nat) : Int) = p ^ (n - 1) - 2 := by omega
  rw [e1] at PW
  replace PW := Lib.hid PW
  have x1 := x.2.1
  have z0 : (x.1 == 0) = false := by simp; omega
  generalize ((Lw.fAb F).pow x (Lw.fN p f - 1)).1 = V at *
  generalize p ^ (n - 1) = S at *
  obtain ⟨a, ha⟩ : ∃ a, x.1 = a := ⟨_, rfl⟩
  rw [ha] at X PW z0 x1
  rw [ha]
  clear RA h h2 hn e1 ha
  go_enter Try.func46, Try.ntmps46
  go_wp2_with fail
  refine (X.out _ (Lw.balloc (Below.refl _ _) _) (by exact Lw.Rd.lit (Lw.blk_new' (by simp) _ _) rfl rfl)).mono ?_
  rintro e w1 ⟨rfl, hb1⟩
  have hBw1 := Lw.bt (Lw.balloc (Below.refl _ _) _) hb1
  go_wp2_with fail
  refine (PW.out _ (Lw.balloc hBw1 _)).mono ?_
  rintro e w2 ⟨rfl, hb2⟩
  go_wp2_with fail
  go_ret2
  exact ⟨rfl, Lw.bt (Lw.balloc hBw1 _) hb2⟩
end Go.Proofs.Ytjhjppaabmbbbaa
