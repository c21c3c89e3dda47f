/- Contract of the reference's Factor: the list of the prime factors. -/
import Derived.Test.YtlgegdmnbhoepaaSl
import Derived.Test.YtlgegdmnbhoepaaNum
import Derived.Test.YtlgegdmnbhoepaaFac
namespace Lw
def facP (n : Nat) : List (Int × Int) := (fac n).map fun x => ((x.1 : Int), (x.2 : Int))
theorem fac_length_le : ∀ n : Nat, (fac n).length ≤ n := by
  intro n
  induction n using Nat.strongRecOn with
  | ind n ih =>
    by_cases h : 2 ≤ n
    · rw [fac_cons h]
      obtain ⟨h1, h2, _⟩ := minFac_spec h
      have hlt := strip_lt h1 (by omega) (Nat.mod_eq_zero_of_dvd h2)
      have := ih _ hlt
      simp only [List.length_cons]; omega
    · rw [fac_small (by omega)]; simp
/-- what has been gathered so far: pre, with q left -/
def FacSt (m q p : Nat) (pre : List (Nat × Nat)) : Prop := fac m = pre ++ fac q ∧ NoBelow p q
def preP (pre : List (Nat × Nat)) : List (Int × Int) := pre.map fun x => ((x.1 : Int), (x.2 : Int))
theorem FacSt.start (m : Nat) : FacSt m m 2 [] := ⟨rfl, NoBelow.two _⟩
theorem FacSt.skip {m q p : Nat} {pre : List (Nat × Nat)} (h : FacSt m q p pre) (hn : ¬ q % p = 0) : FacSt m q (p + 1) pre := ⟨h.1, h.2.next hn⟩
theorem FacSt.len {m q p : Nat} {pre : List (Nat × Nat)} (h : FacSt m q p pre) : pre.length ≤ m := by
  have := fac_length_le m; rw [h.1] at this; simp at this; omega
theorem FacSt.take {m q p : Nat} {pre : List (Nat × Nat)} (h : FacSt m q p pre) (hp : 2 ≤ p) (hq : 0 < q) (hd : q % p = 0) : FacSt m (strip p q) (p + 1) (pre ++ [(p, vp p q)]) := by
  have h2 : 2 ≤ q := by
    have := Nat.le_of_dvd hq (Nat.dvd_of_mod_eq_zero hd); omega
  refine ⟨?_, h.2.strip hp hq⟩
  rw [h.1, fac_step h2 hp hd h.2]; simp
theorem FacSt.done {m q p : Nat} {pre : List (Nat × Nat)} (h : FacSt m q p pre) (hq : q < p) : pre = fac m := by
  have : q ≤ 1 := by
    by_cases h2 : 2 ≤ q
    · have := h.2 q h2 (Nat.dvd_refl _); omega
    · omega
  rw [h.1, fac_small this]; simp
theorem preP_snoc (pre : List (Nat × Nat)) (x : Nat × Nat) : pairsV .i64 .i64 (preP (pre ++ [x])) = pairsV .i64 .i64 (preP pre) ++ [.int .i64 (x.1 : Int), .int .i64 (x.2 : Int)] := by simp [preP, pairsV]
end Lw
set_option linter.unusedVariables false
set_option linter.unusedSimpArgs false
namespace Go.Proofs.Ytlgegdmnbhoepaa
open Go.RowKit
theorem infoPower : (Try.prog.info? 142).map (fun i => (i.zero, i.size, i.bytes)) = some (some (.agg #[.int .i64 0, .int .i64 0]), 2, 16) := by kernel_rfl
set_option maxHeartbeats 1000000 in
theorem ref_Factor (n : Int) (w : World) (h1 : 1 ≤ n) (h2 : n ≤ 1048576) :
    Calls Try.prog 104 #[.int .i64 n] w (Lw.OwnRes 142 2 (Lw.pairsV .i64 .i64 (Lw.facP n.toNat)) (Lw.fac n.toNat).length w) := by
  obtain ⟨m, rfl⟩ := Int.eq_ofNat_of_zero_le (by omega : 0 ≤ n)
  obtain ⟨i0, hi, hz0, hz1, hz2⟩ := info_parts infoPower
  go_enter Try.func104, Try.ntmps104
  go_wp2
  go_loopw [0, 3, 4] (fun n l p wr => ∃ (q k : Nat) (pre : List (Nat × Nat)), n = .int .i64 (q : Int) ∧ p = .int .i64 (k : Int) ∧ 1 ≤ q ∧ q ≤ m ∧ 2 ≤ k ∧ k ≤ m + 2 ∧ Hid (Lw.FacSt m q k pre) ∧ wr.ownsRow w.heap.size 142 2 l pre.length (Lw.pairsV .i64 .i64 (Lw.preP pre)) ∧ Below w.heap.size w wr)
    (fun n l p _ => (intOf n + 1 - intOf p).toNat)
  case atStart => exact ⟨m, 2, [], rfl, rfl, by omega, by omega, by omega, by omega, Lw.FacSt.start m, World.ownsRow_nil _ _ _ _, Below.refl _ _⟩
  case round =>
    obtain ⟨q, k, pre, rfl, rfl, q1, q2, k1, k2, H, own, hB⟩ := hrel
    have hlen := H.out.len
    have hsz := hB.size
    have OWN := Lib.hid own
    clear own
    by_cases hkq : k ≤ q
    · by_cases hd : q % k = 0
      · have hd1 : ((q : Int) % (k : Int) != 0) = false := by simp; omega
        have T := Lib.hid (H.out.take k1 q1 hd)
        have HD := Lib.hid hd
        clear hd
        go_wp2
        go_loop [0, 5] (fun n j => ∃ (r i : Nat), n = .int .i64 (r : Int) ∧ j = .int .i64 (i : Int) ∧ 1 ≤ r ∧ r ≤ q ∧ i + r ≤ q + 1 ∧ Hid (Lw.vp k q = i + Lw.vp k r ∧ Lw.strip k q = Lw.strip k r)) (fun n _ => (intOf n).toNat)
        case atStart => exact ⟨q, 0, rfl, rfl, q1, Nat.le_refl _, by omega, by simp, rfl⟩
        case round =>
          obtain ⟨r, i, rfl, rfl, r1, r2, r3, G⟩ := hrel
          by_cases he : r % k = 0
          · have he1 : ((r : Int) % (k : Int) == 0) = true := by simp; omega
            have hdiv : r / k < r := Nat.div_lt_self (by omega) (by omega)
            have hpos : 0 < r / k := Nat.div_pos (Nat.le_of_dvd (by omega) (Nat.dvd_of_mod_eq_zero he)) (by omega)
            have N : Hid (Lw.vp k q = i + 1 + Lw.vp k (r / k) ∧ Lw.strip k q = Lw.strip k (r / k)) := by
              obtain ⟨g1, g2⟩ := G.out
              exact ⟨by rw [g1, Lw.vp_yes (by omega) (by omega) he]; omega, by rw [g2, Lw.strip_yes (by omega) (by omega) he]⟩
            clear he G
            go_wp2
            go_round
            case rel => exact ⟨r / k, i + 1, by go_num, by go_num, hpos, by omega, by omega, N⟩
            case measure => simp [intOf]; omega
          · have he1 : ((r : Int) % (k : Int) == 0) = false := by simp; omega
            have E1 : i = Lw.vp k q ∧ r = Lw.strip k q := by
              obtain ⟨g1, g2⟩ := G.out
              rw [Lw.vp_no he] at g1; rw [Lw.strip_no he] at g2
              exact ⟨by omega, g2.symm⟩
            have hlt : r < q := by rw [E1.2]; exact Lw.strip_lt k1 q1 HD.out
            have T2 : Hid (Lw.FacSt m r (k + 1) (pre ++ [(k, i)])) := by
              have := T.out
              rw [← E1.1, ← E1.2] at this; exact this
            clear he G T E1
            go_wp2_with (at_builtin; refine wpList_append_own _ rfl _ _ 154 rfl w.heap.size 142 i0 _ 2 16 Try.underlying154 hi hz0 hz1 hz2 rfl (by decide) _ _ _ rfl (OWN.out.alloc _) ⟨wr.heap.size, 0, none⟩ 1 1 [.int .i64 (k : Int), .int .i64 (i : Int)] rfl rfl (Lw.cells_new _ _ _) (Lw.one2 _ _ _ _) (Lw.max_of (by omega)) (by omega) (Lw.grow_ok hB _) ?_; intro v' w1 hown' hgrow _)
            have B1 := Lw.grown_own (hB.alloc hB.size _) (OWN.out.alloc (.cells #[.int .i64 (k : Int), .int .i64 (i : Int)] 142)) (Nat.le_refl _) hgrow
            have O1 := Lib.hid hown'
            clear hown' hgrow
            go_wp2
            go_roundw
            case rel => exact ⟨r, k + 1, pre ++ [(k, i)], rfl, by go_num, r1, by omega, by omega, by omega, T2, by rw [Lw.preP_snoc, List.length_append]; exact O1.out, B1⟩
            case measure => simp [intOf]; omega
      · have hd1 : ((q : Int) % (k : Int) != 0) = true := by simp; omega
        have T := Lib.hid (H.out.skip hd)
        clear hd
        go_wp2
        go_roundw
        case rel => exact ⟨q, k + 1, pre, rfl, by go_num, q1, q2, by omega, by omega, T, OWN.out, hB⟩
        case measure => simp [intOf]; omega
    · have E := Lib.hid (H.out.done (by omega))
      go_wp2
      go_ret
      obtain ⟨A, c, rfl, _⟩ := Lw.ownsForm OWN.out
      have := OWN.out
      rw [E.out] at this ⊢
      simp only [Int.toNat_natCast]
      exact ⟨A, c, rfl, this, hB⟩
end Go.Proofs.Ytlgegdmnbhoepaa
