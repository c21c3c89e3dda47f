/- share.Split and the reference's Split: values of a polynomial at 1, 2, .. -/
import Derived.Test.YtkgfaaabhmcdoaaPlv
import Derived.Test.YtkgfaaabhmcdoaaCat
namespace Lw
open Go Go.RowKit
theorem polyE_nil (p : Int) : polyE p [] = pprE p := by
  by_cases h : pprE p = 0
  · rw [poly_in h (by decide), h]; rfl
  · rw [poly_p h]
/-- the reference's rounds: power and sum -/
def powS (p x : Int) : Nat → Int
  | 0 => 1
  | k + 1 => powS p x k * x % p
def splS (p sec : Int) (more : List Int) (x : Int) : Nat → Int
  | 0 => sec
  | k + 1 => (splS p sec more x k + more.getD k 0 * powS p x (k + 1)) % p
theorem powS_eq {p x : Int} (hp : 2 ≤ p) : ∀ k, powS p x k = x ^ k % p
  | 0 => by show (1 : Int) = x ^ 0 % p; rw [Int.pow_zero, Int.emod_eq_of_lt (by omega) (by omega)]
  | k + 1 => by
    show powS p x k * x % p = x ^ (k + 1) % p
    rw [powS_eq hp k, Int.pow_succ, Int.mul_emod, Int.emod_emod_of_dvd _ (Int.dvd_refl p), ← Int.mul_emod]
theorem splS_sum {p sec x : Int} {more : List Int} (hp : 2 ≤ p) (s0 : 0 ≤ sec) (s1 : sec < p) : ∀ k, splS p sec more x k = sumI (sec :: more) x (k + 1) % p
  | 0 => by
    show sec = (0 + sec * x ^ 0) % p
    rw [Int.pow_zero, Int.mul_one, Int.zero_add, Int.emod_eq_of_lt s0 s1]
  | k + 1 => by
    show (splS p sec more x k + more.getD k 0 * powS p x (k + 1)) % p = (sumI (sec :: more) x (k + 1) + (sec :: more).getD (k + 1) 0 * x ^ (k + 1)) % p
    rw [splS_sum hp s0 s1 k, powS_eq hp, List.getD_cons_succ, Int.add_emod, Int.emod_emod_of_dvd _ (Int.dvd_refl p), Int.mul_emod, Int.emod_emod_of_dvd _ (Int.dvd_refl p), ← Int.mul_emod, ← Int.add_emod]
theorem spl_horn {p sec x : Int} {more : List Int} (hp : 2 ≤ p) (s0 : 0 ≤ sec) (s1 : sec < p) (x0 : 0 ≤ x) (x1 : x < p) : splS p sec more x more.length = hornV p (sec :: more) x := by
  have h := horn_eval p x (sec :: more)
  rw [Int.emod_eq_of_lt x0 x1] at h
  rw [splS_sum hp s0 s1, h, ← sumI_all]; rfl
theorem powS_bd {p x : Int} (hp : 2 ≤ p) (k : Nat) : 0 ≤ powS p x k ∧ powS p x k < p := by
  rw [powS_eq hp]; exact ⟨Int.emod_nonneg _ (by omega), Int.emod_lt_of_pos _ (by omega)⟩
theorem splS_bd {p sec x : Int} {more : List Int} (hp : 2 ≤ p) (s0 : 0 ≤ sec) (s1 : sec < p) (k : Nat) : 0 ≤ splS p sec more x k ∧ splS p sec more x k < p := by
  rw [splS_sum hp s0 s1]; exact ⟨Int.emod_nonneg _ (by omega), Int.emod_lt_of_pos _ (by omega)⟩
theorem horn_bd {p x : Int} (hp : 2 ≤ p) (zs : List Int) : 0 ≤ hornV p zs x ∧ hornV p zs x < p := by
  cases zs with
  | nil => exact ⟨Int.le_refl _, by show (0 : Int) < p; omega⟩
  | cons z zs => exact ⟨Int.emod_nonneg _ (by omega), Int.emod_lt_of_pos _ (by omega)⟩
/-- the shares -/
def ptsL (p : Int) (a : List Int) (n : Nat) : List (Int × Int) := (List.range n).map fun (i : Nat) => (((i : Nat) : Int) + 1, hornV p a (((i : Nat) : Int) + 1))
theorem pts_succ (p : Int) (a : List Int) (n : Nat) : ptsL p a (n + 1) = ptsL p a n ++ [((n : Int) + 1, hornV p a ((n : Int) + 1))] := by unfold ptsL; rw [List.range_succ, List.map_append, List.map_singleton]
theorem pts_len (p : Int) (a : List Int) (n : Nat) : (ptsL p a n).length = n := by simp [ptsL]
theorem pairs_one (x y : Int) : ∀ u ∈ [Value.int .i64 x, Value.int .i64 y], u.oneCell' = true := by intro u hu; simp at hu; rcases hu with rfl | rfl <;> rfl
def PtsR (p : Int) (a : List Int) (n : Nat) (w : World) (e : Ending) (w' : World) : Prop := ∃ C g, e = .returned (.tuple #[.slice C n g, .int .i64 0]) ∧ Rd w' 2 C n (pairsV .i64 .i64 (ptsL p a n)) ∧ Below w.heap.size w w'
def PtsF (p : Int) (a : List Int) (n : Nat) (w : World) (e : Ending) (w' : World) : Prop := ∃ C g, e = .returned (.slice C n g) ∧ Rd w' 2 C n (pairsV .i64 .i64 (ptsL p a n)) ∧ Below w.heap.size w w'
end Lw
set_option linter.unusedVariables false
set_option linter.unusedSimpArgs false
namespace Go.Proofs.Ytkgfaaabhmcdoaa
open Go.RowKit
theorem elPnt : Lw.El Try.prog 56 81 (.agg #[.int .i64 0, .int .i64 0]) 2 16 := Lw.El.mk' Try.underlying56 (by kernel_rfl) rfl (by decide) (by decide)
set_option maxHeartbeats 1000000 in
theorem longs_grow (n : Nat) (w : World) (hn : n ≤ 16777216) :
    Calls Try.prog 111 #[.slice none 0 0, .int .i64 (n : Int)] w fun e w' => ∃ v, e = .returned v ∧ w'.ownsRow w.heap.size 2 1 v 0 [] ∧ Below w.heap.size w w' := by
  by_cases h0 : 0 < n
  · go_enter Try.func111, Try.ntmps111
    go_wp2_with (at_builtin; refine Lw.wpList_made elPly Try.underlying3 rfl _ _ rfl rfl rfl h0 hn ?_; intro c cs hc1 hc2 hc3)
    go_ret
    refine ⟨_, rfl, ⟨by simp, .inr ⟨w.heap.size, c, cs, rfl, Nat.le_refl _, heap_alloc_new _ _, Nat.zero_le _, hc2, by omega, by simp⟩⟩, Lw.balloc (Below.drew (Below.refl _ _)) _⟩
  · have hn0 : n = 0 := by omega
    subst hn0
    go_enter Try.func111, Try.ntmps111
    go_wp2
    go_ret
    exact ⟨_, rfl, World.ownsRow_nil _ _ _ _, Below.refl _ _⟩
set_option maxHeartbeats 2000000 in
theorem longs_cat (A A1 A2 : Option Addr) (c c1 c2 n1 n2 : Nat) (xs ys : List Value) (w : World) (R : Lw.Rd w 1 A 2 [.slice A1 n1 c1, .slice A2 n2 c2]) (R1 : Lw.Rd w 1 A1 n1 xs) (R2 : Lw.Rd w 1 A2 n2 ys) (o1 : ∀ u ∈ xs, u.oneCell' = true) (o2 : ∀ u ∈ ys, u.oneCell' = true) (hn : n1 + n2 ≤ 16777216) :
    Calls Try.prog 69 #[.slice A 2 c] w (Lw.OwnRes 2 1 (xs ++ ys) (n1 + n2) w) := by
  obtain ⟨ad, rfl, had, q0⟩ := R.at1 (k := 0) (by decide) rfl
  obtain ⟨ad', e', _, q1⟩ := R.at1 (k := 1) (by decide) rfl
  obtain rfl : ad = ad' := by injection e'
  rw [Lw.add_zero'] at q0
  rw [show ad.add 1 = ⟨ad.block, ad.off + 1, none⟩ from Lw.add_succ' ad 0] at q1
  clear R e'
  go_enter Try.func69, Try.ntmps69
  go_wp2
  go_loop [3, 5, 11] (fun s l i => ∃ k : Nat, i = .int .i64 (k : Int) ∧ k ≤ 2 ∧ ∃ m : Nat, s = .int .i64 (m : Int) ∧ ((k = 0 ∧ m = 0) ∨ (k = 1 ∧ n1 = m) ∨ (k = 2 ∧ n1 + n2 = m))) (fun _ _ i => 2 - (intOf i).toNat)
  case atStart => exact ⟨0, rfl, by omega, 0, rfl, .inl ⟨rfl, rfl⟩⟩
  case round =>
    obtain ⟨k, rfl, k1, m, rfl, h⟩ := hrel
    rcases h with ⟨rfl, rfl⟩ | ⟨rfl, rfl⟩ | ⟨rfl, rfl⟩
    · go_wp2
      go_round
      case rel => exact ⟨1, rfl, by omega, n1, by simp, .inr (.inl ⟨rfl, rfl⟩)⟩
      case measure => simp [intOf]
    · go_wp2
      go_round
      case rel => exact ⟨2, rfl, by omega, n1 + n2, by go_num, .inr (.inr ⟨rfl, rfl⟩)⟩
      case measure => simp [intOf]
    · go_wp2_with (go_at_call 111; refine (longs_grow (n1 + n2) _ hn).mono ?_; rintro e w1 ⟨v, rfl, own1, hb⟩)
      go_loopw [6, 8, 27] (fun l x i wr => ∃ k : Nat, i = .int .i64 (k : Int) ∧ k ≤ 2 ∧ ∃ m zs, ((k = 0 ∧ m = 0 ∧ zs = []) ∨ (k = 1 ∧ n1 = m ∧ xs = zs) ∨ (k = 2 ∧ n1 + n2 = m ∧ xs ++ ys = zs)) ∧ wr.ownsRow w.heap.size 2 1 l m zs ∧ Below w.heap.size w wr) (fun _ _ i _ => 2 - (intOf i).toNat)
      case atStart => exact ⟨0, rfl, by omega, 0, [], .inl ⟨rfl, rfl, rfl⟩, own1, hb⟩
      case round =>
        clear own1 hb
        obtain ⟨k, rfl, k1, m, zs, h, own, hB⟩ := hrel
        have hsz := hB.size
        have p0 := (hB.cell (p := ad) had).trans q0
        have p1 := (hB.cell (p := ⟨ad.block, ad.off + 1, none⟩) had).trans q1
        rcases h with ⟨rfl, rfl, rfl⟩ | ⟨rfl, rfl, rfl⟩ | ⟨rfl, rfl, rfl⟩
        · have OWN := Lib.hid own
          clear own
          go_wp2_with (at_builtin; refine Lw.wpList_app elPly rfl _ _ rfl rfl OWN.out rfl (R1.below (Nat.le_refl _) hB) o1 (by omega) hB (Nat.le_refl _) hsz ?_; intro v1 w2 own1 hb1 _ _)
          have O1 := Lib.hid own1
          clear own1
          go_wp2
          go_roundw
          case rel => exact ⟨1, rfl, by omega, n1, xs, .inr (.inl ⟨rfl, rfl, rfl⟩), by simpa using O1.out, hb1⟩
          case measure => simp [intOf]
        · have OWN := Lib.hid own
          clear own
          go_wp2_with (at_builtin; refine Lw.wpList_app elPly rfl _ _ rfl rfl OWN.out rfl (R2.below (Nat.le_refl _) hB) o2 (by omega) hB (Nat.le_refl _) hsz ?_; intro v1 w2 own1 hb1 _ _)
          have O1 := Lib.hid own1
          clear own1
          go_wp2
          go_roundw
          case rel => exact ⟨2, rfl, by omega, n1 + n2, xs ++ ys, .inr (.inr ⟨rfl, rfl, rfl⟩), O1.out, hb1⟩
          case measure => simp [intOf]
        · have OWN := Lib.hid own
          clear own
          go_wp2
          go_ret
          obtain ⟨B, c', rfl, _⟩ := Lw.ownsForm OWN.out
          exact ⟨B, c', rfl, OWN.out, hB⟩

set_option maxHeartbeats 1000000 in
theorem spl_idx (A : Option Addr) (n c b : Nat) (p : Int) (zs : List Int) (w : World) (R : Lw.Rd w 1 A n (Lw.intsV .i64 zs)) (hn : n ≤ 1048576) (hb : w.cell? ⟨b, 0, none⟩ = some (.int .i64 p)) :
    Calls Try.prog 112 #[.slice A n c, .func (.func 71) #[] #[.pointer (some ⟨b, 0, none⟩)]] w (Lw.IdxT (Lw.outR p zs) w) := by
  have R := Lib.hid R
  have l1 : zs.length = n := by have := R.out.1; simpa [Lw.intsV] using this
  have L := Lib.hid l1
  clear l1
  go_enter Try.func112, Try.ntmps112
  go_wp2
  go_loop [5, 8] (fun x i => ∃ k : Nat, i = .int .i64 (k : Int) ∧ k ≤ n ∧ Hid (Lw.outR p (zs.take k) = false)) (fun _ i => n - (intOf i).toNat)
  case atStart => exact ⟨0, rfl, by omega, rfl⟩
  case round =>
    obtain ⟨k, rfl, k1, T⟩ := hrel
    by_cases hlt : k < n
    · have hl : k < zs.length := by rw [L.out]; exact hlt
      obtain ⟨ad, rfl, had, hcell⟩ := R.out.at1 hlt (Lw.intsV_get hl)
      have N := Lib.hid (Lw.any_take (p := fun x => decide (x < 0) || decide (p ≤ x)) hl T.out)
      have D := Lib.hid (Lw.any_at (p := fun x : Int => decide (x < 0) || decide (p ≤ x)) hl)
      obtain ⟨x, hx⟩ : ∃ x, zs[k] = x := ⟨_, rfl⟩
      rw [hx] at hcell N D
      clear hx
      rcases (show x < 0 ∨ (0 ≤ x ∧ p ≤ x) ∨ (0 ≤ x ∧ x < p) by omega) with h0 | ⟨h0, h1⟩ | ⟨h0, h1⟩
      · have D1 : Hid (Lw.outR p zs = true) := D.out (by simp [h0])
        clear N D
        go_wp2
        go_ret
        exact ⟨_, rfl, rfl, .inr ⟨D1.out, by omega⟩⟩
      · have D1 : Hid (Lw.outR p zs = true) := D.out (by simp [h1])
        clear N D
        go_wp2
        go_ret
        exact ⟨_, rfl, rfl, .inr ⟨D1.out, by omega⟩⟩
      · have N1 : Hid (Lw.outR p (zs.take (k + 1)) = false) := N.out (by simp; omega)
        clear N D
        go_wp2
        go_round
        case rel => exact ⟨k + 1, by go_num, by omega, N1⟩
        case measure => simp [intOf]; omega
    · have hk : zs.take k = zs := List.take_of_length_le (by rw [L.out]; omega)
      have E : Hid (Lw.outR p zs = false) := by have := T.out; rwa [hk] at this
      clear hk
      go_wp2
      go_ret
      exact ⟨_, rfl, rfl, .inl ⟨E.out, rfl⟩⟩
theorem spl_con (A : Option Addr) (n c b : Nat) (p : Int) (zs : List Int) (w : World) (R : Lw.Rd w 1 A n (Lw.intsV .i64 zs)) (hn : n ≤ 1048576) (hb : w.cell? ⟨b, 0, none⟩ = some (.int .i64 p)) :
    Calls Try.prog 70 #[.slice A n c, .func (.func 71) #[] #[.pointer (some ⟨b, 0, none⟩)]] w fun e w' => e = .returned (.bool (Lw.outR p zs)) ∧ w = w' := by
  have X := Lib.hid (spl_idx A n c b p zs w R hn hb)
  clear R hb
  go_enter Try.func70, Try.ntmps70
  go_wp2_with (go_at_call 112; (with_reducible refine (X.out).mono ?_); rintro e w1 ⟨r, rfl, rfl, hr⟩)
  go_ret
  exact ⟨Lw.ret_bool (Lw.IdxT.ge hr), rfl⟩

theorem share_Split_ppr (p sec n : Int) (A : Option Addr) (m c : Nat) (w : World) (h : ¬ Lw.pprE p = 0) :
    Calls Try.prog 31 #[.int .i64 p, .int .i64 sec, .slice A m c, .int .i64 n] w fun e w' => e = .returned (.tuple #[.slice none 0 0, .int .i64 (Lw.pprE p)]) ∧ Below w.heap.size w w' := by
  have X := fun w => poly_Check p none 0 0 [] w (Lw.Rd.nil _ _ _)
  rw [Lw.polyE_nil] at X
  replace X := Lib.hid X
  have z : (Lw.pprE p != 0) = true := by simpa using h
  have z' : (Lw.pprE p == 0) = false := by simpa using h
  generalize Lw.pprE p = E at *
  clear h
  go_enter Try.func31, Try.ntmps31
  go_wp2_with (go_at_call 68; (with_reducible refine (X.out _).mono ?_); rintro e w1 ⟨rfl, hb1⟩)
  go_ret2
  exact ⟨rfl, Lw.bt (Lw.balloc (Below.refl _ _) _) hb1⟩
theorem share_Split_long (p sec n : Int) (A : Option Addr) (m c : Nat) (w : World) (h : Lw.pprE p = 0) (hm : 12 < m) :
    Calls Try.prog 31 #[.int .i64 p, .int .i64 sec, .slice A m c, .int .i64 n] w fun e w' => e = .returned (.tuple #[.slice none 0 0, .int .i64 1]) ∧ Below w.heap.size w w' := by
  have X := fun w => poly_Check p none 0 0 [] w (Lw.Rd.nil _ _ _)
  rw [Lw.polyE_nil, h] at X
  replace X := Lib.hid X
  have hm' : (12 : Int) < (m : Int) := by omega
  clear h
  go_enter Try.func31, Try.ntmps31
  go_wp2_with (go_at_call 68; (with_reducible refine (X.out _).mono ?_); rintro e w1 ⟨rfl, hb1⟩)
  go_ret2
  exact ⟨rfl, Lw.bt (Lw.balloc (Below.refl _ _) _) hb1⟩
set_option maxRecDepth 100000 in
set_option maxHeartbeats 4000000 in
theorem share_Split_range (p sec n : Int) (A : Option Addr) (m c : Nat) (more : List Int) (w : World) (RA : Lw.Rd w 1 A m (Lw.intsV .i64 more)) (h : Lw.pprE p = 0) (hm : m ≤ 12) (h2 : Lw.outR p (sec :: more) = true ∨ n < 0 ∨ p ≤ n) :
    Calls Try.prog 31 #[.int .i64 p, .int .i64 sec, .slice A m c, .int .i64 n] w fun e w' => e = .returned (.tuple #[.slice none 0 0, .int .i64 2]) ∧ Below w.heap.size w w' := by
  have X := fun w => poly_Check p none 0 0 [] w (Lw.Rd.nil _ _ _)
  rw [Lw.polyE_nil, h] at X
  replace X := Lib.hid X
  have hm' : ¬ (12 : Int) < (m : Int) := by omega
  obtain ⟨W, hW⟩ : ∃ W, w.alloc (.cells #[.int .i64 p] 2) = W := ⟨_, rfl⟩
  have B0 := Lib.hid (show W.heap[w.heap.size]? = some (.cells #[.int .i64 p] 2 (0, 0)) from hW ▸ Lw.blk_new _ _ _)
  have hBW : Below w.heap.size w W := by rw [← hW]; exact Lw.balloc (Below.refl _ _) _
  have hWs : w.heap.size < W.heap.size := by rw [← hW]; simp
  have l0 := Lw.blk_cell B0.out 0
  simp at l0
  have RW := Lib.hid (RA.below (Nat.le_refl _) hBW)
  have HW := Lib.hid hW
  clear h hW RA
  go_enter Try.func31, Try.ntmps31
  go_wp2_with fail
  rw [HW.out]
  go_wp2_with (go_at_call 68; (with_reducible refine (X.out _).mono ?_); rintro e w1 ⟨rfl, hb1⟩)
  refine (longs_cat _ _ A _ _ c 1 m _ _ _ (by exact (by first | exact Lw.Rd.nil _ _ _ | exact Lw.Rd.lit (Lw.blk_new' (by simp) _ _) rfl rfl | exact Lw.Rd.lit (Lw.blk_alloc (Lw.blk_new' (by simp) _ _) _) rfl rfl)) (by exact Lw.Rd.lit (Lw.blk_alloc (Lw.blk_new' (by simp) _ _) _) rfl rfl) (((RW.out.below (Nat.le_refl _) hb1).alloc _).alloc _) (Lw.one1 .i64 sec) (Lw.intsV_one _ _) (by omega)).mono ?_
  rintro e w2 ⟨C, g, rfl, own2, hb2⟩
  have hB2 : Below W.heap.size W w2 := Lw.bt (Lw.balloc (Lw.balloc hb1 _) _) hb2
  have R2 : Lw.Rd w2 1 C (1 + m) (Lw.intsV .i64 (sec :: more)) := Lw.Rd.of_own own2
  have n0 : w2.cell? ⟨w.heap.size, 0, none⟩ = some (.int .i64 p) := (hB2.cell hWs).trans l0
  have CN := Lib.hid (spl_con C (1 + m) g w.heap.size p (sec :: more) w2 R2 (by omega) n0)
  clear own2 R2
  rcases (show Lw.outR p (sec :: more) = true ∨ (Lw.outR p (sec :: more) = false ∧ n < 0) ∨ (Lw.outR p (sec :: more) = false ∧ ¬ n < 0 ∧ p ≤ n) by
    cases ho : Lw.outR p (sec :: more) with
    | true => exact .inl rfl
    | false => rw [ho] at h2; rcases h2 with h | h | h; exact absurd h (by decide); exact .inr (.inl ⟨rfl, h⟩); (by_cases h3 : n < 0; exact .inr (.inl ⟨rfl, h3⟩); exact .inr (.inr ⟨rfl, h3, h⟩))) with h3 | ⟨h3, h4⟩ | ⟨h3, h4, h5⟩
  all_goals
    rw [h3] at CN
    clear h2 h3
    go_wp2_with (go_at_call 70; (with_reducible refine (CN.out).mono ?_); rintro e w3 ⟨rfl, rfl⟩)
    go_ret2
    exact ⟨rfl, hBW.trans (hB2.mono hBW.size)⟩
set_option maxRecDepth 100000 in
set_option maxHeartbeats 4000000 in
theorem share_Split_ok (p sec : Int) (n : Nat) (A : Option Addr) (m c : Nat) (more : List Int) (w : World) (RA : Lw.Rd w 1 A m (Lw.intsV .i64 more)) (h : Lw.pprE p = 0) (hm : m ≤ 12) (h2 : Lw.outR p (sec :: more) = false) (hn : (n : Int) < p) :
    Calls Try.prog 31 #[.int .i64 p, .int .i64 sec, .slice A m c, .int .i64 (n : Int)] w (Lw.PtsR p (sec :: more) n w) := by
  obtain ⟨p1, p2, pp⟩ := Lw.ppr_ok h
  have X := fun w => poly_Check p none 0 0 [] w (Lw.Rd.nil _ _ _)
  rw [Lw.polyE_nil, h] at X
  replace X := Lib.hid X
  have hm' : ¬ (12 : Int) < (m : Int) := by omega
  obtain ⟨W, hW⟩ : ∃ W, w.alloc (.cells #[.int .i64 p] 2) = W := ⟨_, rfl⟩
  have B0 := Lib.hid (show W.heap[w.heap.size]? = some (.cells #[.int .i64 p] 2 (0, 0)) from hW ▸ Lw.blk_new _ _ _)
  have hBW : Below w.heap.size w W := by rw [← hW]; exact Lw.balloc (Below.refl _ _) _
  have hWs : w.heap.size < W.heap.size := by rw [← hW]; simp
  have l0 := Lw.blk_cell B0.out 0
  simp at l0
  have RW := Lib.hid (RA.below (Nat.le_refl _) hBW)
  have HW := Lib.hid hW
  have ZB := Lib.hid (Lw.outR_in h2)
  have PS := Lib.hid (Lw.pts_succ p (sec :: more))
  have HB := Lib.hid (fun x => Lw.horn_bd (p := p) (x := x) p1 (sec :: more))
  have nn : ¬ (n : Int) < 0 := by omega
  have np : ¬ p ≤ (n : Int) := by omega
  clear h hW RA pp
  go_enter Try.func31, Try.ntmps31
  go_wp2_with fail
  rw [HW.out]
  go_wp2_with (go_at_call 68; (with_reducible refine (X.out _).mono ?_); rintro e w1 ⟨rfl, hb1⟩)
  refine (longs_cat _ _ A _ _ c 1 m _ _ _ (by exact (by first | exact Lw.Rd.nil _ _ _ | exact Lw.Rd.lit (Lw.blk_new' (by simp) _ _) rfl rfl | exact Lw.Rd.lit (Lw.blk_alloc (Lw.blk_new' (by simp) _ _) _) rfl rfl)) (by exact Lw.Rd.lit (Lw.blk_alloc (Lw.blk_new' (by simp) _ _) _) rfl rfl) (((RW.out.below (Nat.le_refl _) hb1).alloc _).alloc _) (Lw.one1 .i64 sec) (Lw.intsV_one _ _) (by omega)).mono ?_
  rintro e w2 ⟨C, g, rfl, own2, hb2⟩
  have hB2 : Below W.heap.size W w2 := Lw.bt (Lw.balloc (Lw.balloc hb1 _) _) hb2
  have R2 : Lw.Rd w2 1 C (1 + m) (Lw.intsV .i64 (sec :: more)) := Lw.Rd.of_own own2
  have n0 : w2.cell? ⟨w.heap.size, 0, none⟩ = some (.int .i64 p) := (hB2.cell hWs).trans l0
  have CN := Lib.hid (spl_con C (1 + m) g w.heap.size p (sec :: more) w2 R2 (by omega) n0)
  rw [h2] at CN
  have VL := Lib.hid (fun W' (hb : Below w2.heap.size w2 W') x (x1 : 0 ≤ x) (x2 : x < p) => poly_Value p C (1 + m) g (sec :: more) x W' (R2.below (Nat.le_refl w2.heap.size) hb) ZB.out p1 p2 (by omega) x1 x2)
  have z2 := hB2.size
  clear own2 R2 h2
  go_wp2_with (go_at_call 70; (with_reducible refine (CN.out).mono ?_); rintro e w3 ⟨rfl, rfl⟩)
  go_loopw [12, 13] (fun l x wr => ∃ k : Nat, x = .int .i64 ((k : Int) + 1) ∧ k ≤ n ∧ wr.ownsRow w2.heap.size 81 2 l k (Lw.pairsV .i64 .i64 (Lw.ptsL p (sec :: more) k)) ∧ Below w2.heap.size w2 wr) (fun _ x _ => n + 1 - (intOf x).toNat)
  case atStart => exact ⟨0, rfl, by omega, World.ownsRow_nil _ _ _ _, Below.refl _ _⟩
  case round =>
    obtain ⟨k, rfl, hk, own, hB⟩ := hrel
    by_cases hlt : k < n
    · have hlt' : (k : Int) + 1 ≤ (n : Int) := by omega
      have VK := Lib.hid (VL.out wr hB ((k : Int) + 1) (by omega) (by omega))
      have PK := PS.out k
      have hk1 := HB.out ((k : Int) + 1)
      have m0 : wr.cell? ⟨w.heap.size, 0, none⟩ = some (.int .i64 p) := (hB.cell (show w.heap.size < w2.heap.size by omega)).trans n0
      obtain ⟨y, hy⟩ : ∃ z, Lw.hornV p (sec :: more) ((k : Int) + 1) = z := ⟨_, rfl⟩
      rw [hy] at VK PK hk1
      have PK := Lib.hid PK
      have OWN := Lib.hid own
      clear own hy
      have kk : k ≤ 251 := by omega
      go_wp2_with fail
      refine VK.out.mono ?_
      rintro e w4 ⟨rfl, hb4⟩
      have hB4 := Lw.bt hB hb4
      have hsz4 := hB4.size
      have O4 := Lib.hid (Lw.ownsBelow OWN.out (Nat.le_refl _) hb4)
      go_wp2_with (at_builtin; go_loud (refine Lw.wpList_app elPnt rfl _ _ rfl rfl (O4.out.alloc _) rfl (by first | exact Lw.Rd.nil _ _ _ | exact Lw.Rd.lit (Lw.blk_new' (by simp) _ _) rfl rfl | exact Lw.Rd.lit (Lw.blk_alloc (Lw.blk_new' (by simp) _ _) _) rfl rfl) (Lw.pairs_one _ _) (by omega) (Lw.balloc hB4 _) (Nat.le_refl _) (by simp; omega) ?_); intro v2 w5 own5 hb5 _ _)
      have O5 := Lib.hid own5
      clear own5
      go_wp2
      go_roundw
      case rel => exact ⟨k + 1, by go_num, by omega, by rw [PK.out, Lw.pairsV_append]; exact O5.out, hb5⟩
      case measure => simp [intOf]; omega
    · have hkn : k = n := by omega
      subst hkn
      have hnl : ¬ (k : Int) + 1 ≤ (k : Int) := by omega
      obtain ⟨D, e, rfl, hg, _⟩ := Lw.ownsForm own
      have RR := Lib.hid (Lw.Rd.of_own own)
      clear own
      go_wp2
      go_ret2
      exact ⟨D, e, rfl, RR.out, hBW.trans ((Lw.bt hB2 hB).mono hBW.size)⟩
end Go.Proofs.Ytkgfaaabhmcdoaa
