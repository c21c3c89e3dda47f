/- Two texts in one; a text's sum: of the program and of the reference. -/
import Derived.Test.YtlgegdmnbhoepaaBytes
import Derived.Test.YtlgegdmnbhoepaaCat
set_option linter.unusedVariables false
set_option linter.unusedSimpArgs false
namespace Go.Proofs.Ytlgegdmnbhoepaa
open Go.RowKit
set_option maxHeartbeats 1000000 in
theorem bytes_grow (n : Nat) (w : World) (hn : n ≤ 16777216) :
    Calls Try.prog 210 #[.slice none 0 0, .int .i64 (n : Int)] w fun e w' => ∃ v, e = .returned v ∧ w'.ownsRow w.heap.size 5 1 v 0 [] ∧ Below w.heap.size w w' := by
  by_cases h0 : 0 < n
  · go_enter Try.func210, Try.ntmps210
    go_wp2_with (at_builtin; refine Lw.wpList_made elByte Try.underlying3 rfl _ _ rfl rfl rfl h0 hn ?_; intro c cs hc1 hc2 hc3)
    go_ret
    refine ⟨_, rfl, ⟨by simp, .inr ⟨w.heap.size, c, cs, rfl, Nat.le_refl _, heap_alloc_new _ _, Nat.zero_le _, hc2, by omega, by simp⟩⟩, Lw.balloc (Below.drew (Below.refl _ _)) _⟩
  · have hn0 : n = 0 := by omega
    subst hn0
    go_enter Try.func210, Try.ntmps210
    go_wp2
    go_ret
    exact ⟨_, rfl, World.ownsRow_nil _ _ _ _, Below.refl _ _⟩
set_option maxHeartbeats 2000000 in
theorem bytes_cat (A A1 A2 : Option Addr) (c c1 c2 n1 n2 : Nat) (xs ys : List Value) (w : World) (R : Lw.Rd w 1 A 2 [.slice A1 n1 c1, .slice A2 n2 c2]) (R1 : Lw.Rd w 1 A1 n1 xs) (R2 : Lw.Rd w 1 A2 n2 ys) (o1 : ∀ u ∈ xs, u.oneCell' = true) (o2 : ∀ u ∈ ys, u.oneCell' = true) (hn : n1 + n2 ≤ 16777216) :
    Calls Try.prog 193 #[.slice A 2 c] w (Lw.OwnRes 5 1 (xs ++ ys) (n1 + n2) w) := by
  obtain ⟨ad, rfl, had, q0⟩ := R.at1 (k := 0) (by decide) rfl
  obtain ⟨ad', e', _, q1⟩ := R.at1 (k := 1) (by decide) rfl
  obtain rfl : ad = ad' := by injection e'
  rw [Lw.add_zero'] at q0
  rw [show ad.add 1 = ⟨ad.block, ad.off + 1, none⟩ from Lw.add_succ' ad 0] at q1
  clear R e'
  go_enter Try.func193, Try.ntmps193
  go_wp2
  go_loop [3, 5, 11] (fun s l i => ∃ k : Nat, i = .int .i64 (k : Int) ∧ k ≤ 2 ∧ ∃ m : Nat, s = .int .i64 (m : Int) ∧ ((k = 0 ∧ m = 0) ∨ (k = 1 ∧ n1 = m) ∨ (k = 2 ∧ n1 + n2 = m))) (fun _ _ i => 2 - (intOf i).toNat)
  case atStart => exact ⟨0, rfl, by omega, 0, rfl, .inl ⟨rfl, rfl⟩⟩
  case round =>
    obtain ⟨k, rfl, k1, m, rfl, h⟩ := hrel
    rcases h with ⟨rfl, rfl⟩ | ⟨rfl, rfl⟩ | ⟨rfl, rfl⟩
    · go_wp2
      go_round
      case rel => exact ⟨1, rfl, by omega, n1, by simp, .inr (.inl ⟨rfl, rfl⟩)⟩
      case measure => simp [intOf]
    · go_wp2
      go_round
      case rel => exact ⟨2, rfl, by omega, n1 + n2, by go_num, .inr (.inr ⟨rfl, rfl⟩)⟩
      case measure => simp [intOf]
    · go_wp2_with (go_at_call 210; refine (bytes_grow (n1 + n2) _ hn).mono ?_; rintro e w1 ⟨v, rfl, own1, hb⟩)
      go_loopw [6, 8, 27] (fun l x i wr => ∃ k : Nat, i = .int .i64 (k : Int) ∧ k ≤ 2 ∧ ∃ m zs, ((k = 0 ∧ m = 0 ∧ zs = []) ∨ (k = 1 ∧ n1 = m ∧ xs = zs) ∨ (k = 2 ∧ n1 + n2 = m ∧ xs ++ ys = zs)) ∧ wr.ownsRow w.heap.size 5 1 l m zs ∧ Below w.heap.size w wr) (fun _ _ i _ => 2 - (intOf i).toNat)
      case atStart => exact ⟨0, rfl, by omega, 0, [], .inl ⟨rfl, rfl, rfl⟩, own1, hb⟩
      case round =>
        clear own1 hb
        obtain ⟨k, rfl, k1, m, zs, h, own, hB⟩ := hrel
        have hsz := hB.size
        have p0 := (hB.cell (p := ad) had).trans q0
        have p1 := (hB.cell (p := ⟨ad.block, ad.off + 1, none⟩) had).trans q1
        rcases h with ⟨rfl, rfl, rfl⟩ | ⟨rfl, rfl, rfl⟩ | ⟨rfl, rfl, rfl⟩
        · have OWN := Lib.hid own
          clear own
          go_wp2_with (at_builtin; refine Lw.wpList_app elByte rfl _ _ rfl rfl OWN.out rfl (R1.below (Nat.le_refl _) hB) o1 (by omega) hB (Nat.le_refl _) hsz ?_; intro v1 w2 own1 hb1 _ _)
          have O1 := Lib.hid own1
          clear own1
          go_wp2
          go_roundw
          case rel => exact ⟨1, rfl, by omega, n1, xs, .inr (.inl ⟨rfl, rfl, rfl⟩), by simpa using O1.out, hb1⟩
          case measure => simp [intOf]
        · have OWN := Lib.hid own
          clear own
          go_wp2_with (at_builtin; refine Lw.wpList_app elByte rfl _ _ rfl rfl OWN.out rfl (R2.below (Nat.le_refl _) hB) o2 (by omega) hB (Nat.le_refl _) hsz ?_; intro v1 w2 own1 hb1 _ _)
          have O1 := Lib.hid own1
          clear own1
          go_wp2
          go_roundw
          case rel => exact ⟨2, rfl, by omega, n1 + n2, xs ++ ys, .inr (.inr ⟨rfl, rfl, rfl⟩), O1.out, hb1⟩
          case measure => simp [intOf]
        · have OWN := Lib.hid own
          clear own
          go_wp2
          go_ret
          obtain ⟨B, c', rfl, _⟩ := Lw.ownsForm OWN.out
          exact ⟨B, c', rfl, OWN.out, hB⟩

set_option maxHeartbeats 1000000 in
theorem hash_padded (A : Option Addr) (n c : Nat) (bs : List Int) (w : World) (R : Lw.Rd w 1 A n (Lw.intsV .u8 bs)) (hm : n ≤ 1048576) :
    Calls Try.prog 200 #[.slice A n c] w (Lw.OwnRes 5 1 (Lw.intsV .u8 (Lw.padL bs)) (n + 4) w) := by
  have R := Lib.hid R
  have l1 : bs.length = n := by have := R.out.1; simpa [Lw.intsV] using this
  have E : Hid (Lw.intsV .u8 (Lw.padL bs) = Lw.intsV .u8 bs ++ Lw.intsV .u8 (Lw.littleL (n : Int) 4)) := by rw [← l1]; exact Lw.intsV_app _ _ _
  clear l1
  go_enter Try.func200, Try.ntmps200
  go_wp2_with (first | (go_at_call 191; refine (hash_Little n 4 _ (by omega) (by omega) (by omega)).mono ?_; rintro e w1 ⟨A1, c1, rfl, own1, hb1⟩) | (go_at_call 193; refine (bytes_cat _ A A1 _ c c1 n 4 _ _ _ (by first | exact Lw.Rd.nil _ _ _ | exact Lw.Rd.lit (Lw.blk_new' (by simp) _ _) rfl rfl | exact Lw.Rd.lit (Lw.blk_alloc (Lw.blk_new' (by simp) _ _) _) rfl rfl) ((R.out.below (Nat.le_refl _) hb1).alloc _) ((Lw.Rd.of_own own1).alloc _) (Lw.intsV_one _ _) (Lw.intsV_one _ _) (by omega)).mono ?_; rintro e w2 ⟨A2, c2, rfl, own2, hb2⟩))
  go_ret
  rw [E.out]
  exact ⟨A2, c2, rfl, Lw.ownsBase own2 (by have := hb1.size; simp; omega), by (repeat (first | exact Below.refl _ _ | refine Lw.bt ?_ (by assumption) | refine Lw.balloc ?_ _ | refine Lw.bdrewN ?_ _ | refine Below.drew ?_ | refine Lw.bset ?_ (by first | (simp; done) | (simp; omega) | omega) _))⟩
set_option maxHeartbeats 1000000 in
theorem hash_Of (A : Option Addr) (n c : Nat) (bs : List Int) (w : World) (R : Lw.Rd w 1 A n (Lw.intsV .u8 bs)) (hy : Lw.Byt bs) (hm : n ≤ 1048576) :
    Calls Try.prog 164 #[.slice A n c] w fun e w' => e = .returned (.int .u32 (Lw.hsum bs)) ∧ Below w.heap.size w w' := by
  have l1 : bs.length = n := by have := R.1; simpa [Lw.intsV] using this
  have L : Hid ((Lw.padL bs).length = n + 4) := by rw [← l1]; exact Lw.padL_length bs
  have Y := Lw.padL_byt hy
  have E : Hid (Lw.hsum bs = Lw.hsumL (Lw.padL bs)) := rfl
  have R := Lib.hid R
  clear l1 hy
  go_enter Try.func164, Try.ntmps164
  go_wp2_with (go_at_call 200; refine (hash_padded A n c bs _ R.out hm).mono ?_; rintro e w1 ⟨A1, c1, rfl, own1, hb1⟩)
  have R1 := Lib.hid (Lw.Rd.of_own own1)
  clear own1 R
  generalize Lw.padL bs = ps at *
  go_loop [3, 5, 9] (fun h b i => ∃ k : Nat, i = .int .i64 (k : Int) ∧ k ≤ n + 4 ∧ h = .int .u32 (Lw.hsumL (ps.take k))) (fun _ _ i => n + 4 - (intOf i).toNat)
  case atStart => exact ⟨0, rfl, by omega, rfl⟩
  case round =>
    obtain ⟨k, rfl, k1, rfl⟩ := hrel
    obtain ⟨s1, s2⟩ := Lw.hsumL_bd (ps.take k)
    by_cases hlt : k < n + 4
    · have hl : k < ps.length := by rw [L.out]; exact hlt
      obtain ⟨ad, rfl, had, hcell⟩ := R1.out.at1 hlt (Lw.intsV_get hl)
      have T := Lib.hid (Lw.hs_take hl)
      obtain ⟨x, hx⟩ : ∃ x, ps[k] = x := ⟨_, rfl⟩
      obtain ⟨x1, x2⟩ := Y x (hx ▸ List.getElem_mem hl)
      rw [hx] at hcell T
      clear hx
      go_wp2_with (go_at_call 201; refine (hash_step _ x _ s1 (by omega) x1 x2).mono ?_; rintro e w' ⟨rfl, rfl⟩)
      go_round
      case rel => exact ⟨k + 1, by go_num, by omega, by rw [T.out]⟩
      case measure => simp [intOf]; omega
    · have hk : ps.take k = ps := List.take_of_length_le (by rw [L.out]; omega)
      have K := Lib.hid hk
      clear hk
      go_wp2
      go_ret
      rw [E.out, K.out]
      exact ⟨rfl, hb1⟩
set_option maxHeartbeats 1000000 in
theorem ref_little (n : Int) (k : Nat) (w : World) (h1 : 0 ≤ n) (h2 : n ≤ 4611686018427387904) (hk : k ≤ 16) :
    Calls Try.prog 92 #[.int .i64 n, .int .i64 (k : Int)] w (Lw.OwnRes 5 1 (Lw.intsV .u8 (Lw.littleL n k)) k w) := by
  obtain ⟨d, hd⟩ : ∃ d, Lw.littleL n k = d := ⟨_, rfl⟩
  have D := Lib.hid hd
  rw [hd]
  clear hd
  go_enter Try.func92, Try.ntmps92
  go_wp2
  go_loopw [0, 5, 6] (fun x l j wr => ∃ (m : Int) (i : Nat) (pre : List Int), x = .int .i64 m ∧ j = .int .i64 (i : Int) ∧ 0 ≤ m ∧ m ≤ 4611686018427387904 ∧ i ≤ k ∧ Hid (pre ++ Lw.littleL m (k - i) = d) ∧ pre.length = i ∧ wr.ownsRow w.heap.size 5 1 l i (Lw.intsV .u8 pre) ∧ Below w.heap.size w wr)
    (fun _ _ j _ => k - (intOf j).toNat)
  case atStart => exact ⟨n, 0, [], rfl, rfl, h1, h2, Nat.zero_le _, by simpa using D, rfl, World.ownsRow_nil _ _ _ _, Below.refl _ _⟩
  case round =>
    obtain ⟨m, i, pre, rfl, rfl, m1, m2, i1, H, hl, own, hB⟩ := hrel
    have OWN := Lib.hid own
    have HL := Lib.hid hl
    clear own hl
    have hsz := hB.size
    by_cases hlt : i < k
    · have N := Lib.hid (Lw.littleL_next H.out hlt)
      go_wp2_with (at_builtin; refine Lw.wpList_app elByte rfl _ _ rfl rfl (OWN.out.alloc _) rfl (by first | exact Lw.Rd.nil _ _ _ | exact Lw.Rd.lit (Lw.blk_new' (by simp) _ _) rfl rfl | exact Lw.Rd.lit (Lw.blk_alloc (Lw.blk_new' (by simp) _ _) _) rfl rfl) (Lw.one1 _ _) (by omega) (Lw.balloc hB _) (Nat.le_refl _) (by simp; omega) ?_; intro v1 w1 own1 hb1 _ _)
      have O1 := Lib.hid own1
      clear own1
      go_wp2
      go_roundw
      case rel => exact ⟨m / 256, i + 1, pre ++ [m % 256], rfl, by go_num, by omega, by omega, by omega, N, by rw [List.length_append, HL.out]; rfl, by rw [Lw.intsV_app]; exact O1.out, hb1⟩
      case measure => simp [intOf]; omega
    · go_wp2
      go_ret
      have e : pre = d := by rw [← H.out, show k - i = 0 by omega]; simp [Lw.littleL]
      have hi : i = k := by omega
      subst e hi
      obtain ⟨A, c, rfl, _⟩ := Lw.ownsForm OWN.out
      exact ⟨A, c, rfl, OWN.out, hB⟩
set_option maxHeartbeats 1000000 in
theorem ref_Padded (A : Option Addr) (n c : Nat) (bs : List Int) (w : World) (R : Lw.Rd w 1 A n (Lw.intsV .u8 bs)) (hm : n ≤ 1048576) :
    Calls Try.prog 165 #[.slice A n c] w (Lw.OwnRes 5 1 (Lw.intsV .u8 (Lw.padL bs)) (n + 4) w) := by
  have R := Lib.hid R
  have l1 : bs.length = n := by have := R.out.1; simpa [Lw.intsV] using this
  have E : Hid (Lw.intsV .u8 (Lw.padL bs) = Lw.intsV .u8 bs ++ Lw.intsV .u8 (Lw.littleL (n : Int) 4)) := by rw [← l1]; exact Lw.intsV_app _ _ _
  clear l1
  go_enter Try.func165, Try.ntmps165
  go_wp2_with (first
    | (at_builtin; refine Lw.wpList_app elByte rfl (.tmp 3) (.tmp 4) rfl rfl (Lw.own_lit w (xs := []) rfl rfl (by decide) (Nat.le_refl _)) rfl (R.out.alloc _) (Lw.intsV_one _ _) (by omega) (Lw.balloc (Below.refl _ _) _) (Nat.le_refl _) (by simp) ?_; intro v1 w1 own1 hb1 _ _)
    | (at_builtin; refine Lw.wpList_app elByte rfl (.tmp 5) (.tmp 8) rfl rfl (Lw.ownsBelow own1 (Nat.le_refl _) hb2) rfl (Lw.Rd.of_own own2) (Lw.intsV_one _ _) (by omega) (Lw.bt hb1 hb2) (Nat.le_refl _) (by have := hb1.size; have := hb2.size; omega) ?_; intro v3 w3 own3 hb3 _ _)
    | (go_at_call 92; refine (ref_little n 4 _ (by omega) (by omega) (by omega)).mono ?_; rintro e w2 ⟨A2, c2, rfl, own2, hb2⟩))
  go_ret
  rw [E.out]
  obtain ⟨B, c', rfl, _⟩ := Lw.ownsForm own3
  exact ⟨B, c', by simp, by simpa using own3, hb3⟩
set_option maxHeartbeats 1000000 in
theorem ref_Sum (A : Option Addr) (n c : Nat) (bs : List Int) (w : World) (R : Lw.Rd w 1 A n (Lw.intsV .u8 bs)) (hy : Lw.Byt bs) (hm : n ≤ 1048576) :
    Calls Try.prog 124 #[.slice A n c] w fun e w' => e = .returned (.int .i64 (Lw.hsum bs)) ∧ Below w.heap.size w w' := by
  have l1 : bs.length = n := by have := R.1; simpa [Lw.intsV] using this
  have L : Hid ((Lw.padL bs).length = n + 4) := by rw [← l1]; exact Lw.padL_length bs
  have Y := Lw.padL_byt hy
  have E : Hid (Lw.hsum bs = Lw.hsumL (Lw.padL bs)) := rfl
  have R := Lib.hid R
  clear l1 hy
  go_enter Try.func124, Try.ntmps124
  go_wp2_with (go_at_call 165; refine (ref_Padded A n c bs _ R.out hm).mono ?_; rintro e w1 ⟨A1, c1, rfl, own1, hb1⟩)
  have R1 := Lib.hid (Lw.Rd.of_own own1)
  clear own1 R
  generalize Lw.padL bs = ps at *
  go_loop [3, 5, 9] (fun h b i => ∃ k : Nat, i = .int .i64 (k : Int) ∧ k ≤ n + 4 ∧ h = .int .i64 (Lw.hsumL (ps.take k))) (fun _ _ i => n + 4 - (intOf i).toNat)
  case atStart => exact ⟨0, rfl, by omega, rfl⟩
  case round =>
    obtain ⟨k, rfl, k1, rfl⟩ := hrel
    obtain ⟨s1, s2⟩ := Lw.hsumL_bd (ps.take k)
    by_cases hlt : k < n + 4
    · have hl : k < ps.length := by rw [L.out]; exact hlt
      obtain ⟨ad, rfl, had, hcell⟩ := R1.out.at1 hlt (Lw.intsV_get hl)
      have T := Lib.hid (Lw.hs_take hl)
      obtain ⟨x, hx⟩ : ∃ x, ps[k] = x := ⟨_, rfl⟩
      obtain ⟨x1, x2⟩ := Y x (hx ▸ List.getElem_mem hl)
      rw [hx] at hcell T
      clear hx
      go_wp2_with (go_at_call 166; refine (ref_step _ x _ s1 (by omega) x1 x2).mono ?_; rintro e w' ⟨rfl, rfl⟩)
      go_round
      case rel => exact ⟨k + 1, by go_num, by omega, by rw [T.out]⟩
      case measure => simp [intOf]; omega
    · have hk : ps.take k = ps := List.take_of_length_le (by rw [L.out]; omega)
      have K := Lib.hid hk
      clear hk
      go_wp2
      go_ret
      rw [E.out, K.out]
      exact ⟨rfl, hb1⟩
end Go.Proofs.Ytlgegdmnbhoepaa
