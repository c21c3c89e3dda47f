/- tree.Prove; the reference's Prove. -/
import Derived.Test.YtnlbnadjolfjpaaTrx
namespace Lw
open Go Go.RowKit
theorem mny_lt {n : Nat} : ∀ {k : Nat}, 1 < mny n k → mny n k + k ≤ n
  | 0, _ => Nat.le_refl _
  | k + 1, h => by
    have h1 : 1 < mny n k := by
      have h : 1 < (mny n k + 1) / 2 := h
      omega
    exact mny_step (mny_lt h1) h1
end Lw
set_option linter.unusedVariables false
set_option linter.unusedSimpArgs false
namespace Go.Proofs.Ytnlbnadjolfjpaa
open Go.RowKit
theorem prove_bad (A : Option Addr) (n c : Nat) (i : Int) (T : List Lw.TRow) (w : World) (R : Lw.Rd w 1 A n (T.map Lw.TRow.v)) (h : ¬ Lw.lvE n T = 0) :
    Calls Try.prog 25 #[.slice A n c, .int .i64 i] w fun e w' => e = .returned (.tuple #[.slice none 0 0, .int .i64 (Lw.lvE n T)]) ∧ Below w.heap.size w w' := by
  have WR := Lib.hid (fun w' (hb : Below w.heap.size w w') => tree_wrong A n c T w' (R.below (Nat.le_refl _) hb))
  have z : (Lw.lvE n T == 0) = false := by simpa using h
  generalize Lw.lvE n T = E at *
  clear R h
  go_enter Try.func25, Try.ntmps25
  go_wp2_with (go_at_call 37; (with_reducible refine (WR.out _ (Lw.balloc (Below.refl _ _) _)).mono ?_); rintro e w' ⟨rfl, rfl⟩)
  go_ret2
  exact ⟨rfl, Lw.balloc (Below.refl _ _) _⟩
theorem prove_out (A : Option Addr) (n c : Nat) (i : Int) (T : List Lw.TRow) (w : World) (R : Lw.Rd w 1 A n (T.map Lw.TRow.v)) (h : Lw.lvE n T = 0) (hi : i < 0 ∨ (n : Int) ≤ i) :
    Calls Try.prog 25 #[.slice A n c, .int .i64 i] w fun e w' => e = .returned (.tuple #[.slice none 0 0, .int .i64 3]) ∧ Below w.heap.size w w' := by
  have WR := fun w' (hb : Below w.heap.size w w') => tree_wrong A n c T w' (R.below (Nat.le_refl _) hb)
  rw [h] at WR
  replace WR := Lib.hid WR
  clear R h
  rcases (by omega : i < 0 ∨ (¬ i < 0 ∧ (n : Int) ≤ i)) with h1 | ⟨h1, h2⟩
  all_goals
    clear hi
    go_enter Try.func25, Try.ntmps25
    go_wp2_with (go_at_call 37; (with_reducible refine (WR.out _ (Lw.balloc (Below.refl _ _) _)).mono ?_); rintro e w' ⟨rfl, rfl⟩)
    go_ret2
    exact ⟨rfl, Lw.balloc (Below.refl _ _) _⟩
set_option maxRecDepth 100000 in
set_option maxHeartbeats 4000000 in
theorem tree_Prove (A : Option Addr) (n c i : Nat) (T : List Lw.TRow) (w : World) (R : Lw.Rd w 1 A n (T.map Lw.TRow.v)) (hT : ∀ r ∈ T, Lw.RowOk .u8 w r) (h : Lw.lvE n T = 0) (hi : i < n) :
    Calls Try.prog 25 #[.slice A n c, .int .i64 (i : Int)] w (Lw.PrvR 33 (Lw.prfL T n i (Lw.hgt n)) w) := by
  have LT : T.length = n := by have := R.1; simpa using this
  have WR := fun w' (hb : Below w.heap.size w w') => tree_wrong A n c T w' (R.below (Nat.le_refl _) hb)
  obtain ⟨h0, hn, hl⟩ := Lw.lv_in h
  rw [h] at WR
  replace WR := Lib.hid WR
  obtain ⟨W2, hW2⟩ : ∃ W2, (w.alloc (.cells #[.int .i64 (i : Int)] 3)).alloc (.cells #[.slice none 0 0] 41) = W2 := ⟨_, rfl⟩
  have hs2 : W2.heap.size = w.heap.size + 2 := by rw [← hW2]; simp
  have hB2 : Below w.heap.size w W2 := by rw [← hW2]; exact Lw.balloc (Lw.balloc (Below.refl _ _) _) _
  have bI : W2.heap[w.heap.size]? = some (.cells #[.int .i64 (i : Int)] 3 (0, 0)) := by rw [← hW2]; exact Lw.blk_alloc (Lw.blk_new _ _ _) _
  have bL : W2.heap[w.heap.size + 1]? = some (.cells #[.slice none 0 0] 41 (0, 0)) := by rw [← hW2]; exact Lw.blk_new' (by simp) _ _
  have RW := rows_prove A n c T W2 (R.below (Nat.le_refl _) hB2) (fun r hr => ⟨Lw.txtOk_below (Lw.txtOk_row (hT r hr) (Lw.anyLong_at hl hr)) (Nat.le_refl _) hB2, by have := Lw.anyLong_at hl hr; omega⟩) h0 hn
    #[.pointer (some ⟨w.heap.size, 0, none⟩), .pointer (some ⟨w.heap.size + 1, 0, none⟩)] (PJ T n i w)
    (fun _ _ _ _ _ h1 h2 h3 => h1.up h2 h3)
    (fun W av hb hav => ⟨by omega, Lw.bt hB2 hb, (hb.block _ (by omega)).trans (by rw [bI, Nat.pow_zero, Nat.div_one]), _, (hb.block _ (by omega)).trans bL, World.ownsRow_nil _ _ _ _, by simp [Value.ownBlock]⟩)
    (fun k av W m d h1 h2 h3 h4 h5 _ => by
      have hm : m = Lw.mny n k := by have := h3.1; simp [Lw.intsV] at this; rw [← this, Lw.ndR_length, LT]
      have hk := Lw.mny_lt (hm ▸ h4)
      exact (prove_visit T n i w k av W m d hi hn (by omega) LT h1 h2 h3).mono fun e W' ⟨q1, q2, q3⟩ => ⟨q1, q2, q3⟩)
  replace RW := Lib.hid RW
  have HW := Lib.hid hW2
  have hi0 : ¬ (i : Int) < 0 := by omega
  have hi1 : ¬ (n : Int) ≤ (i : Int) := by omega
  obtain ⟨PP, hPP⟩ : ∃ P, Lw.prfL T n i (Lw.hgt n) = P := ⟨_, rfl⟩
  have HP := Lib.hid hPP
  rw [hPP]
  clear hPP R hT h hW2 bI bL
  go_enter Try.func25, Try.ntmps25
  go_wp2_with (first | (go_at_call 37; (with_reducible refine (WR.out _ (Lw.balloc (Below.refl _ _) _)).mono ?_); rintro e w' ⟨rfl, rfl⟩) | fail)
  rw [HW.out]
  refine RW.out.mono ?_
  rintro e w1 ⟨rfl, av, q1, q2, q3, v, q4, q5, q6⟩
  rw [HP.out] at q5
  obtain ⟨Av, gv, rfl, _⟩ := Lw.ownsForm q5
  have c1 := Lw.blk_cell q4 0
  simp at c1
  go_wp2
  go_ret2
  exact ⟨Av, gv, rfl, Lw.ownsBase q5 (by omega), q2⟩
set_option maxRecDepth 100000 in
set_option maxHeartbeats 4000000 in
theorem ref_Prove (A : Option Addr) (n c i : Nat) (T : List Lw.TRow) (w : World) (R : Lw.Rd w 1 A n (T.map Lw.TRow.v)) (hT : ∀ r ∈ T, Lw.RowOk .u8 w r) (h : Lw.lvE n T = 0) (hi : i < n) :
    Calls Try.prog 27 #[.slice A n c, .int .i64 (i : Int)] w (Lw.OwnRes 33 1 (Lw.intsV .u32 (Lw.prfL T n i (Lw.hgt n))) (Lw.prfL T n i (Lw.hgt n)).length w) := by
  obtain ⟨h0, hn, hl⟩ := Lw.lv_in h
  have HH := Lib.hid (fun w => ref_Height n w h0 hn)
  have hh : Lw.hgt n ≤ 64 := by
    rcases Nat.eq_zero_or_pos (Lw.hgt n) with h | h
    · omega
    · have := Lw.hgt_le n; omega
  have ND := Lib.hid (fun k i W hb => ref_Node A n c T w R (fun r hr => ⟨Lw.txtOk_row (hT r hr) (Lw.anyLong_at hl hr), by have := Lw.anyLong_at hl hr; omega⟩) hn k i W hb)
  have MM := Lib.hid (fun k w hk => ref_Many n k w hn hk)
  obtain ⟨H, hH⟩ : ∃ H, Lw.hgt n = H := ⟨_, rfl⟩
  rw [hH] at HH hh ⊢
  clear R hT h hH
  go_enter Try.func27, Try.ntmps27
  go_wp2
  go_loopw [1, 5, 6] (fun iv v kv wr => ∃ k : Nat, iv = .int .i64 ((i / 2 ^ k : Nat) : Int) ∧ kv = .int .i64 (k : Int) ∧ k ≤ H ∧ Below w.heap.size w wr ∧ wr.ownsRow w.heap.size 33 1 v (Lw.prfL T n i k).length (Lw.intsV .u32 (Lw.prfL T n i k))) (fun _ _ kv _ => H - (intOf kv).toNat)
  case atStart => exact ⟨0, by rw [Nat.pow_zero, Nat.div_one], rfl, by omega, Below.refl _ _, World.ownsRow_nil _ _ _ _⟩
  case round =>
    obtain ⟨k, rfl, rfl, k1, hB, own⟩ := hrel
    by_cases hlt : k < H
    · have hlt' : (k : Int) < (H : Int) := by omega
      have HP := Lib.hid (Lw.half_pow i k)
      have hip : i / 2 ^ k < 64 := Nat.lt_of_le_of_lt (Nat.div_le_self _ _) (by omega)
      have PI := fun h => Lw.prf_in (T := T) (n := n) (i := i) (k := k) h
      have PO := fun h => Lw.prf_out (T := T) (n := n) (i := i) (k := k) h
      have pl := Lw.prf_len T n i k
      have MK := Lib.hid (fun w => MM.out k w (by omega))
      have ml := Lw.mny_le hn k
      obtain ⟨P, hPd⟩ : ∃ P, Lw.prfL T n i k = P := ⟨_, rfl⟩
      rw [hPd] at own PI PO pl
      have REL : Hid (∀ (v' : Value) (wr' : World) (jn : Int) , jn = ((i / 2 ^ (k + 1) : Nat) : Int) → Below w.heap.size w wr' → wr'.ownsRow w.heap.size 33 1 v' (Lw.prfL T n i (k + 1)).length (Lw.intsV .u32 (Lw.prfL T n i (k + 1))) → ∃ k_1 : Nat, Value.int .i64 jn = .int .i64 ((i / 2 ^ k_1 : Nat) : Int) ∧ Value.int .i64 ((k : Int) + 1) = .int .i64 (k_1 : Int) ∧ k_1 ≤ H ∧ Below w.heap.size w wr' ∧ wr'.ownsRow w.heap.size 33 1 v' (Lw.prfL T n i k_1).length (Lw.intsV .u32 (Lw.prfL T n i k_1))) :=
        fun v' wr' jn h1 h2 h3 => ⟨k + 1, by rw [h1], by go_num, by omega, h2, h3⟩
      obtain ⟨P2, hP2⟩ : ∃ P, Lw.prfL T n i (k + 1) = P := ⟨_, rfl⟩
      rw [hP2] at PI PO REL
      rw [← HP.out] at REL
      generalize i / 2 ^ k = j at *
      have hj2 : (j : Int) / 2 = ((j / 2 : Nat) : Int) := by omega
      have HJ2 := Lib.hid hj2
      clear hj2
      have OWN := Lib.hid own
      clear own
      obtain ⟨x, hx, hxI⟩ : ∃ x : Nat, j ^^^ 1 = x ∧ (((j : Int) % 2 == 1) = true ∧ (j : Int) - 1 = (x : Int) ∨ ((j : Int) % 2 == 1) = false ∧ (j : Int) + 1 = (x : Int)) := by
        refine ⟨_, rfl, ?_⟩
        by_cases hp : j % 2 = 1
        · exact .inl ⟨by simp; omega, by rw [Lw.xor_odd hp]; omega⟩
        · exact .inr ⟨by simp; omega, by rw [Lw.xor_even (by omega)]; omega⟩
      rw [hx] at PI PO
      have tp : (j : Int).tmod 2 = (j : Int) % 2 := Int.tmod_eq_emod_of_nonneg (by omega)
      clear hx hPd hP2
      by_cases hxm : x < Lw.mny n k
      · have hxm' : (x : Int) < ((Lw.mny n k : Nat) : Int) := by omega
        replace PI := PI hxm
        have NX := Lib.hid (fun W hb => ND.out k x W hb (by omega) hxm)
        obtain ⟨z0, z1⟩ := Lw.ndR_at (T := T) k x
        generalize (Lw.ndR T k).getD x 0 = z at *
        have ez : IntKind.u32.wrap z = z := by rw [IntKind.wrap_u32]; omega
        replace PI := Lib.hid PI
        generalize Lw.mny n k = m at *
        clear PO
        rcases hxI with ⟨zp, hxI⟩ | ⟨zp, hxI⟩
        all_goals
          have HXI := Lib.hid hxI
          go_wp2_with (first | (go_at_call 18; (with_reducible refine (HH.out _).mono ?_); rintro e w' ⟨rfl, rfl⟩) | (go_at_call 41; (with_reducible refine (MK.out _).mono ?_); rintro e w' ⟨rfl, rfl⟩) | (go_at_call 17; (with_reducible refine (NX.out _ hB).mono ?_); rintro e w1 ⟨rfl, hb1⟩; have hs1 := hb1.size; have hB1 := Lw.bt hB hb1; have O1 := Lib.hid (Lw.ownsBelow OWN.out (Nat.le_refl _) hb1)) | (at_builtin; refine Lw.wpList_app elU32 rfl _ _ rfl rfl (O1.out.alloc _) rfl (Lw.Rd.lit (Lw.blk_new' rfl _ _) rfl rfl) (Lw.intsV_one _ [z]) (by omega) (Lw.balloc hB1 _) (Nat.le_refl _) (by have := hB.size; simp; omega) ?_; intro v3 w3 own3 hb3 hg3 _))
          go_roundw
          case rel => exact REL.out _ _ _ HJ2.out hb3 (by rw [PI.out, Lw.intsV_app, List.length_append]; exact own3)
          case measure => simp [intOf]; omega
      · have hxm' : ¬ (x : Int) < ((Lw.mny n k : Nat) : Int) := by omega
        replace PO := Lib.hid (PO hxm)
        generalize Lw.mny n k = m at *
        clear PI
        rcases hxI with ⟨zp, hxI⟩ | ⟨zp, hxI⟩
        all_goals
          have HXI := Lib.hid hxI
          go_wp2_with (first | (go_at_call 18; (with_reducible refine (HH.out _).mono ?_); rintro e w' ⟨rfl, rfl⟩) | (go_at_call 41; (with_reducible refine (MK.out _).mono ?_); rintro e w' ⟨rfl, rfl⟩))
          go_roundw
          case rel => exact REL.out _ _ _ HJ2.out hB (by rw [PO.out]; exact OWN.out)
          case measure => simp [intOf]; omega
    · have hlt' : ¬ (k : Int) < (H : Int) := by omega
      obtain rfl : k = H := by omega
      have OWN := Lib.hid own
      clear own
      go_wp2_with (go_at_call 18; (with_reducible refine (HH.out _).mono ?_); rintro e w' ⟨rfl, rfl⟩)
      go_ret
      obtain ⟨Av, gv, rfl, _⟩ := Lw.ownsForm OWN.out
      exact ⟨Av, gv, rfl, OWN.out, hB⟩
end Go.Proofs.Ytnlbnadjolfjpaa
