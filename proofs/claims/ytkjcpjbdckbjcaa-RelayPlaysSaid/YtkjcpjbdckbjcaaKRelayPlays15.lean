/- The reference's Relay: the walk. -/
import Derived.Test.YtkjcpjbdckbjcaaKRelayPlays14
import Derived.Deep.DeepCutAuto
set_option linter.unusedVariables false
set_option linter.unusedSimpArgs false
namespace Go.Proofs.Ytkjcpjbdckbjcaa
open Go.RowKit
/-- what the reference's Relay returns -/
def RelayR (out : List (Int × List Int)) (w : World) (x : Ending) (w' : World) : Prop := ∃ A c, x = .returned (.slice A out.length c) ∧ TR w.heap.size out (.slice A out.length c) w' ∧ Below w.heap.size w w'
set_option maxRecDepth 100000 in
set_option maxHeartbeats 16000000 in
theorem ref_Relay (P Q G H : Int) (SA : Option Addr) (sn sc : Nat) (ss : List Int) (A : Option Addr) (n c : Nat) (L : List Lw.Hp) (w : World) (hg : Lw.groupE P Q G H = 0) (RS : Lw.Rd w 1 SA sn (Lw.intsV .i64 ss)) (hs : ∀ s ∈ ss, 0 ≤ s ∧ s < Q) (hsn : sn ≤ 3) (R : Lw.Rd w 7 A n (Lw.hpsV L)) (hL : ∀ x ∈ L, x.ok w) (hn : n ≤ 100) :
    Calls Try.prog 11 #[.agg #[.int .i64 P, .int .i64 Q, .int .i64 G, .int .i64 H], .slice SA sn sc, .slice A n c] w (RelayR (Lw.rlRun P Q G ss L).1 w) := by
  have LL := Lib.hid (show L.length = n by have := R.1; rw [Lw.hpsV_length] at this; omega)
  have LS := Lib.hid (show ss.length = sn by have := RS.1; simpa [Lw.intsV] using this)
  have HG := Lib.hid hg
  have GX := Lib.hid (Lw.grp_facts hg)
  have HS := Lib.hid hs
  have HL := Lib.hid hL
  have R := Lib.hid R
  have RS := Lib.hid RS
  clear hg hs hL
  go_enter Try.func11, Try.ntmps11
  go_wp2
  go_loopw [7, 8, 9, 10, 20] (fun v7 v8 v9 v10 i wr => ∃ k : Nat, i = .int .i64 (k : Int) ∧ k ≤ n ∧ v8 = .int .i64 ((Lw.rlRun P Q G ss (L.take k)).2.there : Int) ∧ v9 = .int .i64 ((Lw.rlRun P Q G ss (L.take k)).2.home : Int) ∧ RfS P Q G H w (Lw.rlRun P Q G ss (L.take k)).2 (Lw.rlRun P Q G ss (L.take k)).1 v7 v10 wr) (fun _ _ _ _ i _ => n - (intOf i).toNat)
  case atStart =>
    refine ⟨0, rfl, by omega, rfl, rfl, Lw.balloc (Below.refl _ _) _, Lw.blk_new _ _ _, World.ownsRow_nil _ _ _ _, Lw.ToldR.nil _ _ _ _⟩
  case round =>
    obtain ⟨k, rfl, k1, e8, e9, PS⟩ := hrel
    by_cases hlt : k < n
    · have hlt' : (k : Int) < (n : Int) := by omega
      have hl : k < L.length := by rw [LL.out]; exact hlt
      have RT := Lib.hid (Lw.rl_take (P := P) (Q := Q) (G := G) (ss := ss) hl)
      have RL := Lib.hid (Lw.rl_len (P := P) (Q := Q) (G := G) (ss := ss) (L := L) k (by omega))
      have RO := Lib.hid (rl_ok (P := P) (Q := Q) (G := G) (ss := ss) (L := L) k (by omega) (by omega)).1
      obtain ⟨ad, rfl, had, h0, h1, h2, h3, h4, h5, h6⟩ := R.out.at7 hlt hl
      have hB := PS.1
      have rr : ∀ j, (⟨(ad.add (k * 7)).block, j, none⟩ : Addr).block < w.heap.size := fun j => by show (ad.add (k * 7)).block < _; rw [Lw.add_block]; exact had
      have r0 := (hB.cell (p := ad.add (k * 7)) (by rw [Lw.add_block]; exact had)).trans h0
      have r1 := (hB.cell (rr _)).trans h1; have r2 := (hB.cell (rr _)).trans h2; have r3 := (hB.cell (rr _)).trans h3; have r4 := (hB.cell (rr _)).trans h4; have r5 := (hB.cell (rr _)).trans h5; have r6 := (hB.cell (rr _)).trans h6
      have HOK := Lib.hid (HL.out _ (List.getElem_mem hl))
      have REL : Hid (∀ (v7 v10 : Value) (wr' : World), RfS P Q G H w (Lw.rlRun P Q G ss (L.take (k + 1))).2 (Lw.rlRun P Q G ss (L.take (k + 1))).1 v7 v10 wr' → ∃ k_1 : Nat, Value.int .i64 ((k : Int) + 1) = .int .i64 (k_1 : Int) ∧ k_1 ≤ n ∧ Value.int .i64 ((Lw.rlRun P Q G ss (L.take (k + 1))).2.there : Int) = .int .i64 ((Lw.rlRun P Q G ss (L.take k_1)).2.there : Int) ∧ Value.int .i64 ((Lw.rlRun P Q G ss (L.take (k + 1))).2.home : Int) = .int .i64 ((Lw.rlRun P Q G ss (L.take k_1)).2.home : Int) ∧ RfS P Q G H w (Lw.rlRun P Q G ss (L.take k_1)).2 (Lw.rlRun P Q G ss (L.take k_1)).1 v7 v10 wr') :=
        fun _ _ _ h => ⟨k + 1, by go_num, by omega, rfl, rfl, h⟩
      rw [RT.out] at REL
      obtain ⟨x, hx⟩ : ∃ x, L[k] = x := ⟨_, rfl⟩
      rw [hx] at REL r0 r1 r2 r3 r4 r5 r6 HOK
      obtain ⟨⟨out, st⟩, hrr⟩ : ∃ y, Lw.rlRun P Q G ss (L.take k) = y := ⟨_, rfl⟩
      rw [hrr] at REL RL RO PS e8 e9
      simp only at REL RL RO PS e8 e9
      obtain ⟨kd, kk, ll, hA, hn', hc', zs, lk, at', tn⟩ := x
      obtain ⟨ks, th, ho⟩ := st
      simp only at e8 e9
      subst e8 e9
      simp only at r0 r1 r2 r3 r4 r5 r6
      obtain ⟨A7, c7, rfl, _⟩ := Lw.ownsForm PS.2.2.1
      have hok := RO.out.len
      have hth := RO.out.there
      have hho := RO.out.home
      simp only at hok hth hho
      have hss : ss.length ≤ 3 := by have := LS.out; omega
      have hsz := hB.size
      have hgl := Lw.blk_lt PS.2.1
      have hne10 : u10.ownBlock ≠ some (wr.heap.size + 1) := fun e => by
        obtain ⟨_, _, _, T, _, _, t3⟩ := PS
        have := (t3.lt _ e).2; omega
      have hout : out.length ≤ 100 := by have := RL.out; omega
      have HST : Hid (∀ r, Lw.rlStep P Q G ss ⟨ks, th, ho⟩ ⟨kd, kk, ll, hA, hn', hc', zs, lk, at', tn⟩ = r → Lw.rlStep P Q G ss ⟨ks, th, ho⟩ ⟨kd, kk, ll, hA, hn', hc', zs, lk, at', tn⟩ = r) := fun _ h => h
      have PSA := Lib.hid (fun o => PS.below (Lw.balloc (Lw.balloc (Below.refl _ wr) (.cells (HopC ⟨kd, kk, ll, hA, hn', hc', zs, lk, at', tn⟩) 33)) o))
      have PSH := Lib.hid PS
      have m0 := Lw.blk_cell PS.2.1 0; have m1 := Lw.blk_cell PS.2.1 1; have m2 := Lw.blk_cell PS.2.1 2; have m3 := Lw.blk_cell PS.2.1 3
      simp at m0 m1 m2 m3
      clear RT hx hrr PS h0 h1 h2 h3 h4 h5 h6
      go_upto_if 27 with (fail)
      go_cut [7, 8, 9] (fun v7 v8 v9 wx => ∃ (AB : Option Addr) (cB : Nat) (code : Int) (bd : List Int) (s' : Lw.Wy), Lw.rlStep P Q G ss ⟨ks, th, ho⟩ ⟨kd, kk, ll, hA, hn', hc', zs, lk, at', tn⟩ = ((code, bd), s') ∧ v8 = .int .i64 (s'.there : Int) ∧ v9 = .int .i64 (s'.home : Int) ∧ RfS P Q G H w s' out v7 u10 wx ∧ wr.heap.size ≤ wx.heap.size ∧ wx.heap[wr.heap.size + 1]? = some (.cells #[.int .i64 code, .slice AB bd.length cB] 35 (0, 0)) ∧ wx.ownsRow (w.heap.size + 1) 5 1 (.slice AB bd.length cB) bd.length (Lw.intsV .u8 bd))
      case first =>
        by_cases hk1 : kd = 1
        · subst hk1
          rcases (by omega : ks.length = ss.length ∨ (ks.length < ss.length ∧ kk < 0) ∨ (ks.length < ss.length ∧ ¬ kk < 0 ∧ Q ≤ kk) ∨ (ks.length < ss.length ∧ ¬ kk < 0 ∧ ¬ Q ≤ kk ∧ ll < 0) ∨ (ks.length < ss.length ∧ ¬ kk < 0 ∧ ¬ Q ≤ kk ∧ ¬ ll < 0 ∧ Q ≤ ll) ∨ (ks.length < ss.length ∧ ¬ kk < 0 ∧ ¬ Q ≤ kk ∧ ¬ ll < 0 ∧ ¬ Q ≤ ll)) with e1 | ⟨e1, e2⟩ | ⟨e1, e2, e3⟩ | ⟨e1, e2, e3, e4⟩ | ⟨e1, e2, e3, e4, e5⟩ | ⟨e1, e2, e3, e4, e5⟩
          · have z1 : ((ks.length : Int) == (sn : Int)) = true := by simp; have := LS.out; omega
            have hst : Lw.rlStep P Q G ss ⟨ks, th, ho⟩ ⟨1, kk, ll, hA, hn', hc', zs, lk, at', tn⟩ = ((7, []), ⟨ks, th, ho⟩) := by unfold Lw.rlStep; rw [if_pos rfl, if_pos e1]
            clear e1
            as_aux_lemma =>
              go_wp2
              go_meet
              exact ⟨none, 0, 7, [], ⟨ks, th, ho⟩, hst, rfl, rfl, PSA.out _, by simp; omega, Lw.blk_new' (by simp) _ _, World.ownsRow_nil _ _ _ _⟩

          all_goals
            have z1 : ((ks.length : Int) == (sn : Int)) = false := by simp; have := LS.out; omega
          · have hst : Lw.rlStep P Q G ss ⟨ks, th, ho⟩ ⟨1, kk, ll, hA, hn', hc', zs, lk, at', tn⟩ = ((2, []), ⟨ks, th, ho⟩) := by unfold Lw.rlStep; rw [if_pos rfl, if_neg (by show ¬ ks.length = _; omega), if_pos (.inl e2)]
            as_aux_lemma =>
              go_wp2
              go_meet
              exact ⟨none, 0, 2, [], ⟨ks, th, ho⟩, hst, rfl, rfl, PSA.out _, by simp; omega, Lw.blk_new' (by simp) _ _, World.ownsRow_nil _ _ _ _⟩

          · have hst : Lw.rlStep P Q G ss ⟨ks, th, ho⟩ ⟨1, kk, ll, hA, hn', hc', zs, lk, at', tn⟩ = ((2, []), ⟨ks, th, ho⟩) := by unfold Lw.rlStep; rw [if_pos rfl, if_neg (by show ¬ ks.length = _; omega), if_pos (.inr (.inl e3))]
            as_aux_lemma =>
              go_wp2
              go_meet
              exact ⟨none, 0, 2, [], ⟨ks, th, ho⟩, hst, rfl, rfl, PSA.out _, by simp; omega, Lw.blk_new' (by simp) _ _, World.ownsRow_nil _ _ _ _⟩

          · have hst : Lw.rlStep P Q G ss ⟨ks, th, ho⟩ ⟨1, kk, ll, hA, hn', hc', zs, lk, at', tn⟩ = ((2, []), ⟨ks, th, ho⟩) := by unfold Lw.rlStep; rw [if_pos rfl, if_neg (by show ¬ ks.length = _; omega), if_pos (.inr (.inr (.inl e4)))]
            as_aux_lemma =>
              go_wp2
              go_meet
              exact ⟨none, 0, 2, [], ⟨ks, th, ho⟩, hst, rfl, rfl, PSA.out _, by simp; omega, Lw.blk_new' (by simp) _ _, World.ownsRow_nil _ _ _ _⟩

          · have hst : Lw.rlStep P Q G ss ⟨ks, th, ho⟩ ⟨1, kk, ll, hA, hn', hc', zs, lk, at', tn⟩ = ((2, []), ⟨ks, th, ho⟩) := by unfold Lw.rlStep; rw [if_pos rfl, if_neg (by show ¬ ks.length = _; omega), if_pos (.inr (.inr (.inr e5)))]
            as_aux_lemma =>
              go_wp2
              go_meet
              exact ⟨none, 0, 2, [], ⟨ks, th, ho⟩, hst, rfl, rfl, PSA.out _, by simp; omega, Lw.blk_new' (by simp) _ _, World.ownsRow_nil _ _ _ _⟩

          · as_aux_lemma =>
              have hl2 : ks.length < ss.length := e1
              obtain ⟨ad2, rfl, had2, hsec⟩ := RS.out.at1 (show ks.length < sn by have := LS.out; omega) (Lw.intsV_get hl2)
              obtain ⟨s0, s1⟩ := HS.out _ (List.getElem_mem hl2)
              obtain ⟨P3, P4, Q2, Q3, _⟩ := GX.out
              have hst : Lw.rlStep P Q G ss ⟨ks, th, ho⟩ ⟨1, kk, ll, hA, hn', hc', zs, lk, at', tn⟩ = ((0, Lw.littleL (Lw.keyOf P G ss[ks.length] kk ll) 2), ⟨ks ++ [Lw.keyOf P G ss[ks.length] kk ll], th, ho⟩) := by
                have hgd : ss.getD ks.length 0 = ss[ks.length] := by rw [List.getD_eq_getElem?_getD, List.getElem?_eq_getElem hl2]; rfl
                unfold Lw.rlStep
                rw [if_pos rfl, if_neg (by show ¬ ks.length = _; omega), if_neg (by show ¬ (kk < 0 ∨ Q ≤ kk ∨ ll < 0 ∨ Q ≤ ll); omega)]
                simp only [hgd]
              have KB := Lib.hid (show 0 ≤ Lw.keyOf P G ss[ks.length] kk ll ∧ Lw.keyOf P G ss[ks.length] kk ll < 65536 from Lw.hsum_bd _)
              have PX := Lib.hid (fun w => ref_Pow kk.toNat G kk P w (Nat.le_refl _) (by omega) (by omega) (by omega) (by omega))
              have SH := fun w => ref_Shake P Q G H ss[ks.length] ll (Lw.pw G kk P) w (by omega) (by omega) s0 (by omega) (by omega) (by omega) (Lw.pw_bd G kk P (by omega)).1 (Lw.pw_bd G kk P (by omega)).2
              have EK : Lw.hsum (1 :: Lw.textL [Lw.pw G kk P, Lw.pw G ll P, Lw.pw G ss[ks.length] P, Lw.pw (Lw.pw G kk P) ss[ks.length] P, Lw.pw (Lw.pw G kk P) ll P]) = Lw.keyOf P G ss[ks.length] kk ll := rfl
              rw [EK] at SH
              obtain ⟨y1, hy1⟩ : ∃ y, Lw.pw G ll P = y := ⟨_, rfl⟩
              obtain ⟨y2, hy2⟩ : ∃ y, Lw.hsum (2 :: Lw.textL [Lw.pw G kk P, Lw.pw G ll P, Lw.pw G ss[ks.length] P, Lw.pw (Lw.pw G kk P) ss[ks.length] P, Lw.pw (Lw.pw G kk P) ll P]) = y := ⟨_, rfl⟩
              rw [hy2, hy1] at SH
              replace SH := Lib.hid SH
              clear hy1 hy2 EK
              generalize Lw.keyOf P G ss[ks.length] kk ll = key at *
              obtain ⟨sx, hsx⟩ : ∃ y, ss[ks.length] = y := ⟨_, rfl⟩
              rw [hsx] at hsec s0 s1 SH
              generalize Lw.pw G kk P = px at *
              have hadk : (ad2.add ks.length).block < w.heap.size := by rw [Lw.add_block]; exact had2
              have hsecr := (hB.cell hadk).trans hsec
              have i0 : (0 : Int) ≤ (ks.length : Int) := by omega
              have i1 : (ks.length : Int) < (sn : Int) := by have := LS.out; omega
              clear hsx hsec e1 hl2
              go_wp2
              refine Lw.at_world (fun W1 HW1 => ?_)
              have PS1 : RfS P Q G H w ⟨ks, th, ho⟩ out (.slice A7 ks.length c7) u10 W1 := by rw [HW1.out]; exact PSA.out _
              have bH : W1.heap[wr.heap.size]? = some (.cells (HopC ⟨1, kk, ll, hA, hn', hc', zs, lk, at', tn⟩) 33 (0, 0)) := by rw [HW1.out]; exact Lw.blk_alloc (Lw.blk_new _ _ _) _
              have bX : W1.heap[wr.heap.size + 1]? = some (.cells #[.int .i64 0, .slice none 0 0] 35 (0, 0)) := by rw [HW1.out]; exact Lw.blk_new' (by simp) _ _
              have hz : W1.heap.size = wr.heap.size + 2 := by rw [HW1.out]; simp
              have hbW : Below wr.heap.size wr W1 := by rw [HW1.out]; exact Lw.balloc (Lw.balloc (Below.refl _ wr) _) _
              have n0 := (hbW.cell (p := ⟨w.heap.size, 0, none⟩) hgl).trans m0; have n1 := (hbW.cell (p := ⟨w.heap.size, 1, none⟩) hgl).trans m1; have n2 := (hbW.cell (p := ⟨w.heap.size, 2, none⟩) hgl).trans m2; have n3 := (hbW.cell (p := ⟨w.heap.size, 3, none⟩) hgl).trans m3
              have d1 := Lw.blk_cell bH 1; have d2 := Lw.blk_cell bH 2
              simp at d1 d2
              have nS := (hbW.cell (p := ad2.add ks.length) (by omega)).trans hsecr
              have v1 : w.heap.size < W1.heap.size := by omega
              have v2 : wr.heap.size < W1.heap.size := by omega
              have v3 : (ad2.add ks.length).block < W1.heap.size := by omega
              have v4 : wr.heap.size + 1 < W1.heap.size := by omega
              clear r0 r1 r2 r3 r4 r5 r6 m0 m1 m2 m3 hsecr hz
              refine wp_region_held_drew (S := Lw.Sm W1) (by kernel_rfl) (Lw.sm_drew W1) (fun hHeld => ?_)
              (refine Lw.take1 (i := 0) (v := ?_) rfl (by kernel_rfl) (by kernel_rfl) (by kernel_rfl) (fun _ _ _ h => h) (Or.inl ⟨by rfl, ?_⟩) (by assumption) ?_; rotate_left 1; (focus (intro wS hSw; obtain ⟨hS1, hS2, hS3, hS4⟩ := hSw; go_simp <;> with_reducible rfl)); (try simp only [Act.put, List.setIfInBounds_toArray, List.set_cons_zero, List.set_cons_succ]))
              (refine Lw.take1 (i := 1) (v := ?_) rfl (by kernel_rfl) (by kernel_rfl) (by kernel_rfl) (fun _ _ _ h => h) (Or.inl ⟨by rfl, ?_⟩) (by assumption) ?_; rotate_left 1; (focus (intro wS hSw; obtain ⟨hS1, hS2, hS3, hS4⟩ := hSw; go_simp <;> with_reducible rfl)); (try simp only [Act.put, List.setIfInBounds_toArray, List.set_cons_zero, List.set_cons_succ]))
              (refine Lw.take1 (i := 2) (v := ?_) rfl (by kernel_rfl) (by kernel_rfl) (by kernel_rfl) (fun _ _ _ h => h) (Or.inl ⟨by rfl, ?_⟩) (by assumption) ?_; rotate_left 1; (focus (intro wS hSw; obtain ⟨hS1, hS2, hS3, hS4⟩ := hSw; go_simp <;> with_reducible rfl)); (try simp only [Act.put, List.setIfInBounds_toArray, List.set_cons_zero, List.set_cons_succ]))
              (refine Lw.take1 (i := 3) (v := ?_) rfl (by kernel_rfl) (by kernel_rfl) (by kernel_rfl) (fun _ _ _ h => h) (Or.inl ⟨by rfl, ?_⟩) (by assumption) ?_; rotate_left 1; (focus (intro wS hSw; obtain ⟨hS1, hS2, hS3, hS4⟩ := hSw; go_simp <;> with_reducible rfl)); (try simp only [Act.put, List.setIfInBounds_toArray, List.set_cons_zero, List.set_cons_succ]))
              (refine Lw.take1 (i := 4) (v := ?_) rfl (by kernel_rfl) (by kernel_rfl) (by kernel_rfl) (fun _ _ _ h => h) (Or.inl ⟨by rfl, ?_⟩) (by assumption) ?_; rotate_left 1; (focus (intro wS hSw; obtain ⟨hS1, hS2, hS3, hS4⟩ := hSw; go_simp <;> with_reducible rfl)); (try simp only [Act.put, List.setIfInBounds_toArray, List.set_cons_zero, List.set_cons_succ]))
              (refine Lw.take1 (i := 5) (v := ?_) rfl (by kernel_rfl) (by kernel_rfl) (by kernel_rfl) (fun _ _ _ h => h) (Or.inl ⟨by rfl, ?_⟩) (by assumption) ?_; rotate_left 1; (focus (intro wS hSw; obtain ⟨hS1, hS2, hS3, hS4⟩ := hSw; go_simp <;> with_reducible rfl)); (try simp only [Act.put, List.setIfInBounds_toArray, List.set_cons_zero, List.set_cons_succ]))
              (refine Lw.take1 (i := 6) (v := ?_) rfl (by kernel_rfl) (by kernel_rfl) (by kernel_rfl) (fun _ _ _ h => h) (Or.inl ⟨by rfl, ?_⟩) (by assumption) ?_; rotate_left 1; (focus (intro wS hSw; obtain ⟨hS1, hS2, hS3, hS4⟩ := hSw; go_simp <;> with_reducible rfl)); (try simp only [Act.put, List.setIfInBounds_toArray, List.set_cons_zero, List.set_cons_succ]))
              (refine Lw.take1 (i := 7) (v := ?_) rfl (by kernel_rfl) (by kernel_rfl) (by kernel_rfl) (fun _ _ _ h => h) (Or.inl ⟨by rfl, ?_⟩) (by assumption) ?_; rotate_left 1; (focus (intro wS hSw; obtain ⟨hS1, hS2, hS3, hS4⟩ := hSw; go_simp <;> with_reducible rfl)); (try simp only [Act.put, List.setIfInBounds_toArray, List.set_cons_zero, List.set_cons_succ]))
              (refine Lw.take1 (i := 8) (v := ?_) rfl (by kernel_rfl) (by kernel_rfl) (by kernel_rfl) (fun _ _ _ h => h) (Or.inl ⟨by rfl, ?_⟩) (by assumption) ?_; rotate_left 1; (focus (intro wS hSw; obtain ⟨hS1, hS2, hS3, hS4⟩ := hSw; go_simp <;> with_reducible rfl)); (try simp only [Act.put, List.setIfInBounds_toArray, List.set_cons_zero, List.set_cons_succ]))
              (refine Lw.take1 (i := 9) (v := ?_) rfl (by kernel_rfl) (by kernel_rfl) (by kernel_rfl) (fun _ _ _ h => h) (Or.inl ⟨by rfl, ?_⟩) (by assumption) ?_; rotate_left 1; (focus (intro wS hSw; obtain ⟨hS1, hS2, hS3, hS4⟩ := hSw; go_simp <;> with_reducible rfl)); (try simp only [Act.put, List.setIfInBounds_toArray, List.set_cons_zero, List.set_cons_succ]))
              (refine Lw.take1 (i := 10) (v := ?_) rfl (by kernel_rfl) (by kernel_rfl) (by kernel_rfl) (fun _ _ _ h => h) (Or.inl ⟨by rfl, ?_⟩) (by assumption) ?_; rotate_left 1; (focus (intro wS hSw; obtain ⟨hS1, hS2, hS3, hS4⟩ := hSw; go_simp <;> with_reducible rfl)); (try simp only [Act.put, List.setIfInBounds_toArray, List.set_cons_zero, List.set_cons_succ]))
              (refine Lw.take1 (i := 11) (v := ?_) rfl (by kernel_rfl) (by kernel_rfl) (by kernel_rfl) (fun _ _ _ h => h) (Or.inl ⟨by rfl, ?_⟩) (by assumption) ?_; rotate_left 1; (focus (intro wS hSw; obtain ⟨hS1, hS2, hS3, hS4⟩ := hSw; go_simp <;> with_reducible rfl)); (try simp only [Act.put, List.setIfInBounds_toArray, List.set_cons_zero, List.set_cons_succ]))
              (refine Lw.take1 (i := 12) (v := ?_) rfl (by kernel_rfl) (by kernel_rfl) (by kernel_rfl) (fun _ _ _ h => h) (Or.inl ⟨by rfl, ?_⟩) (by assumption) ?_; rotate_left 1; (focus (intro wS hSw; obtain ⟨hS1, hS2, hS3, hS4⟩ := hSw; go_simp <;> with_reducible rfl)); (try simp only [Act.put, List.setIfInBounds_toArray, List.set_cons_zero, List.set_cons_succ]))
              (refine Lw.take1 (i := 13) (v := ?_) rfl (by kernel_rfl) (by kernel_rfl) (by kernel_rfl) (fun _ _ _ h => h) (Or.inl ⟨by rfl, ?_⟩) (by assumption) ?_; rotate_left 1; (focus (intro wS hSw; obtain ⟨hS1, hS2, hS3, hS4⟩ := hSw; go_simp <;> with_reducible rfl)); (try simp only [Act.put, List.setIfInBounds_toArray, List.set_cons_zero, List.set_cons_succ]))
              have hS0 := Lw.sm_drew W1
              refine wpAnyH_ready (rs := [14, 16]) (by kernel_rfl) (by simp) ?_
              refine Lw.cons1 (i := 14) rfl (fun K hK => ?_) (Lw.cons1 (i := 16) rfl (fun K hK => ?_) AllReadyH.nil)
              · (go_simp; go_at_call 20; (with_reducible refine (PX.out _).mono ?_); rintro e wx ⟨rfl, rfl⟩; refine hK.out _ _ ?_ (fun hHeld => ?_); (focus exact hS0); clear hK K; (try simp only [Act.put, List.setIfInBounds_toArray, List.set_cons_zero, List.set_cons_succ]))
                refine wpAnyH_ready (rs := [15, 16]) (by kernel_rfl) (by simp) ?_
                refine Lw.cons1 (i := 15) rfl (fun K hK => ?_) (Lw.cons1 (i := 16) rfl (fun K hK => ?_) AllReadyH.nil)
                · (go_simp; go_at_call 21; (with_reducible refine (SH.out _).mono ?_); rintro e w3 ⟨rfl, hb3⟩; refine hK.out _ _ ?_ (fun hHeld => ?_); (focus exact Lw.sm_keep hS0 hb3); clear hK K; (try simp only [Act.put, List.setIfInBounds_toArray, List.set_cons_zero, List.set_cons_succ]))
                  have hS3 := Lw.sm_keep hS0 hb3
                  (refine wpAnyH_ready (rs := [16]) (by kernel_rfl) (by simp) ?_; refine Lw.cons1 (i := 16) rfl (fun K hK => ?_) AllReadyH.nil; go_simp; refine hK.out _ _ ?_ (fun hHeld => ?_); (focus exact Lw.sm_of (Lw.balloc (Lw.sm_bel hS3) _)); clear hK K; (try simp only [Act.put, List.setIfInBounds_toArray, List.set_cons_zero, List.set_cons_succ]))
                  (refine wpAnyH_ready (rs := [17]) (by kernel_rfl) (by simp) ?_; refine Lw.cons1 (i := 17) rfl (fun K hK => ?_) AllReadyH.nil; go_simp; refine hK.out _ _ ?_ (fun hHeld => ?_); (focus exact Lw.sm_of (Lw.balloc (Lw.sm_bel hS3) _)); clear hK K; (try simp only [Act.put, List.setIfInBounds_toArray, List.set_cons_zero, List.set_cons_succ]))
                  refine wpAnyH_done (by kernel_rfl) ?_ _
                  have hBx := Lw.balloc (Lw.sm_bel hS3) (.cells #[.int .i64 y1, .int .i64 y2, .int .i64 key] 52)
                  have BR := Lw.blk_new w3 #[.int .i64 y1, .int .i64 y2, .int .i64 key] 52
                  have PSx := PS1.below hBx
                  have hzx := hBx.size
                  (try simp at hzx)
                  have bXx := (hBx.block (wr.heap.size + 1) v4).trans bX
                  have r2 := Lw.blk_cell BR 2
                  simp at r2
                  have KO := Lib.hid PSx.2.2.1
                  have HB0 := Lib.hid PSx.1
                  have gx := Lw.blk_lt BR
                  (try simp at gx)
                  have hkl : ks.length ≤ 3 := by omega
                  go_wp2_with (at_builtin; refine Lw.wpList_app elInt rfl _ _ rfl rfl (World.ownsRow.alloc KO.out _) rfl (by exact Lw.Rd.lit (Lw.blk_new' (by simp) _ _) rfl rfl) (Lw.intsV_one _ [key]) (by first | omega | (simp only; omega)) (Lw.balloc HB0.out _) (by omega) (by simp; omega) ?_; intro v5 w5 own5 hb5 hg5 ho5; have BR5 := (hg5.block _ (by simp; omega) (fun e => Lw.own_other KO.out BR (by decide) e.symm)).trans (Lw.blk_alloc BR _); have r5 := Lw.blk_cell BR5 2; simp at r5)
                  have BX5 := (hg5.block (wr.heap.size + 1) (by simp; omega) (fun e => Lw.own_other KO.out bXx (by decide) e.symm)).trans (Lw.blk_alloc bXx _)
                  have PS5 : RfS P Q G H w ⟨ks ++ [key], th, ho⟩ out v5 u10 w5 := RfS.key PSx hb5 hg5 (by rw [Lw.intsV_app]; simpa using own5)
                  have hz5 := hg5.size
                  simp at hz5
                  refine (ref_little key 2 _ KB.out.1 (by have := KB.out.2; omega) (by omega)).mono ?_
                  rintro e w6 ⟨A6, d6, rfl, own6, hb6⟩
                  have BX6 := (hb6.block (wr.heap.size + 1) (Lw.blk_lt BX5)).trans BX5
                  have PS6 := PS5.below hb6
                  have p1 := Lw.blk_cell BX6 1
                  have f1 := Lw.blk_free BX6 1
                  simp at p1
                  have PS7 := PS6.px (i := 1) (u := .slice A6 2 d6) (by omega) BX6 hne10
                  have BX7 := Lw.blk_set_same BX6 1 (.slice A6 2 d6)
                  have hz6 := hb6.size
                  go_wp2
                  go_meet
                  exact ⟨A6, d6, 0, Lw.littleL key 2, ⟨ks ++ [key], th, ho⟩, hst, rfl, rfl, PS7, by rw [World.size_setCell]; omega, by simpa [Lw.littleL_length] using BX7, Lw.own_setk (Lw.ownsBase own6 (by have := PS5.1.size; omega)) (Lw.own_other own6 BX6 (by decide))⟩

                · (go_simp; refine hK.out _ _ ?_ (fun hHeld => ?_); (focus exact Lw.sm_of (Lw.balloc (Lw.sm_bel hS0) _)); clear hK K; (try simp only [Act.put, List.setIfInBounds_toArray, List.set_cons_zero, List.set_cons_succ]))
                  have hS1 := Lw.sm_of (Lw.balloc (Lw.sm_bel hS0) (.cells #[.int .i64 0, .int .i64 0, .int .i64 0] 52))
                  (refine wpAnyH_ready (rs := [15]) (by kernel_rfl) (by simp) ?_; refine Lw.cons1 (i := 15) rfl (fun K hK => ?_) AllReadyH.nil; go_simp; go_at_call 21; (with_reducible refine (SH.out _).mono ?_); rintro e w3 ⟨rfl, hb3⟩; refine hK.out _ _ ?_ (fun hHeld => ?_); (focus exact Lw.sm_keep hS1 hb3); clear hK K; (try simp only [Act.put, List.setIfInBounds_toArray, List.set_cons_zero, List.set_cons_succ]))
                  have hS3 := Lw.sm_keep hS1 hb3
                  have BG3 : w3.heap[W1.heap.size]? = some (.cells #[.int .i64 0, .int .i64 0, .int .i64 0] 52 (0, 0)) := (hb3.block W1.drew.heap.size (by simp)).trans (Lw.blk_new W1.drew _ _)
                  have gc0 := Lw.blk_cell BG3 0; have gc1 := Lw.blk_cell BG3 1; have gc2 := Lw.blk_cell BG3 2
                  have gf0 := Lw.blk_free BG3 0; have gf1 := Lw.blk_free BG3 1; have gf2 := Lw.blk_free BG3 2
                  simp at gc0 gc1 gc2
                  have hwd : W1.drew.heap.size = W1.heap.size := rfl
                  have hBx := (((Lw.sm_bel hS3).setCell (p := ⟨W1.heap.size, 0, none⟩) (Nat.le_refl _) (.int .i64 y1)).setCell (p := ⟨W1.heap.size, 1, none⟩) (Nat.le_refl _) (.int .i64 y2)).setCell (p := ⟨W1.heap.size, 2, none⟩) (Nat.le_refl _) (.int .i64 key)
                  (refine wpAnyH_ready (rs := [17]) (by kernel_rfl) (by simp) ?_; refine Lw.cons1 (i := 17) rfl (fun K hK => ?_) AllReadyH.nil; go_simp; refine hK.out _ _ ?_ (fun hHeld => ?_); (focus exact Lw.sm_of hBx); clear hK K; (try simp only [Act.put, List.setIfInBounds_toArray, List.set_cons_zero, List.set_cons_succ]))
                  refine wpAnyH_done (by kernel_rfl) ?_ _
                  have BR : ((((w3.setCell ⟨W1.heap.size, 0, none⟩ (.int .i64 y1)).setCell ⟨W1.heap.size, 1, none⟩ (.int .i64 y2)).setCell ⟨W1.heap.size, 2, none⟩ (.int .i64 key))).heap[W1.heap.size]? = some (.cells #[.int .i64 y1, .int .i64 y2, .int .i64 key] 52 (0, 0)) := by
                    simpa using Lw.blk_set_same (Lw.blk_set_same (Lw.blk_set_same BG3 0 (.int .i64 y1)) 1 (.int .i64 y2)) 2 (.int .i64 key)
                  clear BG3 gc0 gc1 gc2 gf0 gf1 gf2

                  have PSx := PS1.below hBx
                  have hzx := hBx.size
                  (try simp at hzx)
                  have bXx := (hBx.block (wr.heap.size + 1) v4).trans bX
                  have r2 := Lw.blk_cell BR 2
                  simp at r2
                  have KO := Lib.hid PSx.2.2.1
                  have HB0 := Lib.hid PSx.1
                  have gx := Lw.blk_lt BR
                  (try simp at gx)
                  have hkl : ks.length ≤ 3 := by omega
                  go_wp2_with (at_builtin; refine Lw.wpList_app elInt rfl _ _ rfl rfl (World.ownsRow.alloc KO.out _) rfl (by exact Lw.Rd.lit (Lw.blk_new' (by simp) _ _) rfl rfl) (Lw.intsV_one _ [key]) (by first | omega | (simp only; omega)) (Lw.balloc HB0.out _) (by omega) (by simp; omega) ?_; intro v5 w5 own5 hb5 hg5 ho5; have BR5 := (hg5.block _ (by simp; omega) (fun e => Lw.own_other KO.out BR (by decide) e.symm)).trans (Lw.blk_alloc BR _); have r5 := Lw.blk_cell BR5 2; simp at r5)
                  have BX5 := (hg5.block (wr.heap.size + 1) (by simp; omega) (fun e => Lw.own_other KO.out bXx (by decide) e.symm)).trans (Lw.blk_alloc bXx _)
                  have PS5 : RfS P Q G H w ⟨ks ++ [key], th, ho⟩ out v5 u10 w5 := RfS.key PSx hb5 hg5 (by rw [Lw.intsV_app]; simpa using own5)
                  have hz5 := hg5.size
                  simp at hz5
                  refine (ref_little key 2 _ KB.out.1 (by have := KB.out.2; omega) (by omega)).mono ?_
                  rintro e w6 ⟨A6, d6, rfl, own6, hb6⟩
                  have BX6 := (hb6.block (wr.heap.size + 1) (Lw.blk_lt BX5)).trans BX5
                  have PS6 := PS5.below hb6
                  have p1 := Lw.blk_cell BX6 1
                  have f1 := Lw.blk_free BX6 1
                  simp at p1
                  have PS7 := PS6.px (i := 1) (u := .slice A6 2 d6) (by omega) BX6 hne10
                  have BX7 := Lw.blk_set_same BX6 1 (.slice A6 2 d6)
                  have hz6 := hb6.size
                  go_wp2
                  go_meet
                  exact ⟨A6, d6, 0, Lw.littleL key 2, ⟨ks ++ [key], th, ho⟩, hst, rfl, rfl, PS7, by rw [World.size_setCell]; omega, by simpa [Lw.littleL_length] using BX7, Lw.own_setk (Lw.ownsBase own6 (by have := PS5.1.size; omega)) (Lw.own_other own6 BX6 (by decide))⟩

              · (go_simp; refine hK.out _ _ ?_ (fun hHeld => ?_); (focus exact Lw.sm_of (Lw.balloc (Lw.sm_bel hS0) _)); clear hK K; (try simp only [Act.put, List.setIfInBounds_toArray, List.set_cons_zero, List.set_cons_succ]))
                have hS1 := Lw.sm_of (Lw.balloc (Lw.sm_bel hS0) (.cells #[.int .i64 0, .int .i64 0, .int .i64 0] 52))
                (refine wpAnyH_ready (rs := [14]) (by kernel_rfl) (by simp) ?_; refine Lw.cons1 (i := 14) rfl (fun K hK => ?_) AllReadyH.nil; go_simp; go_at_call 20; (with_reducible refine (PX.out _).mono ?_); rintro e wx ⟨rfl, rfl⟩; refine hK.out _ _ ?_ (fun hHeld => ?_); (focus exact hS1); clear hK K; (try simp only [Act.put, List.setIfInBounds_toArray, List.set_cons_zero, List.set_cons_succ]))
                (refine wpAnyH_ready (rs := [15]) (by kernel_rfl) (by simp) ?_; refine Lw.cons1 (i := 15) rfl (fun K hK => ?_) AllReadyH.nil; go_simp; go_at_call 21; (with_reducible refine (SH.out _).mono ?_); rintro e w3 ⟨rfl, hb3⟩; refine hK.out _ _ ?_ (fun hHeld => ?_); (focus exact Lw.sm_keep hS1 hb3); clear hK K; (try simp only [Act.put, List.setIfInBounds_toArray, List.set_cons_zero, List.set_cons_succ]))
                have hS3 := Lw.sm_keep hS1 hb3
                have BG3 : w3.heap[W1.heap.size]? = some (.cells #[.int .i64 0, .int .i64 0, .int .i64 0] 52 (0, 0)) := (hb3.block W1.drew.heap.size (by simp)).trans (Lw.blk_new W1.drew _ _)
                have gc0 := Lw.blk_cell BG3 0; have gc1 := Lw.blk_cell BG3 1; have gc2 := Lw.blk_cell BG3 2
                have gf0 := Lw.blk_free BG3 0; have gf1 := Lw.blk_free BG3 1; have gf2 := Lw.blk_free BG3 2
                simp at gc0 gc1 gc2
                have hwd : W1.drew.heap.size = W1.heap.size := rfl
                have hBx := (((Lw.sm_bel hS3).setCell (p := ⟨W1.heap.size, 0, none⟩) (Nat.le_refl _) (.int .i64 y1)).setCell (p := ⟨W1.heap.size, 1, none⟩) (Nat.le_refl _) (.int .i64 y2)).setCell (p := ⟨W1.heap.size, 2, none⟩) (Nat.le_refl _) (.int .i64 key)
                (refine wpAnyH_ready (rs := [17]) (by kernel_rfl) (by simp) ?_; refine Lw.cons1 (i := 17) rfl (fun K hK => ?_) AllReadyH.nil; go_simp; refine hK.out _ _ ?_ (fun hHeld => ?_); (focus exact Lw.sm_of hBx); clear hK K; (try simp only [Act.put, List.setIfInBounds_toArray, List.set_cons_zero, List.set_cons_succ]))
                refine wpAnyH_done (by kernel_rfl) ?_ _
                have BR : ((((w3.setCell ⟨W1.heap.size, 0, none⟩ (.int .i64 y1)).setCell ⟨W1.heap.size, 1, none⟩ (.int .i64 y2)).setCell ⟨W1.heap.size, 2, none⟩ (.int .i64 key))).heap[W1.heap.size]? = some (.cells #[.int .i64 y1, .int .i64 y2, .int .i64 key] 52 (0, 0)) := by
                  simpa using Lw.blk_set_same (Lw.blk_set_same (Lw.blk_set_same BG3 0 (.int .i64 y1)) 1 (.int .i64 y2)) 2 (.int .i64 key)
                clear BG3 gc0 gc1 gc2 gf0 gf1 gf2

                have PSx := PS1.below hBx
                have hzx := hBx.size
                (try simp at hzx)
                have bXx := (hBx.block (wr.heap.size + 1) v4).trans bX
                have r2 := Lw.blk_cell BR 2
                simp at r2
                have KO := Lib.hid PSx.2.2.1
                have HB0 := Lib.hid PSx.1
                have gx := Lw.blk_lt BR
                (try simp at gx)
                have hkl : ks.length ≤ 3 := by omega
                go_wp2_with (at_builtin; refine Lw.wpList_app elInt rfl _ _ rfl rfl (World.ownsRow.alloc KO.out _) rfl (by exact Lw.Rd.lit (Lw.blk_new' (by simp) _ _) rfl rfl) (Lw.intsV_one _ [key]) (by first | omega | (simp only; omega)) (Lw.balloc HB0.out _) (by omega) (by simp; omega) ?_; intro v5 w5 own5 hb5 hg5 ho5; have BR5 := (hg5.block _ (by simp; omega) (fun e => Lw.own_other KO.out BR (by decide) e.symm)).trans (Lw.blk_alloc BR _); have r5 := Lw.blk_cell BR5 2; simp at r5)
                have BX5 := (hg5.block (wr.heap.size + 1) (by simp; omega) (fun e => Lw.own_other KO.out bXx (by decide) e.symm)).trans (Lw.blk_alloc bXx _)
                have PS5 : RfS P Q G H w ⟨ks ++ [key], th, ho⟩ out v5 u10 w5 := RfS.key PSx hb5 hg5 (by rw [Lw.intsV_app]; simpa using own5)
                have hz5 := hg5.size
                simp at hz5
                refine (ref_little key 2 _ KB.out.1 (by have := KB.out.2; omega) (by omega)).mono ?_
                rintro e w6 ⟨A6, d6, rfl, own6, hb6⟩
                have BX6 := (hb6.block (wr.heap.size + 1) (Lw.blk_lt BX5)).trans BX5
                have PS6 := PS5.below hb6
                have p1 := Lw.blk_cell BX6 1
                have f1 := Lw.blk_free BX6 1
                simp at p1
                have PS7 := PS6.px (i := 1) (u := .slice A6 2 d6) (by omega) BX6 hne10
                have BX7 := Lw.blk_set_same BX6 1 (.slice A6 2 d6)
                have hz6 := hb6.size
                go_wp2
                go_meet
                exact ⟨A6, d6, 0, Lw.littleL key 2, ⟨ks ++ [key], th, ho⟩, hst, rfl, rfl, PS7, by rw [World.size_setCell]; omega, by simpa [Lw.littleL_length] using BX7, Lw.own_setk (Lw.ownsBase own6 (by have := PS5.1.size; omega)) (Lw.own_other own6 BX6 (by decide))⟩


        · by_cases hk23 : ¬ kd = 2 ∧ ¬ kd = 3
          · obtain ⟨n2, n3⟩ := hk23
            have z1 : (kd == 1) = false := by simpa using hk1
            have z2 : (kd != 2) = true := by simpa using n2
            have z3 : (kd != 3) = true := by simpa using n3
            have hst : Lw.rlStep P Q G ss ⟨ks, th, ho⟩ ⟨kd, kk, ll, hA, hn', hc', zs, lk, at', tn⟩ = ((6, []), ⟨ks, th, ho⟩) := by unfold Lw.rlStep; rw [if_neg hk1, if_neg n2, if_neg n3]
            as_aux_lemma =>
              go_wp2
              go_meet
              exact ⟨none, 0, 6, [], ⟨ks, th, ho⟩, hst, rfl, rfl, PSA.out _, by simp; omega, Lw.blk_new' (by simp) _ _, World.ownsRow_nil _ _ _ _⟩

          · -- SEND
            by_cases hE : Lw.wrongE ks.length ⟨kd, kk, ll, hA, hn', hc', zs, lk, at', tn⟩ = 0
            · obtain ⟨n1, n2⟩ := wrong_facts hE
              simp only at n2
              have LZ := Lib.hid (show zs.length = hn' by have := HOK.out.1.1; simpa [Lw.intsV] using this)
              have hlk : ¬ tn = 0 → ¬ lk < 0 ∧ ¬ (ks.length : Int) ≤ lk ∧ ¬ at' < 0 ∧ ¬ 17 ≤ at' := by
                intro ht
                rw [Lw.wrongE_def, if_neg (by omega), if_neg (by omega)] at hE
                split at hE
                · cases hE
                · omega
              have z1 : (kd == 1) = false := by simpa using hk1
              have z4 : ((ks.length : Int) == 0) = false := by rw [beq_eq_false_iff_ne]; omega
              have z5 : ¬ (14 : Int) < (hn' : Int) := by omega
              obtain ⟨m, hm⟩ : ∃ m : Nat, (ks.length : Int) - 1 = (m : Int) := ⟨ks.length - 1, by omega⟩
              have hm2 : m < ks.length := by omega
              have kb := RO.out.keys _ (List.getElem_mem hm2)
              obtain ⟨ad3, rfl, had3, hlast⟩ := (Lw.Rd.of_own PSH.out.2.2.1).at1 hm2 (Lw.intsV_get hm2)
              have had3m : (ad3.add m).block < wr.heap.size := by rw [Lw.add_block]; exact had3
              have j0 : (0 : Int) ≤ (m : Int) := by omega
              have j1 : (m : Int) < (ks.length : Int) := by omega
              have hmw : IntKind.i64.wrap (m : Int) = (m : Int) := IntWalk.i64_in _ (by omega)
              rcases (by omega : kd = 2 ∨ kd = 3) with rfl | rfl
              · as_aux_lemma =>
                  have tb : 0 ≤ tn ∧ tn < 256 := ⟨HOK.out.2.2.1, HOK.out.2.2.2⟩
                  have hst : Lw.rlStep P Q G ss ⟨ks, th, ho⟩ ⟨2, kk, ll, hA, hn', hc', zs, lk, at', tn⟩ = (Lw.sendC ks (th : Int) ⟨2, kk, ll, hA, hn', hc', zs, lk, at', tn⟩, ⟨ks, th + 1, ho⟩) := by
                    unfold Lw.rlStep
                    rw [if_neg (by simp), if_pos rfl, if_pos hE]
                  have hsc : Lw.sendC ks (th : Int) ⟨2, kk, ll, hA, hn', hc', zs, lk, at', tn⟩ = Lw.readC ks[m] (th : Int) (Lw.turnL at'.toNat tn (Lw.cellL ks[m] (th : Int) zs)) := by
                    show Lw.readC _ _ _ = _
                    rw [Lw.last_get (m := m) (by omega)]
                  rw [hsc] at hst
                  obtain ⟨lst, hls⟩ : ∃ y, ks[m] = y := ⟨_, rfl⟩
                  rw [hls] at hst hlast kb
                  clear hls hsc
                  have CE := Lib.hid (fun w R => ref_Cell lst (th : Int) hA hn' hc' zs w R HOK.out.2.1 n2 kb.1 kb.2 (by omega) (by omega))
                  have cby := Lw.cellL_byt (key := lst) (count := (th : Int)) (body := zs) (by rw [LZ.out]; exact n2) HOK.out.2.1
                  have RD := Lib.hid (fun A c w R hc => ref_ReadCell lst (th : Int) A c (Lw.turnL at'.toNat tn (Lw.cellL lst (th : Int) zs)) w R (Lw.turnL_byt cby tb.1 tb.2) hc kb.1 kb.2 (by omega) (by omega))
                  have cln := Lw.cellL_length (key := lst) (count := (th : Int)) (body := zs) (by rw [LZ.out]; exact n2)
                  obtain ⟨cl, hcl⟩ : ∃ y, Lw.cellL lst (th : Int) zs = y := ⟨_, rfl⟩
                  rw [hcl] at CE RD hst cby cln
                  obtain ⟨⟨code, bd⟩, hrd⟩ : ∃ y, Lw.readC lst (th : Int) (Lw.turnL at'.toNat tn cl) = y := ⟨_, rfl⟩
                  rw [hrd] at RD hst
                  clear hcl hrd
                  by_cases ht : tn = 0
                  · subst ht
                    have ez : Lw.turnL at'.toNat 0 cl = cl := Lw.turnL_zero cby
                    have z6 : ((0 : Int) != 0) = false := rfl
                    rw [ez] at RD
                    go_wp2_with fail
                    refine (CE.out _ (HOK.out.1.below (Nat.le_refl _) (PSA.out _).1)).mono ?_
                    rintro e w2 ⟨A2, d2, rfl, own2, hb2⟩
                    have PS2 := (PSA.out _).below hb2
                    have bX2 := (hb2.block (wr.heap.size + 1) (by simp)).trans (Lw.blk_new' (by simp) _ _)
                    have bH2 := (hb2.block wr.heap.size (by simp; omega)).trans (Lw.blk_alloc (Lw.blk_new wr _ _) _)
                    have hcap : 17 ≤ d2 := by
                      rcases own2.2 with ⟨h0, _⟩ | ⟨g, cap, cur, hv, _, _, hc, _⟩
                      · cases h0
                      · injection hv with _ _ e3; omega
                    have t5 := Lw.blk_cell bH2 5; have t6 := Lw.blk_cell bH2 6
                    simp at t5 t6
                    go_wp2_with fail
                    refine (RD.out _ _ _ (Lw.Rd.of_own own2) hcap).mono ?_
                    rintro e w3 ⟨AB, cB, rfl, ownB, hb3⟩
                    have BX3 := (hb3.block (wr.heap.size + 1) (Lw.blk_lt bX2)).trans bX2
                    have PS3 := PS2.below hb3
                    have p1 := Lw.blk_cell BX3 1
                    have f1 := Lw.blk_free BX3 1
                    simp at p1
                    have BX4 := Lw.blk_set_same BX3 1 (.slice AB bd.length cB)
                    have p2 := Lw.blk_cell BX4 0
                    have f2 := Lw.blk_free BX4 0
                    simp at p2
                    have BX5 := Lw.blk_set_same BX4 0 (.int .i64 code)
                    have PS5 := (PS3.px (i := 1) (u := .slice AB bd.length cB) (by omega) BX3 hne10).px (i := 0) (u := .int .i64 code) (by omega) BX4 hne10
                    have hz3 := hb3.size
                    have ob3 := Lw.ownsBase ownB (show w.heap.size + 1 ≤ _ by have := PS2.1.size; have := Lw.blk_lt bX2; omega)
                    have ob4 := Lw.own_setk (i := 1) (u := .slice AB bd.length cB) ob3 (Lw.own_other ob3 BX3 (by decide))
                    have ob5 := Lw.own_setk (i := 0) (u := .int .i64 code) ob4 (Lw.own_other ob4 BX4 (by decide))
                    clear BX3 PS3
                    go_wp2
                    go_meet
                    exact ⟨AB, cB, code, bd, ⟨ks, th + 1, ho⟩, hst, rfl, rfl, PS5, by rw [World.size_setCell, World.size_setCell]; have := Lw.blk_lt bX2; omega, by simpa using BX5, ob5⟩

                  · obtain ⟨y1, y2, y3, y4⟩ := hlk ht
                    have z6 : (tn != 0) = true := by simpa using ht
                    obtain ⟨a, rfl⟩ := Int.eq_ofNat_of_zero_le (show 0 ≤ at' by omega)
                    rw [Int.toNat_natCast] at RD
                    have i0 : (0 : Int) ≤ (a : Int) := by omega
                    have i1 : (a : Int) < 17 := by omega
                    go_wp2_with fail
                    refine (CE.out _ (HOK.out.1.below (Nat.le_refl _) (PSA.out _).1)).mono ?_
                    rintro e w2 ⟨A2, d2, rfl, own2, hb2⟩
                    have PS2 := (PSA.out _).below hb2
                    have bX2 := (hb2.block (wr.heap.size + 1) (by simp)).trans (Lw.blk_new' (by simp) _ _)
                    have bH2 := (hb2.block wr.heap.size (by simp; omega)).trans (Lw.blk_alloc (Lw.blk_new wr _ _) _)
                    have hcap : 17 ≤ d2 := by
                      rcases own2.2 with ⟨h0, _⟩ | ⟨g, cap, cur, hv, _, _, hc, _⟩
                      · cases h0
                      · injection hv with _ _ e3; omega
                    have t5 := Lw.blk_cell bH2 5; have t6 := Lw.blk_cell bH2 6
                    simp at t5 t6
                    obtain ⟨g, rfl⟩ : ∃ g, A2 = some ⟨g, 0, none⟩ := by
                      rcases own2.2 with ⟨h0, _⟩ | ⟨g, cap, cur, hv, _⟩
                      · cases h0
                      · injection hv with e1; exact ⟨g, e1⟩
                    have ha : a < cl.length := by omega
                    obtain ⟨gc, gf, hbg, hgl2⟩ := Lw.own_cell own2 (Lw.intsV_get (k := .u8) ha)
                    have NX : Hid (Lw.intsV .u8 (Lw.turnL a tn cl) = (Lw.intsV .u8 cl).set a (.int .u8 (Lw.xorI cl[a] tn))) := by
                      show _ = _
                      rw [Lw.turnL_set ha]; unfold Lw.intsV; rw [List.map_set]
                    obtain ⟨x0, x1⟩ := cby _ (List.getElem_mem ha)
                    have xb := Lw.xorI_byte (b := tn) x0 x1 tb.1 tb.2
                    have MX := Lib.hid (fun (w : World) => ref_mixed cl[a] tn w x0 (by omega) tb.1 (by omega))
                    obtain ⟨x, hx⟩ : ∃ x, cl[a] = x := ⟨_, rfl⟩
                    rw [hx] at gc x0 x1 NX xb MX
                    generalize Lw.xorI x tn = y at *
                    have xw : IntKind.i64.wrap x = x := IntWalk.i64_in _ (by omega)
                    have tw : IntKind.i64.wrap tn = tn := IntWalk.i64_in _ (by omega)
                    have yw : IntKind.u8.wrap y = y := by rw [IntKind.wrap_u8]; omega
                    have neX : g ≠ wr.heap.size + 1 := fun e => Lw.own_other own2 bX2 (by decide) (by rw [← e]; rfl)
                    have neH : g ≠ wr.heap.size := fun e => Lw.own_other own2 bH2 (by decide) (by rw [← e]; rfl)
                    have OW := Lib.hid own2
                    clear hx own2
                    go_wp2_with fail
                    refine wp_region_held_drew (S := fun w' => w'.cell? ⟨wr.heap.size, 5, none⟩ = some (.int .i64 (a : Int)) ∧ w'.cell? ⟨wr.heap.size, 6, none⟩ = some (.int .u8 tn) ∧ True ∧ True) (by kernel_rfl) (by exact ⟨t5, t6, trivial, trivial⟩) (fun hHeld => ?_)
                    (refine Lw.take1 (i := 0) (v := ?_) rfl (by kernel_rfl) (by kernel_rfl) (by kernel_rfl) (fun _ _ _ h => h) (Or.inl ⟨by rfl, ?_⟩) (by assumption) ?_; rotate_left 1; (focus (intro wS hSw; obtain ⟨hS1, hS2, hS3, hS4⟩ := hSw; go_simp <;> with_reducible rfl)); (try simp only [Act.put, List.setIfInBounds_toArray, List.set_cons_zero, List.set_cons_succ]))
                    (refine Lw.take1 (i := 1) (v := ?_) rfl (by kernel_rfl) (by kernel_rfl) (by kernel_rfl) (fun _ _ _ h => h) (Or.inl ⟨by rfl, ?_⟩) (by assumption) ?_; rotate_left 1; (focus (intro wS hSw; obtain ⟨hS1, hS2, hS3, hS4⟩ := hSw; go_simp <;> with_reducible rfl)); (try simp only [Act.put, List.setIfInBounds_toArray, List.set_cons_zero, List.set_cons_succ]))
                    (refine Lw.take1 (i := 2) (v := ?_) rfl (by kernel_rfl) (by kernel_rfl) (by kernel_rfl) (fun _ _ _ h => h) (Or.inl ⟨by rfl, ?_⟩) (by assumption) ?_; rotate_left 1; (focus (intro wS hSw; obtain ⟨hS1, hS2, hS3, hS4⟩ := hSw; go_simp <;> with_reducible rfl)); (try simp only [Act.put, List.setIfInBounds_toArray, List.set_cons_zero, List.set_cons_succ]))
                    (refine Lw.take1 (i := 3) (v := ?_) rfl (by kernel_rfl) (by kernel_rfl) (by kernel_rfl) (fun _ _ _ h => h) (Or.inl ⟨by rfl, ?_⟩) (by assumption) ?_; rotate_left 1; (focus (intro wS hSw; obtain ⟨hS1, hS2, hS3, hS4⟩ := hSw; go_simp <;> with_reducible rfl)); (try simp only [Act.put, List.setIfInBounds_toArray, List.set_cons_zero, List.set_cons_succ]))
                    (refine Lw.take1 (i := 4) (v := ?_) rfl (by kernel_rfl) (by kernel_rfl) (by kernel_rfl) (fun _ _ _ h => h) (Or.inl ⟨by rfl, ?_⟩) (by assumption) ?_; rotate_left 1; (focus (intro wS hSw; obtain ⟨hS1, hS2, hS3, hS4⟩ := hSw; go_simp <;> with_reducible rfl)); (try simp only [Act.put, List.setIfInBounds_toArray, List.set_cons_zero, List.set_cons_succ]))
                    (refine Lw.take1 (i := 5) (v := ?_) rfl (by kernel_rfl) (by kernel_rfl) (by kernel_rfl) (fun _ _ _ h => h) (Or.inl ⟨by rfl, ?_⟩) (by assumption) ?_; rotate_left 1; (focus (intro wS hSw; obtain ⟨hS1, hS2, hS3, hS4⟩ := hSw; go_simp <;> with_reducible rfl)); (try simp only [Act.put, List.setIfInBounds_toArray, List.set_cons_zero, List.set_cons_succ]))
                    (refine Lw.take1 (i := 6) (v := ?_) rfl (by kernel_rfl) (by kernel_rfl) (by kernel_rfl) (fun _ _ _ h => h) (Or.inl ⟨by rfl, ?_⟩) (by assumption) ?_; rotate_left 1; (focus (intro wS hSw; obtain ⟨hS1, hS2, hS3, hS4⟩ := hSw; go_simp <;> with_reducible rfl)); (try simp only [Act.put, List.setIfInBounds_toArray, List.set_cons_zero, List.set_cons_succ]))
                    (refine Lw.take1 (i := 9) (v := ?_) rfl (by kernel_rfl) (by kernel_rfl) (by kernel_rfl) (fun _ _ _ h => h) (Or.inl ⟨by rfl, ?_⟩) (by assumption) ?_; rotate_left 1; (focus (intro wS hSw; obtain ⟨hS1, hS2, hS3, hS4⟩ := hSw; go_simp <;> with_reducible rfl)); (try simp only [Act.put, List.setIfInBounds_toArray, List.set_cons_zero, List.set_cons_succ]))
                    (refine Lw.take1 (i := 10) (v := ?_) rfl (by kernel_rfl) (by kernel_rfl) (by kernel_rfl) (fun _ _ _ h => h) (Or.inl ⟨by rfl, ?_⟩) (by assumption) ?_; rotate_left 1; (focus (intro wS hSw; obtain ⟨hS1, hS2, hS3, hS4⟩ := hSw; go_simp <;> with_reducible rfl)); (try simp only [Act.put, List.setIfInBounds_toArray, List.set_cons_zero, List.set_cons_succ]))
                    (refine Lw.take1 (i := 11) (v := ?_) rfl (by kernel_rfl) (by kernel_rfl) (by kernel_rfl) (fun _ _ _ h => h) (Or.inl ⟨by rfl, ?_⟩) (by assumption) ?_; rotate_left 1; (focus (intro wS hSw; obtain ⟨hS1, hS2, hS3, hS4⟩ := hSw; go_simp <;> with_reducible rfl)); (try simp only [Act.put, List.setIfInBounds_toArray, List.set_cons_zero, List.set_cons_succ]))
                    (refine wpAnyH_ready (rs := [7]) (by kernel_rfl) (by simp) ?_; refine Lw.cons1 (i := 7) rfl (fun K hK => ?_) AllReadyH.nil; go_simp; refine hK.out _ _ ?_ (fun hHeld => ?_); (focus exact ⟨t5, t6, trivial, trivial⟩); clear hK K; (try simp only [Act.put, List.setIfInBounds_toArray, List.set_cons_zero, List.set_cons_succ]))
                    (refine Lw.take1 (i := 8) (v := ?_) rfl (by kernel_rfl) (by kernel_rfl) (by kernel_rfl) (fun _ _ _ h => h) (Or.inl ⟨by rfl, ?_⟩) (by assumption) ?_; rotate_left 1; (focus (intro wS hSw; obtain ⟨hS1, hS2, hS3, hS4⟩ := hSw; go_simp <;> with_reducible rfl)); (try simp only [Act.put, List.setIfInBounds_toArray, List.set_cons_zero, List.set_cons_succ]))
                    (refine wpAnyH_ready (rs := [12]) (by kernel_rfl) (by simp) ?_; refine Lw.cons1 (i := 12) rfl (fun K hK => ?_) AllReadyH.nil; go_simp; go_at_call 24; (with_reducible refine (MX.out _).mono ?_); rintro e wx ⟨rfl, rfl⟩; refine hK.out _ _ ?_ (fun hHeld => ?_); (focus exact ⟨t5, t6, trivial, trivial⟩); clear hK K; (try simp only [Act.put, List.setIfInBounds_toArray, List.set_cons_zero, List.set_cons_succ]))
                    (refine Lw.take1 (i := 13) (v := ?_) rfl (by kernel_rfl) (by kernel_rfl) (by kernel_rfl) (fun _ _ _ h => h) (Or.inl ⟨by rfl, ?_⟩) (by assumption) ?_; rotate_left 1; (focus (intro wS hSw; obtain ⟨hS1, hS2, hS3, hS4⟩ := hSw; go_simp <;> with_reducible rfl)); (try simp only [Act.put, List.setIfInBounds_toArray, List.set_cons_zero, List.set_cons_succ]))
                    (refine Lw.take1 (i := 14) (v := ?_) rfl (by kernel_rfl) (by kernel_rfl) (by kernel_rfl) (fun _ _ _ h => h) (Or.inl ⟨by rfl, ?_⟩) (by assumption) ?_; rotate_left 1; (focus (intro wS hSw; obtain ⟨hS1, hS2, hS3, hS4⟩ := hSw; go_simp <;> with_reducible rfl)); (try simp only [Act.put, List.setIfInBounds_toArray, List.set_cons_zero, List.set_cons_succ]))
                    have KS : (w2.drew.setCell ⟨g, a, none⟩ (.int .u8 y)).cell? ⟨wr.heap.size, 5, none⟩ = some (.int .i64 (a : Int)) ∧ (w2.drew.setCell ⟨g, a, none⟩ (.int .u8 y)).cell? ⟨wr.heap.size, 6, none⟩ = some (.int .u8 tn) :=
                      ⟨(World.cell?_setCell_far _ _ _ _ (by exact neH)).trans t5, (World.cell?_setCell_far _ _ _ _ (by exact neH)).trans t6⟩
                    (refine wpAnyH_ready (rs := [15]) (by kernel_rfl) (by simp) ?_; refine Lw.cons1 (i := 15) rfl (fun K hK => ?_) AllReadyH.nil; go_simp; refine hK.out _ _ ?_ (fun hHeld => ?_); (focus exact ⟨KS.1, KS.2, trivial, trivial⟩); clear hK K; (try simp only [Act.put, List.setIfInBounds_toArray, List.set_cons_zero, List.set_cons_succ]))
                    refine wpAnyH_done (by kernel_rfl) ?_ _
                    have own2 := Lw.own_set (w := w2.drew) (v := .int .u8 y) OW.out (show a < 17 by omega)
                    rw [← NX.out] at own2
                    have bX3 := (Below.heap_setCell w2.drew ⟨g, a, none⟩ (.int .u8 y) (wr.heap.size + 1) (by exact Ne.symm neX)).trans bX2
                    have PS3 := (PSA.out _).below ((Below.drew hb2).setCell (p := ⟨g, a, none⟩) hbg (.int .u8 y))
                    clear hHeld KS PS2 bX2 bH2
                    have PS2 := PS3
                    have bX2 := bX3
                    clear PS3 bX3
                    go_wp2_with fail
                    refine (RD.out _ _ _ (Lw.Rd.of_own own2) hcap).mono ?_
                    rintro e w3 ⟨AB, cB, rfl, ownB, hb3⟩
                    have BX3 := (hb3.block (wr.heap.size + 1) (Lw.blk_lt bX2)).trans bX2
                    have PS3 := PS2.below hb3
                    have p1 := Lw.blk_cell BX3 1
                    have f1 := Lw.blk_free BX3 1
                    simp at p1
                    have BX4 := Lw.blk_set_same BX3 1 (.slice AB bd.length cB)
                    have p2 := Lw.blk_cell BX4 0
                    have f2 := Lw.blk_free BX4 0
                    simp at p2
                    have BX5 := Lw.blk_set_same BX4 0 (.int .i64 code)
                    have PS5 := (PS3.px (i := 1) (u := .slice AB bd.length cB) (by omega) BX3 hne10).px (i := 0) (u := .int .i64 code) (by omega) BX4 hne10
                    have hz3 := hb3.size
                    have ob3 := Lw.ownsBase ownB (show w.heap.size + 1 ≤ _ by have := PS2.1.size; have := Lw.blk_lt bX2; omega)
                    have ob4 := Lw.own_setk (i := 1) (u := .slice AB bd.length cB) ob3 (Lw.own_other ob3 BX3 (by decide))
                    have ob5 := Lw.own_setk (i := 0) (u := .int .i64 code) ob4 (Lw.own_other ob4 BX4 (by decide))
                    clear BX3 PS3
                    go_wp2
                    go_meet
                    exact ⟨AB, cB, code, bd, ⟨ks, th + 1, ho⟩, hst, rfl, rfl, PS5, by rw [World.size_setCell, World.size_setCell]; have := Lw.blk_lt bX2; omega, by simpa using BX5, ob5⟩


              · as_aux_lemma =>
                  have tb : 0 ≤ tn ∧ tn < 256 := ⟨HOK.out.2.2.1, HOK.out.2.2.2⟩
                  have hst : Lw.rlStep P Q G ss ⟨ks, th, ho⟩ ⟨3, kk, ll, hA, hn', hc', zs, lk, at', tn⟩ = (Lw.sendC ks ((ho : Int) + 1073741824) ⟨3, kk, ll, hA, hn', hc', zs, lk, at', tn⟩, ⟨ks, th, ho + 1⟩) := by
                    unfold Lw.rlStep
                    rw [if_neg (by simp), if_neg (by simp), if_pos rfl, if_pos hE]
                  have hsc : Lw.sendC ks ((ho : Int) + 1073741824) ⟨3, kk, ll, hA, hn', hc', zs, lk, at', tn⟩ = Lw.readC ks[m] ((ho : Int) + 1073741824) (Lw.turnL at'.toNat tn (Lw.cellL ks[m] ((ho : Int) + 1073741824) zs)) := by
                    show Lw.readC _ _ _ = _
                    rw [Lw.last_get (m := m) (by omega)]
                  rw [hsc] at hst
                  obtain ⟨lst, hls⟩ : ∃ y, ks[m] = y := ⟨_, rfl⟩
                  rw [hls] at hst hlast kb
                  clear hls hsc
                  have CE := Lib.hid (fun w R => ref_Cell lst ((ho : Int) + 1073741824) hA hn' hc' zs w R HOK.out.2.1 n2 kb.1 kb.2 (by omega) (by omega))
                  have cby := Lw.cellL_byt (key := lst) (count := ((ho : Int) + 1073741824)) (body := zs) (by rw [LZ.out]; exact n2) HOK.out.2.1
                  have RD := Lib.hid (fun A c w R hc => ref_ReadCell lst ((ho : Int) + 1073741824) A c (Lw.turnL at'.toNat tn (Lw.cellL lst ((ho : Int) + 1073741824) zs)) w R (Lw.turnL_byt cby tb.1 tb.2) hc kb.1 kb.2 (by omega) (by omega))
                  have cln := Lw.cellL_length (key := lst) (count := ((ho : Int) + 1073741824)) (body := zs) (by rw [LZ.out]; exact n2)
                  obtain ⟨cl, hcl⟩ : ∃ y, Lw.cellL lst ((ho : Int) + 1073741824) zs = y := ⟨_, rfl⟩
                  rw [hcl] at CE RD hst cby cln
                  obtain ⟨⟨code, bd⟩, hrd⟩ : ∃ y, Lw.readC lst ((ho : Int) + 1073741824) (Lw.turnL at'.toNat tn cl) = y := ⟨_, rfl⟩
                  rw [hrd] at RD hst
                  clear hcl hrd
                  by_cases ht : tn = 0
                  · subst ht
                    have ez : Lw.turnL at'.toNat 0 cl = cl := Lw.turnL_zero cby
                    have z6 : ((0 : Int) != 0) = false := rfl
                    rw [ez] at RD
                    go_wp2_with fail
                    refine (CE.out _ (HOK.out.1.below (Nat.le_refl _) (PSA.out _).1)).mono ?_
                    rintro e w2 ⟨A2, d2, rfl, own2, hb2⟩
                    have PS2 := (PSA.out _).below hb2
                    have bX2 := (hb2.block (wr.heap.size + 1) (by simp)).trans (Lw.blk_new' (by simp) _ _)
                    have bH2 := (hb2.block wr.heap.size (by simp; omega)).trans (Lw.blk_alloc (Lw.blk_new wr _ _) _)
                    have hcap : 17 ≤ d2 := by
                      rcases own2.2 with ⟨h0, _⟩ | ⟨g, cap, cur, hv, _, _, hc, _⟩
                      · cases h0
                      · injection hv with _ _ e3; omega
                    have t5 := Lw.blk_cell bH2 5; have t6 := Lw.blk_cell bH2 6
                    simp at t5 t6
                    go_wp2_with fail
                    refine (RD.out _ _ _ (Lw.Rd.of_own own2) hcap).mono ?_
                    rintro e w3 ⟨AB, cB, rfl, ownB, hb3⟩
                    have BX3 := (hb3.block (wr.heap.size + 1) (Lw.blk_lt bX2)).trans bX2
                    have PS3 := PS2.below hb3
                    have p1 := Lw.blk_cell BX3 1
                    have f1 := Lw.blk_free BX3 1
                    simp at p1
                    have BX4 := Lw.blk_set_same BX3 1 (.slice AB bd.length cB)
                    have p2 := Lw.blk_cell BX4 0
                    have f2 := Lw.blk_free BX4 0
                    simp at p2
                    have BX5 := Lw.blk_set_same BX4 0 (.int .i64 code)
                    have PS5 := (PS3.px (i := 1) (u := .slice AB bd.length cB) (by omega) BX3 hne10).px (i := 0) (u := .int .i64 code) (by omega) BX4 hne10
                    have hz3 := hb3.size
                    have ob3 := Lw.ownsBase ownB (show w.heap.size + 1 ≤ _ by have := PS2.1.size; have := Lw.blk_lt bX2; omega)
                    have ob4 := Lw.own_setk (i := 1) (u := .slice AB bd.length cB) ob3 (Lw.own_other ob3 BX3 (by decide))
                    have ob5 := Lw.own_setk (i := 0) (u := .int .i64 code) ob4 (Lw.own_other ob4 BX4 (by decide))
                    clear BX3 PS3
                    go_wp2
                    go_meet
                    exact ⟨AB, cB, code, bd, ⟨ks, th, ho + 1⟩, hst, rfl, rfl, PS5, by rw [World.size_setCell, World.size_setCell]; have := Lw.blk_lt bX2; omega, by simpa using BX5, ob5⟩

                  · obtain ⟨y1, y2, y3, y4⟩ := hlk ht
                    have z6 : (tn != 0) = true := by simpa using ht
                    obtain ⟨a, rfl⟩ := Int.eq_ofNat_of_zero_le (show 0 ≤ at' by omega)
                    rw [Int.toNat_natCast] at RD
                    have i0 : (0 : Int) ≤ (a : Int) := by omega
                    have i1 : (a : Int) < 17 := by omega
                    go_wp2_with fail
                    refine (CE.out _ (HOK.out.1.below (Nat.le_refl _) (PSA.out _).1)).mono ?_
                    rintro e w2 ⟨A2, d2, rfl, own2, hb2⟩
                    have PS2 := (PSA.out _).below hb2
                    have bX2 := (hb2.block (wr.heap.size + 1) (by simp)).trans (Lw.blk_new' (by simp) _ _)
                    have bH2 := (hb2.block wr.heap.size (by simp; omega)).trans (Lw.blk_alloc (Lw.blk_new wr _ _) _)
                    have hcap : 17 ≤ d2 := by
                      rcases own2.2 with ⟨h0, _⟩ | ⟨g, cap, cur, hv, _, _, hc, _⟩
                      · cases h0
                      · injection hv with _ _ e3; omega
                    have t5 := Lw.blk_cell bH2 5; have t6 := Lw.blk_cell bH2 6
                    simp at t5 t6
                    obtain ⟨g, rfl⟩ : ∃ g, A2 = some ⟨g, 0, none⟩ := by
                      rcases own2.2 with ⟨h0, _⟩ | ⟨g, cap, cur, hv, _⟩
                      · cases h0
                      · injection hv with e1; exact ⟨g, e1⟩
                    have ha : a < cl.length := by omega
                    obtain ⟨gc, gf, hbg, hgl2⟩ := Lw.own_cell own2 (Lw.intsV_get (k := .u8) ha)
                    have NX : Hid (Lw.intsV .u8 (Lw.turnL a tn cl) = (Lw.intsV .u8 cl).set a (.int .u8 (Lw.xorI cl[a] tn))) := by
                      show _ = _
                      rw [Lw.turnL_set ha]; unfold Lw.intsV; rw [List.map_set]
                    obtain ⟨x0, x1⟩ := cby _ (List.getElem_mem ha)
                    have xb := Lw.xorI_byte (b := tn) x0 x1 tb.1 tb.2
                    have MX := Lib.hid (fun (w : World) => ref_mixed cl[a] tn w x0 (by omega) tb.1 (by omega))
                    obtain ⟨x, hx⟩ : ∃ x, cl[a] = x := ⟨_, rfl⟩
                    rw [hx] at gc x0 x1 NX xb MX
                    generalize Lw.xorI x tn = y at *
                    have xw : IntKind.i64.wrap x = x := IntWalk.i64_in _ (by omega)
                    have tw : IntKind.i64.wrap tn = tn := IntWalk.i64_in _ (by omega)
                    have yw : IntKind.u8.wrap y = y := by rw [IntKind.wrap_u8]; omega
                    have neX : g ≠ wr.heap.size + 1 := fun e => Lw.own_other own2 bX2 (by decide) (by rw [← e]; rfl)
                    have neH : g ≠ wr.heap.size := fun e => Lw.own_other own2 bH2 (by decide) (by rw [← e]; rfl)
                    have OW := Lib.hid own2
                    clear hx own2
                    go_wp2_with fail
                    refine wp_region_held_drew (S := fun w' => w'.cell? ⟨wr.heap.size, 5, none⟩ = some (.int .i64 (a : Int)) ∧ w'.cell? ⟨wr.heap.size, 6, none⟩ = some (.int .u8 tn) ∧ True ∧ True) (by kernel_rfl) (by exact ⟨t5, t6, trivial, trivial⟩) (fun hHeld => ?_)
                    (refine Lw.take1 (i := 0) (v := ?_) rfl (by kernel_rfl) (by kernel_rfl) (by kernel_rfl) (fun _ _ _ h => h) (Or.inl ⟨by rfl, ?_⟩) (by assumption) ?_; rotate_left 1; (focus (intro wS hSw; obtain ⟨hS1, hS2, hS3, hS4⟩ := hSw; go_simp <;> with_reducible rfl)); (try simp only [Act.put, List.setIfInBounds_toArray, List.set_cons_zero, List.set_cons_succ]))
                    (refine Lw.take1 (i := 1) (v := ?_) rfl (by kernel_rfl) (by kernel_rfl) (by kernel_rfl) (fun _ _ _ h => h) (Or.inl ⟨by rfl, ?_⟩) (by assumption) ?_; rotate_left 1; (focus (intro wS hSw; obtain ⟨hS1, hS2, hS3, hS4⟩ := hSw; go_simp <;> with_reducible rfl)); (try simp only [Act.put, List.setIfInBounds_toArray, List.set_cons_zero, List.set_cons_succ]))
                    (refine Lw.take1 (i := 2) (v := ?_) rfl (by kernel_rfl) (by kernel_rfl) (by kernel_rfl) (fun _ _ _ h => h) (Or.inl ⟨by rfl, ?_⟩) (by assumption) ?_; rotate_left 1; (focus (intro wS hSw; obtain ⟨hS1, hS2, hS3, hS4⟩ := hSw; go_simp <;> with_reducible rfl)); (try simp only [Act.put, List.setIfInBounds_toArray, List.set_cons_zero, List.set_cons_succ]))
                    (refine Lw.take1 (i := 3) (v := ?_) rfl (by kernel_rfl) (by kernel_rfl) (by kernel_rfl) (fun _ _ _ h => h) (Or.inl ⟨by rfl, ?_⟩) (by assumption) ?_; rotate_left 1; (focus (intro wS hSw; obtain ⟨hS1, hS2, hS3, hS4⟩ := hSw; go_simp <;> with_reducible rfl)); (try simp only [Act.put, List.setIfInBounds_toArray, List.set_cons_zero, List.set_cons_succ]))
                    (refine Lw.take1 (i := 4) (v := ?_) rfl (by kernel_rfl) (by kernel_rfl) (by kernel_rfl) (fun _ _ _ h => h) (Or.inl ⟨by rfl, ?_⟩) (by assumption) ?_; rotate_left 1; (focus (intro wS hSw; obtain ⟨hS1, hS2, hS3, hS4⟩ := hSw; go_simp <;> with_reducible rfl)); (try simp only [Act.put, List.setIfInBounds_toArray, List.set_cons_zero, List.set_cons_succ]))
                    (refine Lw.take1 (i := 5) (v := ?_) rfl (by kernel_rfl) (by kernel_rfl) (by kernel_rfl) (fun _ _ _ h => h) (Or.inl ⟨by rfl, ?_⟩) (by assumption) ?_; rotate_left 1; (focus (intro wS hSw; obtain ⟨hS1, hS2, hS3, hS4⟩ := hSw; go_simp <;> with_reducible rfl)); (try simp only [Act.put, List.setIfInBounds_toArray, List.set_cons_zero, List.set_cons_succ]))
                    (refine Lw.take1 (i := 6) (v := ?_) rfl (by kernel_rfl) (by kernel_rfl) (by kernel_rfl) (fun _ _ _ h => h) (Or.inl ⟨by rfl, ?_⟩) (by assumption) ?_; rotate_left 1; (focus (intro wS hSw; obtain ⟨hS1, hS2, hS3, hS4⟩ := hSw; go_simp <;> with_reducible rfl)); (try simp only [Act.put, List.setIfInBounds_toArray, List.set_cons_zero, List.set_cons_succ]))
                    (refine Lw.take1 (i := 9) (v := ?_) rfl (by kernel_rfl) (by kernel_rfl) (by kernel_rfl) (fun _ _ _ h => h) (Or.inl ⟨by rfl, ?_⟩) (by assumption) ?_; rotate_left 1; (focus (intro wS hSw; obtain ⟨hS1, hS2, hS3, hS4⟩ := hSw; go_simp <;> with_reducible rfl)); (try simp only [Act.put, List.setIfInBounds_toArray, List.set_cons_zero, List.set_cons_succ]))
                    (refine Lw.take1 (i := 10) (v := ?_) rfl (by kernel_rfl) (by kernel_rfl) (by kernel_rfl) (fun _ _ _ h => h) (Or.inl ⟨by rfl, ?_⟩) (by assumption) ?_; rotate_left 1; (focus (intro wS hSw; obtain ⟨hS1, hS2, hS3, hS4⟩ := hSw; go_simp <;> with_reducible rfl)); (try simp only [Act.put, List.setIfInBounds_toArray, List.set_cons_zero, List.set_cons_succ]))
                    (refine Lw.take1 (i := 11) (v := ?_) rfl (by kernel_rfl) (by kernel_rfl) (by kernel_rfl) (fun _ _ _ h => h) (Or.inl ⟨by rfl, ?_⟩) (by assumption) ?_; rotate_left 1; (focus (intro wS hSw; obtain ⟨hS1, hS2, hS3, hS4⟩ := hSw; go_simp <;> with_reducible rfl)); (try simp only [Act.put, List.setIfInBounds_toArray, List.set_cons_zero, List.set_cons_succ]))
                    (refine wpAnyH_ready (rs := [7]) (by kernel_rfl) (by simp) ?_; refine Lw.cons1 (i := 7) rfl (fun K hK => ?_) AllReadyH.nil; go_simp; refine hK.out _ _ ?_ (fun hHeld => ?_); (focus exact ⟨t5, t6, trivial, trivial⟩); clear hK K; (try simp only [Act.put, List.setIfInBounds_toArray, List.set_cons_zero, List.set_cons_succ]))
                    (refine Lw.take1 (i := 8) (v := ?_) rfl (by kernel_rfl) (by kernel_rfl) (by kernel_rfl) (fun _ _ _ h => h) (Or.inl ⟨by rfl, ?_⟩) (by assumption) ?_; rotate_left 1; (focus (intro wS hSw; obtain ⟨hS1, hS2, hS3, hS4⟩ := hSw; go_simp <;> with_reducible rfl)); (try simp only [Act.put, List.setIfInBounds_toArray, List.set_cons_zero, List.set_cons_succ]))
                    (refine wpAnyH_ready (rs := [12]) (by kernel_rfl) (by simp) ?_; refine Lw.cons1 (i := 12) rfl (fun K hK => ?_) AllReadyH.nil; go_simp; go_at_call 24; (with_reducible refine (MX.out _).mono ?_); rintro e wx ⟨rfl, rfl⟩; refine hK.out _ _ ?_ (fun hHeld => ?_); (focus exact ⟨t5, t6, trivial, trivial⟩); clear hK K; (try simp only [Act.put, List.setIfInBounds_toArray, List.set_cons_zero, List.set_cons_succ]))
                    (refine Lw.take1 (i := 13) (v := ?_) rfl (by kernel_rfl) (by kernel_rfl) (by kernel_rfl) (fun _ _ _ h => h) (Or.inl ⟨by rfl, ?_⟩) (by assumption) ?_; rotate_left 1; (focus (intro wS hSw; obtain ⟨hS1, hS2, hS3, hS4⟩ := hSw; go_simp <;> with_reducible rfl)); (try simp only [Act.put, List.setIfInBounds_toArray, List.set_cons_zero, List.set_cons_succ]))
                    (refine Lw.take1 (i := 14) (v := ?_) rfl (by kernel_rfl) (by kernel_rfl) (by kernel_rfl) (fun _ _ _ h => h) (Or.inl ⟨by rfl, ?_⟩) (by assumption) ?_; rotate_left 1; (focus (intro wS hSw; obtain ⟨hS1, hS2, hS3, hS4⟩ := hSw; go_simp <;> with_reducible rfl)); (try simp only [Act.put, List.setIfInBounds_toArray, List.set_cons_zero, List.set_cons_succ]))
                    have KS : (w2.drew.setCell ⟨g, a, none⟩ (.int .u8 y)).cell? ⟨wr.heap.size, 5, none⟩ = some (.int .i64 (a : Int)) ∧ (w2.drew.setCell ⟨g, a, none⟩ (.int .u8 y)).cell? ⟨wr.heap.size, 6, none⟩ = some (.int .u8 tn) :=
                      ⟨(World.cell?_setCell_far _ _ _ _ (by exact neH)).trans t5, (World.cell?_setCell_far _ _ _ _ (by exact neH)).trans t6⟩
                    (refine wpAnyH_ready (rs := [15]) (by kernel_rfl) (by simp) ?_; refine Lw.cons1 (i := 15) rfl (fun K hK => ?_) AllReadyH.nil; go_simp; refine hK.out _ _ ?_ (fun hHeld => ?_); (focus exact ⟨KS.1, KS.2, trivial, trivial⟩); clear hK K; (try simp only [Act.put, List.setIfInBounds_toArray, List.set_cons_zero, List.set_cons_succ]))
                    refine wpAnyH_done (by kernel_rfl) ?_ _
                    have own2 := Lw.own_set (w := w2.drew) (v := .int .u8 y) OW.out (show a < 17 by omega)
                    rw [← NX.out] at own2
                    have bX3 := (Below.heap_setCell w2.drew ⟨g, a, none⟩ (.int .u8 y) (wr.heap.size + 1) (by exact Ne.symm neX)).trans bX2
                    have PS3 := (PSA.out _).below ((Below.drew hb2).setCell (p := ⟨g, a, none⟩) hbg (.int .u8 y))
                    clear hHeld KS PS2 bX2 bH2
                    have PS2 := PS3
                    have bX2 := bX3
                    clear PS3 bX3
                    go_wp2_with fail
                    refine (RD.out _ _ _ (Lw.Rd.of_own own2) hcap).mono ?_
                    rintro e w3 ⟨AB, cB, rfl, ownB, hb3⟩
                    have BX3 := (hb3.block (wr.heap.size + 1) (Lw.blk_lt bX2)).trans bX2
                    have PS3 := PS2.below hb3
                    have p1 := Lw.blk_cell BX3 1
                    have f1 := Lw.blk_free BX3 1
                    simp at p1
                    have BX4 := Lw.blk_set_same BX3 1 (.slice AB bd.length cB)
                    have p2 := Lw.blk_cell BX4 0
                    have f2 := Lw.blk_free BX4 0
                    simp at p2
                    have BX5 := Lw.blk_set_same BX4 0 (.int .i64 code)
                    have PS5 := (PS3.px (i := 1) (u := .slice AB bd.length cB) (by omega) BX3 hne10).px (i := 0) (u := .int .i64 code) (by omega) BX4 hne10
                    have hz3 := hb3.size
                    have ob3 := Lw.ownsBase ownB (show w.heap.size + 1 ≤ _ by have := PS2.1.size; have := Lw.blk_lt bX2; omega)
                    have ob4 := Lw.own_setk (i := 1) (u := .slice AB bd.length cB) ob3 (Lw.own_other ob3 BX3 (by decide))
                    have ob5 := Lw.own_setk (i := 0) (u := .int .i64 code) ob4 (Lw.own_other ob4 BX4 (by decide))
                    clear BX3 PS3
                    go_wp2
                    go_meet
                    exact ⟨AB, cB, code, bd, ⟨ks, th, ho + 1⟩, hst, rfl, rfl, PS5, by rw [World.size_setCell, World.size_setCell]; have := Lw.blk_lt bX2; omega, by simpa using BX5, ob5⟩


            · have hst : ∀ E, Lw.wrongE ks.length ⟨kd, kk, ll, hA, hn', hc', zs, lk, at', tn⟩ = E → Lw.rlStep P Q G ss ⟨ks, th, ho⟩ ⟨kd, kk, ll, hA, hn', hc', zs, lk, at', tn⟩ = ((E, []), ⟨ks, th, ho⟩) := by
                intro E hEE
                unfold Lw.rlStep
                rw [if_neg hk1]
                by_cases h2 : kd = 2
                · rw [if_pos h2, if_neg hE, hEE]
                · have h3 : kd = 3 := by omega
                  rw [if_neg h2, if_pos h3, if_neg hE, hEE]
              have z1 : (kd == 1) = false := by simpa using hk1
              rw [Lw.wrongE_def] at hE
              have hst := Lib.hid hst
              rcases (by omega : ks.length = 0 ∨ (¬ ks.length = 0 ∧ 14 < hn') ∨ (¬ ks.length = 0 ∧ ¬ 14 < hn')) with e1 | ⟨e1, e2⟩ | ⟨e1, e2⟩
              · have z4 : ((ks.length : Int) == 0) = true := by rw [e1]; rfl
                have hst := hst.out 7 (by rw [Lw.wrongE_def, if_pos e1])
                clear hE e1
                rcases (by omega : kd = 2 ∨ kd = 3) with rfl | rfl
                all_goals
                  as_aux_lemma =>
                    go_wp2
                    go_meet
                    exact ⟨none, 0, 7, [], ⟨ks, th, ho⟩, hst, rfl, rfl, PSA.out _, by simp; omega, Lw.blk_new' (by simp) _ _, World.ownsRow_nil _ _ _ _⟩

              all_goals
                have z4 : ((ks.length : Int) == 0) = false := by simpa using e1
              · have hst := hst.out 1 (by rw [Lw.wrongE_def, if_neg e1, if_pos e2])
                have z5 : (14 : Int) < (hn' : Int) := by omega
                clear hE e2
                rcases (by omega : kd = 2 ∨ kd = 3) with rfl | rfl
                all_goals
                  as_aux_lemma =>
                    go_wp2
                    go_meet
                    exact ⟨none, 0, 1, [], ⟨ks, th, ho⟩, hst, rfl, rfl, PSA.out _, by simp; omega, Lw.blk_new' (by simp) _ _, World.ownsRow_nil _ _ _ _⟩

              · have z5 : ¬ (14 : Int) < (hn' : Int) := by omega
                rw [if_neg e1, if_neg e2] at hE
                have h3 : ¬ tn = 0 ∧ (lk < 0 ∨ (ks.length : Int) ≤ lk ∨ at' < 0 ∨ 17 ≤ at') := by
                  by_cases h : ¬ tn = 0 ∧ (lk < 0 ∨ (ks.length : Int) ≤ lk ∨ at' < 0 ∨ 17 ≤ at')
                  · exact h
                  · rw [if_neg h] at hE; exact absurd rfl hE
                have hst := hst.out 3 (by rw [Lw.wrongE_def, if_neg e1, if_neg e2, if_pos h3])
                obtain ⟨ht, hx⟩ := h3
                have z6 : (tn != 0) = true := by simpa using ht
                clear hE e2 ht
                rcases (by omega : lk < 0 ∨ (¬ lk < 0 ∧ (ks.length : Int) ≤ lk) ∨ (¬ lk < 0 ∧ ¬ (ks.length : Int) ≤ lk ∧ at' < 0) ∨ (¬ lk < 0 ∧ ¬ (ks.length : Int) ≤ lk ∧ ¬ at' < 0 ∧ 17 ≤ at')) with y1 | ⟨y1, y2⟩ | ⟨y1, y2, y3⟩ | ⟨y1, y2, y3, y4⟩
                all_goals
                  clear hx
                  rcases (by omega : kd = 2 ∨ kd = 3) with rfl | rfl
                  all_goals
                    as_aux_lemma =>
                      go_wp2
                      go_meet
                      exact ⟨none, 0, 3, [], ⟨ks, th, ho⟩, hst, rfl, rfl, PSA.out _, by simp; omega, Lw.blk_new' (by simp) _ _, World.ownsRow_nil _ _ _ _⟩

      case rest =>
        obtain ⟨AB, cB, code, bd, s', hst, rfl, rfl, PS5, hs5, bX, hbody⟩ := hcut
        rw [hst] at REL
        simp only at REL
        have p4 := Lw.blk_cell bX 1
        have p5 := Lw.blk_cell bX 0
        simp at p4 p5
        obtain ⟨q1, q2, q4, T, t1, t2, t3⟩ := PS5
        have T3 := Lib.hid t3
        have Q1 := Lib.hid q1
        have OB5 := Lib.hid hbody
        clear t3 q1 hbody
        go_wp2_with (at_builtin; refine Lw.wpList_app elHpd rfl _ _ rfl rfl (World.ownsRow.alloc T3.out _) rfl (by exact Lw.Rd.lit (Lw.blk_new' (by simp) _ _) rfl rfl) (told_one code OB5.out) (by omega) (Lw.balloc Q1.out _) (by omega) (by simp; omega) ?_; intro v3 w5 own5 hb5 hg5 _)
        go_roundw
        case rel => exact REL.out _ _ _ (RfS.tell q2 q4 t1 t2 T3.out OB5.out hb5 hg5 own5)
        case measure => simp [intOf]; omega
    · -- END
      have hlt' : ¬ (k : Int) < (n : Int) := by omega
      have hk : L.take k = L := List.take_of_length_le (by rw [LL.out]; omega)
      rw [hk] at PS
      obtain ⟨b1, _, _, b5⟩ := PS
      have b6 := b5
      obtain ⟨T, _, _, t3⟩ := b6
      obtain ⟨A11, c11, rfl, _⟩ := Lw.ownsForm t3
      have B5 := Lib.hid b5
      clear b5 hk t3
      go_wp2
      go_ret
      exact ⟨A11, c11, rfl, told_base B5.out (by omega), b1⟩
end Go.Proofs.Ytkjcpjbdckbjcaa
