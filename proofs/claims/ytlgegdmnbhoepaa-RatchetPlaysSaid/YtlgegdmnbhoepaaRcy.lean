/- The reference's Ratchet: the walk. -/
import Derived.Test.YtlgegdmnbhoepaaRcx
namespace Lw
open Go Go.RowKit Go.Maps
theorem own_apart {w w' : World} {b e s n : Nat} {u : Value} {xs : List Value} {r : Option Nat} (h : w.ownsRow b e s u n xs) (hg : w.grownBy w' r) (hr : ∀ g, r = some g → u.ownBlock ≠ some g) : w'.ownsRow b e s u n xs := by
  obtain ⟨hl, h2⟩ := h
  refine ⟨hl, ?_⟩
  rcases h2 with ⟨h0, h1⟩ | ⟨g, cap, cur, hu, hbg, hh, rest⟩
  · exact .inl ⟨h0, h1⟩
  · refine .inr ⟨g, cap, cur, hu, hbg, ?_, rest⟩
    exact (hg.block g (Array.getElem?_eq_some_iff.1 hh).1 (fun e => hr g e.symm (by subst hu; rfl))).trans hh
/-- two rows lie apart -/
def Apart (u v : Value) : Prop := ∀ g, u.ownBlock = some g → v.ownBlock ≠ some g
theorem Apart.symm {u v : Value} (h : Apart u v) : Apart v u := fun g h1 h2 => h g h2 h1
theorem Apart.new {u v v' : Value} {w : World} {b e s n : Nat} {xs : List Value} (h : Apart u v) (own : w.ownsRow b e s u n xs) {W : World} (hW : w.heap.size ≤ W.heap.size) (hv : v'.ownBlock = v.ownBlock ∨ v'.ownBlock = some W.heap.size) : Apart u v' := fun g h1 h2 => by
  rcases hv with e | e
  · exact h g h1 (e ▸ h2)
  · rw [e] at h2
    injection h2 with h2
    have := (own.lt g h1).2
    omega
theorem own_apart2 {w w' : World} {b e s n : Nat} {u v : Value} {xs : List Value} (h : w.ownsRow b e s u n xs) (hg : w.grownBy w' v.ownBlock) (hr : Apart u v) : w'.ownsRow b e s u n xs := own_apart h hg fun g h1 h2 => hr g h2 h1
theorem apart_type {w : World} {b1 b2 e1 e2 s1 s2 n m : Nat} {u v : Value} {xs ys : List Value} (h : w.ownsRow b1 e1 s1 u n xs) (hv : w.ownsRow b2 e2 s2 v m ys) (he : e1 ≠ e2) : Apart u v := fun g h1 h2 => by
  rcases h.2 with ⟨h0, _⟩ | ⟨g1, _, cur1, hu, _, hh1, _⟩
  · subst h0; cases h1
  · rcases hv.2 with ⟨h0, _⟩ | ⟨g2, _, cur2, hv2, _, hh2, _⟩
    · subst h0; cases h2
    · subst hu hv2
      have e1' : g1 = g := by injection h1
      have e2' : g2 = g := by injection h2
      subst e1' e2'
      rw [hh1] at hh2; injection hh2 with hh2; injection hh2 with _ h3; exact he h3
theorem apart_nil (u : Value) : Apart u (.slice none 0 0) := fun g _ h => by cases h
def kI (ks : List Nat) : List Int := ks.map fun k : Nat => (k : Int)
theorem kI_app (a b : List Nat) : kI (a ++ b) = kI a ++ kI b := by simp [kI]
end Lw
set_option linter.unusedVariables false
set_option linter.unusedSimpArgs false
namespace Go.Proofs.Ytlgegdmnbhoepaa
open Go.RowKit
open Go.Maps
/-- where the reference stands -/
def RfS (w : World) (s : Lw.RSt) (out : List (Int × Int)) (v7 v8 v10 : Value) (wr : World) : Prop :=
  Below w.heap.size w wr ∧ wr.ownsRow w.heap.size 3 1 v7 s.nums.length (Lw.intsV .i64 s.nums) ∧ wr.ownsRow w.heap.size 3 1 v8 s.ks.length (Lw.intsV .i64 (Lw.kI s.ks)) ∧
  wr.ownsRow w.heap.size 113 2 v10 out.length (Lw.pairsV .i64 .i64 out) ∧ Lw.Apart v7 v8
theorem RfS.below {w : World} {s : Lw.RSt} {out : List (Int × Int)} {v7 v8 v10 : Value} {wr W : World} (h : RfS w s out v7 v8 v10 wr) (hb : Below wr.heap.size wr W) : RfS w s out v7 v8 v10 W :=
  ⟨Lw.bt h.1 hb, Lw.ownsBelow h.2.1 (Nat.le_refl _) hb, Lw.ownsBelow h.2.2.1 (Nat.le_refl _) hb, Lw.ownsBelow h.2.2.2.1 (Nat.le_refl _) hb, h.2.2.2.2⟩
theorem RfS.px {w : World} {s : Lw.RSt} {out : List (Int × Int)} {v7 v8 v10 : Value} {W : World} {k i : Nat} {u : Value} (h : RfS w s out v7 v8 v10 W) (hk : w.heap.size ≤ k) (h7 : v7.ownBlock ≠ some k) (h8 : v8.ownBlock ≠ some k) (h10 : v10.ownBlock ≠ some k) : RfS w s out v7 v8 v10 (W.setCell ⟨k, i, none⟩ u) :=
  ⟨h.1.setCell (p := ⟨k, i, none⟩) hk _, Lw.own_setk h.2.1 h7, Lw.own_setk h.2.2.1 h8, Lw.own_setk h.2.2.2.1 h10, h.2.2.2.2⟩
theorem RfS.tell {w : World} {s : Lw.RSt} {out out' : List (Int × Int)} {v7 v8 v10 v' : Value} {wr W : World} {o : Obj} (h : RfS w s out v7 v8 v10 wr) (hg : (wr.alloc o).grownBy W v10.ownBlock) (hB : Below w.heap.size w W)
    (own : W.ownsRow w.heap.size 113 2 v' out'.length (Lw.pairsV .i64 .i64 out')) : RfS w s out' v7 v8 v' W :=
  ⟨hB, Lw.own_apart2 (h.2.1.alloc o) hg (Lw.apart_type h.2.1 h.2.2.2.1 (by decide)), Lw.own_apart2 (h.2.2.1.alloc o) hg (Lw.apart_type h.2.2.1 h.2.2.2.1 (by decide)), own, h.2.2.2.2⟩
theorem RfS.num {w : World} {s : Lw.RSt} {z : Int} {out : List (Int × Int)} {v7 v8 v10 v' : Value} {wr W : World} {o : Obj} (h : RfS w s out v7 v8 v10 wr) (hg : (wr.alloc o).grownBy W v7.ownBlock) (hB : Below w.heap.size w W)
    (own : W.ownsRow w.heap.size 3 1 v' (s.nums ++ [z]).length (Lw.intsV .i64 (s.nums ++ [z]))) (hn : v'.ownBlock = v7.ownBlock ∨ v'.ownBlock = some (wr.alloc o).heap.size) : RfS w { s with nums := s.nums ++ [z] } out v' v8 v10 W :=
  ⟨hB, own, Lw.own_apart2 (h.2.2.1.alloc o) hg h.2.2.2.2.symm, Lw.own_apart2 (h.2.2.2.1.alloc o) hg (Lw.apart_type h.2.2.2.1 h.2.1 (by decide)), (h.2.2.2.2.symm.new h.2.2.1 (by simp) hn).symm⟩
theorem RfS.keep {w : World} {s : Lw.RSt} {ks' : List Nat} {c' : Nat} {out : List (Int × Int)} {v7 v8 v10 v' : Value} {wr W : World} {o : Obj} (h : RfS w s out v7 v8 v10 wr) (hg : (wr.alloc o).grownBy W v8.ownBlock) (hB : Below w.heap.size w W)
    (own : W.ownsRow w.heap.size 3 1 v' ks'.length (Lw.intsV .i64 (Lw.kI ks'))) (hn : v'.ownBlock = v8.ownBlock ∨ v'.ownBlock = some (wr.alloc o).heap.size) : RfS w ⟨s.nums, ks', c'⟩ out v7 v' v10 W :=
  ⟨hB, Lw.own_apart2 (h.2.1.alloc o) hg h.2.2.2.2, own, Lw.own_apart2 (h.2.2.2.1.alloc o) hg (Lw.apart_type h.2.2.2.1 h.2.2.1 (by decide)), h.2.2.2.2.new h.2.1 (by simp) hn⟩
theorem RfS.left {w : World} {s : Lw.RSt} {out : List (Int × Int)} {v7 v8 v10 v14 : Value} {wr W : World} {o : Obj} {m : Nat} {xs : List Value} (h : RfS w s out v7 v8 v10 wr) (hg : (wr.alloc o).grownBy W v14.ownBlock) (hB : Below w.heap.size w W)
    (h7 : Lw.Apart v7 v14) (h8 : Lw.Apart v8 v14) (hv : wr.ownsRow w.heap.size 3 1 v14 m xs) : RfS w s out v7 v8 v10 W :=
  ⟨hB, Lw.own_apart2 (h.2.1.alloc o) hg h7, Lw.own_apart2 (h.2.2.1.alloc o) hg h8, Lw.own_apart2 (h.2.2.2.1.alloc o) hg (Lw.apart_type h.2.2.2.1 hv (by decide)), h.2.2.2.2⟩
set_option maxRecDepth 100000 in
set_option maxHeartbeats 8000000 in
theorem ref_Ratchet (key most : Int) (A : Option Addr) (n c : Nat) (L : List (Int × Int × Int)) (w : World) (R : Lw.Rd w 3 A n (Lw.tripsV L)) (k1 : 0 ≤ key) (k2 : key < 65536) (m1 : 0 ≤ most) (m2 : most ≤ 100) (hn : n ≤ 100) :
    Calls Try.prog 33 #[.int .i64 key, .int .i64 most, .slice A n c] w (Lw.OwnRes 113 2 (Lw.pairsV .i64 .i64 (Lw.rRun key most L).1) (Lw.rRun key most L).1.length w) := by
  have LL := Lib.hid (show L.length = n by have := R.1; rw [Lw.tripsV_length] at this; omega)
  have R := Lib.hid R
  have K1 := Lib.hid (And.intro k1 k2)
  go_enter Try.func33, Try.ntmps33
  go_wp2
  go_loopw [7, 8, 9, 10, 20] (fun v7 v8 cv v10 i wr => ∃ k : Nat, i = .int .i64 (k : Int) ∧ k ≤ n ∧ cv = .int .i64 ((Lw.rRun key most (L.take k)).2.come : Int) ∧ RfS w (Lw.rRun key most (L.take k)).2 (Lw.rRun key most (L.take k)).1 v7 v8 v10 wr) (fun _ _ _ _ i _ => n - (intOf i).toNat)
  case atStart => exact ⟨0, rfl, by omega, rfl, Below.refl _ _, World.ownsRow_nil _ _ _ _, World.ownsRow_nil _ _ _ _, World.ownsRow_nil _ _ _ _, Lw.apart_nil _⟩
  case round =>
    obtain ⟨k, rfl, k1, rfl, PS⟩ := hrel
    by_cases hlt : k < n
    · have hlt' : (k : Int) < (n : Int) := by omega
      have hl : k < L.length := by rw [LL.out]; exact hlt
      have RT := Lib.hid (Lw.rrun_take (key := key) (most := most) hl)
      have RO := Lib.hid (Lw.rrun_ok key most L k (by omega))
      have RL := Lib.hid (Lw.rrun_len key most L k (by omega))
      have RN := Lib.hid (Lw.rrun_nums key most L k (by omega))
      obtain ⟨ad, rfl, had, h0, h1, h2⟩ := R.out.at3 hlt (Lw.tripsV_get hl).1 (Lw.tripsV_get hl).2.1 (Lw.tripsV_get hl).2.2
      have hB := PS.1
      have r0 := (hB.cell (p := ad.add (k * 3)) (by rw [Lw.add_block]; exact had)).trans h0
      have r1 := (hB.cell (p := ⟨(ad.add (k * 3)).block, (ad.add (k * 3)).off + 1, none⟩) (by rw [Lw.add_block]; exact had)).trans h1
      have r2 := (hB.cell (p := ⟨(ad.add (k * 3)).block, (ad.add (k * 3)).off + 2, none⟩) (by rw [Lw.add_block]; exact had)).trans h2
      have REL : Hid (∀ (v7 v8 v10 : Value) (cv : Int) (wr' : World), cv = ((Lw.rRun key most (L.take (k + 1))).2.come : Int) → RfS w (Lw.rRun key most (L.take (k + 1))).2 (Lw.rRun key most (L.take (k + 1))).1 v7 v8 v10 wr' → ∃ k_1 : Nat, Value.int .i64 ((k : Int) + 1) = .int .i64 (k_1 : Int) ∧ k_1 ≤ n ∧ Value.int .i64 cv = .int .i64 ((Lw.rRun key most (L.take k_1)).2.come : Int) ∧ RfS w (Lw.rRun key most (L.take k_1)).2 (Lw.rRun key most (L.take k_1)).1 v7 v8 v10 wr') :=
        fun _ _ _ _ _ e h => ⟨k + 1, by go_num, by omega, by rw [e], h⟩
      rw [RT.out] at REL
      obtain ⟨⟨kd, ms, nn⟩, hx⟩ : ∃ x, L[k] = x := ⟨_, rfl⟩
      rw [hx] at REL r0 r1 r2
      obtain ⟨⟨out, st⟩, hrr⟩ : ∃ x, Lw.rRun key most (L.take k) = x := ⟨_, rfl⟩
      rw [hrr] at REL RO RL RN PS
      simp only [hrr]
      simp only at REL RO RL RN PS r0 r1 r2
      obtain ⟨⟨p1, s2⟩, hstp⟩ : ∃ x, Lw.rStep key most st kd ms nn = x := ⟨_, rfl⟩
      rw [hstp] at REL
      simp only at REL
      have PSH := Lib.hid PS
      have HST := Lib.hid hstp
      have PS1 := Lib.hid (fun o => PS.below (Lw.balloc (Lw.balloc (Below.refl _ wr) (.cells #[.int .i64 kd, .int .i64 ms, .int .i64 nn] 111)) o))
      have rl : out.length ≤ 100 := by have := RL.out; omega
      have hs3 := hB.size
      obtain ⟨st1, st2, st3⟩ := st
      replace RN : Hid (st1.length ≤ k) := RN
      clear RT hx hrr hstp PS h0 h1 h2
      rcases (by omega : (kd = 1 ∧ (nn < 0 ∨ 65535 < nn)) ∨ (kd = 1 ∧ 0 ≤ nn ∧ nn < 65536) ∨ (¬ kd = 1 ∧ ¬ kd = 2) ∨ (kd = 2 ∧ (ms < 0 ∨ (st1.length : Int) ≤ ms)) ∨ (kd = 2 ∧ 0 ≤ ms ∧ ms < (st1.length : Int))) with ⟨rfl, hc⟩ | ⟨rfl, hc⟩ | ⟨hc1, hc2⟩ | ⟨rfl, hc⟩ | ⟨rfl, hc1, hc2⟩
      -- CASES
      · have HSA := Lib.hid (Lw.rstep_range (key := key) (most := most) (s := ⟨st1, st2, st3⟩) (msg := ms) rfl hc)
        rcases (by omega : nn < 0 ∨ (¬ nn < 0 ∧ 65535 < nn)) with h1 | ⟨h1, h2⟩
        all_goals
          clear hc
          obtain ⟨rfl, rfl⟩ := Prod.mk.inj (HST.out.symm.trans HSA.out)
          go_wp2_with (first | (at_builtin; refine Lw.wpList_app elPsd rfl _ _ rfl rfl (World.ownsRow.alloc (PS1.out _).2.2.2.1 _) rfl (by exact Lw.Rd.lit (Lw.blk_new' (by simp) _ _) rfl rfl) (psd_one 2 0) (by omega) (Lw.balloc (PS1.out _).1 _) (by omega) (by first | (simp; omega) | (have := (PS1.out _).1.size; simp; omega)) ?_; intro v3 w3 own3 hb3 hg3 _))
          go_roundw
          case rel => exact REL.out _ _ _ _ _ rfl (RfS.tell (PS1.out _) hg3 hb3 (by rw [List.length_append, Lw.pairsV_append]; exact own3))
          case measure => simp [intOf]; omega
      · obtain ⟨rfl, rfl⟩ := Prod.mk.inj (HST.out.symm.trans (Lw.rstep_send rfl (by omega)))
        have n1 : ¬ nn < 0 := by omega
        have n2 : ¬ 65535 < nn := by omega
        have hN : st1.length ≤ 100 := by have := RN.out; omega
        obtain ⟨z0, z1⟩ := Lw.msgKey_bd key st1.length
        have MKY := Lib.hid (fun w => ref_messageKey key st1.length w K1.out.1 K1.out.2 (by omega))
        have MIX := Lib.hid (fun w => ref_mixed nn (Lw.msgKey key st1.length) w (by omega) (by omega) z0 (by omega))
        simp only at REL
        generalize Lw.msgKey key st1.length = mk at *
        obtain ⟨X, hXX⟩ : ∃ X, Lw.xorI nn mk = X := ⟨_, rfl⟩
        rw [hXX] at MIX REL
        obtain ⟨W1, hW1⟩ : ∃ W1, (wr.alloc (.cells #[.int .i64 1, .int .i64 ms, .int .i64 nn] 111)).alloc (.cells #[.int .i64 0, .int .i64 0] 113) = W1 := ⟨_, rfl⟩
        have bS : W1.heap[wr.heap.size]? = some (.cells #[.int .i64 1, .int .i64 ms, .int .i64 nn] 111 (0, 0)) := by rw [← hW1]; exact Lw.blk_alloc (Lw.blk_new _ _ _) _
        have bP : W1.heap[wr.heap.size + 1]? = some (.cells #[.int .i64 0, .int .i64 0] 113 (0, 0)) := by rw [← hW1]; exact Lw.blk_new' (by simp) _ _
        have hz1 : W1.heap.size = wr.heap.size + 2 := by rw [← hW1]; simp
        have hbW : Below wr.heap.size wr W1 := by rw [← hW1]; exact Lw.balloc (Lw.balloc (Below.refl _ wr) _) _
        have sN := Lw.blk_cell bS 2
        simp at sN
        have hne7 : u7.ownBlock ≠ some (wr.heap.size + 1) := fun e => by have := (PSH.out.2.1.lt _ e).2; omega
        have hne8 : u8.ownBlock ≠ some (wr.heap.size + 1) := fun e => by have := (PSH.out.2.2.1.lt _ e).2; omega
        have hne10 : u10.ownBlock ≠ some (wr.heap.size + 1) := fun e => by have := (PSH.out.2.2.2.1.lt _ e).2; omega
        obtain ⟨A7, c7, rfl, _⟩ := Lw.ownsForm PSH.out.2.1
        have HW1 := Lib.hid hW1
        clear hc hXX hW1
        go_wp2_with fail
        rw [HW1.out]
        refine wp_region_held_drew (S := fun w' => w'.cell? ⟨wr.heap.size, 2, none⟩ = some (.int .i64 nn) ∧ True ∧ True ∧ True) (by kernel_rfl) (by exact ⟨sN, trivial, trivial, trivial⟩) (fun hHeld => ?_)
        (refine Lw.take1 (i := 0) (v := ?_) rfl (by kernel_rfl) (by kernel_rfl) (by kernel_rfl) (fun _ _ _ h => h) (Or.inl ⟨by rfl, ?_⟩) (by assumption) ?_; rotate_left 1; (focus (intro wS hSw; obtain ⟨hS1, hS2, hS3, hS4⟩ := hSw; go_simp <;> with_reducible rfl)); (try simp only [Act.put, List.setIfInBounds_toArray, List.set_cons_zero, List.set_cons_succ]))
        (refine Lw.take1 (i := 1) (v := ?_) rfl (by kernel_rfl) (by kernel_rfl) (by kernel_rfl) (fun _ _ _ h => h) (Or.inl ⟨by rfl, ?_⟩) (by assumption) ?_; rotate_left 1; (focus (intro wS hSw; obtain ⟨hS1, hS2, hS3, hS4⟩ := hSw; go_simp <;> with_reducible rfl)); (try simp only [Act.put, List.setIfInBounds_toArray, List.set_cons_zero, List.set_cons_succ]))
        (refine Lw.take1 (i := 2) (v := ?_) rfl (by kernel_rfl) (by kernel_rfl) (by kernel_rfl) (fun _ _ _ h => h) (Or.inl ⟨by rfl, ?_⟩) (by assumption) ?_; rotate_left 1; (focus (intro wS hSw; obtain ⟨hS1, hS2, hS3, hS4⟩ := hSw; go_simp <;> with_reducible rfl)); (try simp only [Act.put, List.setIfInBounds_toArray, List.set_cons_zero, List.set_cons_succ]))
        (refine Lw.take1 (i := 3) (v := ?_) rfl (by kernel_rfl) (by kernel_rfl) (by kernel_rfl) (fun _ _ _ h => h) (Or.inl ⟨by rfl, ?_⟩) (by assumption) ?_; rotate_left 1; (focus (intro wS hSw; obtain ⟨hS1, hS2, hS3, hS4⟩ := hSw; go_simp <;> with_reducible rfl)); (try simp only [Act.put, List.setIfInBounds_toArray, List.set_cons_zero, List.set_cons_succ]))
        (refine Lw.take1 (i := 4) (v := ?_) rfl (by kernel_rfl) (by kernel_rfl) (by kernel_rfl) (fun _ _ _ h => h) (Or.inl ⟨by rfl, ?_⟩) (by assumption) ?_; rotate_left 1; (focus (intro wS hSw; obtain ⟨hS1, hS2, hS3, hS4⟩ := hSw; go_simp <;> with_reducible rfl)); (try simp only [Act.put, List.setIfInBounds_toArray, List.set_cons_zero, List.set_cons_succ]))
        have SS : ∀ W' : World, W'.heap[wr.heap.size]? = W1.heap[wr.heap.size]? → W'.cell? ⟨wr.heap.size, 2, none⟩ = some (.int .i64 nn) ∧ True ∧ True ∧ True := fun W' h => by
          have d := Lw.blk_cell (h.trans bS) 2
          simp at d
          exact ⟨d, trivial, trivial, trivial⟩
        (refine wpAnyH_ready (rs := [5]) (by kernel_rfl) (by simp) ?_; refine Lw.cons1 (i := 5) rfl (fun K hK => ?_) AllReadyH.nil; go_simp; go_at_call 77; (with_reducible refine (MKY.out _).mono ?_); rintro e w1 ⟨rfl, hb1⟩; refine hK.out _ _ ?_ (fun hHeld => ?_); (focus exact SS _ (hb1.block _ (by show wr.heap.size < W1.heap.size; omega))); clear hK K; (try simp only [Act.put, List.setIfInBounds_toArray, List.set_cons_zero, List.set_cons_succ]))
        have bS1 : w1.heap[wr.heap.size]? = W1.heap[wr.heap.size]? := hb1.block _ (by show wr.heap.size < W1.heap.size; omega)
        have bP1 : w1.heap[wr.heap.size + 1]? = some (.cells #[.int .i64 0, .int .i64 0] 113 (0, 0)) := (hb1.block _ (by show wr.heap.size + 1 < W1.heap.size; omega)).trans bP
        (refine wpAnyH_ready (rs := [6]) (by kernel_rfl) (by simp) ?_; refine Lw.cons1 (i := 6) rfl (fun K hK => ?_) AllReadyH.nil; go_simp; go_at_call 76; (with_reducible refine (MIX.out _).mono ?_); rintro e wx ⟨rfl, rfl⟩; refine hK.out _ _ ?_ (fun hHeld => ?_); (focus exact SS _ bS1); clear hK K; (try simp only [Act.put, List.setIfInBounds_toArray, List.set_cons_zero, List.set_cons_succ]))
        (refine Lw.take1 (i := 7) (v := ?_) rfl (by kernel_rfl) (by kernel_rfl) (by kernel_rfl) (fun _ _ _ h => h) (Or.inl ⟨by rfl, ?_⟩) (by assumption) ?_; rotate_left 1; (focus (intro wS hSw; obtain ⟨hS1, hS2, hS3, hS4⟩ := hSw; go_simp <;> with_reducible rfl)); (try simp only [Act.put, List.setIfInBounds_toArray, List.set_cons_zero, List.set_cons_succ]))
        have p1 := Lw.blk_cell bP1 1
        have f1 := Lw.blk_free bP1 1
        simp at p1
        have bS2 := (Below.heap_setCell w1 ⟨wr.heap.size + 1, 1, none⟩ (.int .i64 X) wr.heap.size (by show wr.heap.size ≠ wr.heap.size + 1; omega)).trans bS1
        (refine wpAnyH_ready (rs := [8]) (by kernel_rfl) (by simp) ?_; refine Lw.cons1 (i := 8) rfl (fun K hK => ?_) AllReadyH.nil; go_simp; refine hK.out _ _ ?_ (fun hHeld => ?_); (focus exact SS _ bS2); clear hK K; (try simp only [Act.put, List.setIfInBounds_toArray, List.set_cons_zero, List.set_cons_succ]))
        refine wpAnyH_done (by kernel_rfl) ?_ _
        have bP2 := Lw.blk_set_same bP1 1 (.int .i64 X)
        have sz1 := hb1.size
        have sz1 : W1.heap.size ≤ w1.heap.size := sz1
        have PSa := PSH.out.below (Lw.bt (Below.drew hbW) hb1)
        have PS2 := Lib.hid (PSa.px (i := 1) (u := .int .i64 X) (by omega) hne7 hne8 hne10)
        have s2 := Lw.blk_cell (bS2.trans bS) 2
        have q0 := Lw.blk_cell bP2 0
        have q1 := Lw.blk_cell bP2 1
        simp at q0 q1 s2
        clear hHeld bS1 PSa
        go_wp2_with (first | ((at_builtin; refine Lw.wpList_app elInt rfl _ _ rfl rfl (World.ownsRow.alloc (PS2.out).2.1 _) rfl (by exact Lw.Rd.lit (Lw.blk_new' (by simp) _ _) rfl rfl) (Lw.intsV_one _ [nn]) (by first | omega | (simp only; omega)) (Lw.balloc (PS2.out).1 _) (by omega) (by first | (simp; omega) | (have := (PS2.out).1.size; simp; omega)) ?_; intro v2 w5 own5 hb5 hg5 ho5); have bP5 := (hg5.block _ (by simp; omega) (fun e => Lw.own_other PS2.out.2.1 bP2 (by decide) e.symm)).trans (Lw.blk_alloc bP2 _); have PS5 := Lib.hid (RfS.num PS2.out hg5 hb5 (by rw [List.length_append, Lw.intsV_app]; exact own5) ho5); have u0 := Lw.blk_cell bP5 0; have u1 := Lw.blk_cell bP5 1; simp at u0 u1; have sz5 := PS5.out.1.size) | (at_builtin; refine Lw.wpList_app elPsd rfl _ _ rfl rfl (World.ownsRow.alloc (PS5.out).2.2.2.1 _) rfl (by exact Lw.Rd.lit (Lw.blk_new' (by simp) _ _) rfl rfl) (psd_one 0 X) (by omega) (Lw.balloc (PS5.out).1 _) (by omega) (by first | (simp; omega) | (have := (PS5.out).1.size; simp; omega)) ?_; intro v3 w3 own3 hb3 hg3 _))
        have PS5 := RfS.num PS2.out hg5 hb5 (by rw [List.length_append, Lw.intsV_app]; exact own5) ho5
        go_roundw
        case rel => exact REL.out _ _ _ _ _ rfl (RfS.tell PS5 hg3 hb3 (by rw [List.length_append, Lw.pairsV_append]; exact own3))
        case measure => simp [intOf]; omega
      · obtain ⟨rfl, rfl⟩ := Prod.mk.inj (HST.out.symm.trans (Lw.rstep_kind hc1 hc2))
        have z1 : (kd == 1) = false := by simpa using hc1
        have z2 : (kd == 2) = false := by simpa using hc2
        go_wp2_with (first | (at_builtin; refine Lw.wpList_app elPsd rfl _ _ rfl rfl (World.ownsRow.alloc (PS1.out _).2.2.2.1 _) rfl (by exact Lw.Rd.lit (Lw.blk_new' (by simp) _ _) rfl rfl) (psd_one 6 0) (by omega) (Lw.balloc (PS1.out _).1 _) (by omega) (by first | (simp; omega) | (have := (PS1.out _).1.size; simp; omega)) ?_; intro v3 w3 own3 hb3 hg3 _))
        go_roundw
        case rel => exact REL.out _ _ _ _ _ rfl (RfS.tell (PS1.out _) hg3 hb3 (by rw [List.length_append, Lw.pairsV_append]; exact own3))
        case measure => simp [intOf]; omega
      · have HSA := Lib.hid (Lw.rstep_arg (key := key) (most := most) (s := ⟨st1, st2, st3⟩) (n := nn) rfl hc)
        rcases (by omega : ms < 0 ∨ (¬ ms < 0 ∧ (st1.length : Int) ≤ ms)) with h1 | ⟨h1, h2⟩
        all_goals
          clear hc
          obtain ⟨rfl, rfl⟩ := Prod.mk.inj (HST.out.symm.trans HSA.out)
          obtain ⟨A10, c10, rfl, _⟩ := Lw.ownsForm PSH.out.2.1
          go_wp2_with (first | (at_builtin; refine Lw.wpList_app elPsd rfl _ _ rfl rfl (World.ownsRow.alloc (PS1.out _).2.2.2.1 _) rfl (by exact Lw.Rd.lit (Lw.blk_new' (by simp) _ _) rfl rfl) (psd_one 3 0) (by omega) (Lw.balloc (PS1.out _).1 _) (by omega) (by first | (simp; omega) | (have := (PS1.out _).1.size; simp; omega)) ?_; intro v3 w3 own3 hb3 hg3 _))
          go_roundw
          case rel => exact REL.out _ _ _ _ _ rfl (RfS.tell (PS1.out _) hg3 hb3 (by rw [List.length_append, Lw.pairsV_append]; exact own3))
          case measure => simp [intOf]; omega
      · obtain ⟨m, rfl⟩ := Int.eq_ofNat_of_zero_le hc1
        have hm : m < st1.length := by omega
        have hN : st1.length ≤ 100 := by have := RN.out; omega
        have RO2 : st3 ≤ st1.length ∧ (∀ k ∈ st2, k < st3) ∧ st2.length ≤ st3 ∧ ∀ z ∈ st1, 0 ≤ z ∧ z < 65536 := RO.out
        have hks : st2.length ≤ 100 := by have := RO2.1; have := RO2.2.2.1; omega
        have h1' : ¬ (m : Int) < 0 := by omega
        have h2' : ¬ (st1.length : Int) ≤ (m : Int) := by omega
        have h3' : (m : Int) < (st1.length : Int) := by omega
        have hne7 : u7.ownBlock ≠ some (wr.heap.size + 1) := fun e => by have := (PSH.out.2.1.lt _ e).2; omega
        have hne8 : u8.ownBlock ≠ some (wr.heap.size + 1) := fun e => by have := (PSH.out.2.2.1.lt _ e).2; omega
        have hne10 : u10.ownBlock ≠ some (wr.heap.size + 1) := fun e => by have := (PSH.out.2.2.2.1.lt _ e).2; omega
        obtain ⟨A7, c7, rfl, _⟩ := Lw.ownsForm PSH.out.2.1
        have SG := Lib.hid (show (Lw.intsV .i64 st1)[m]? = some (.int .i64 (st1.getD m 0)) by unfold Lw.intsV; rw [List.getElem?_map, List.getD_eq_getElem?_getD, List.getElem?_eq_getElem hm]; rfl)
        have SK := Lib.hid (fun (h1 : m < st3) (h2 : m ∈ st2) => HST.out.symm.trans (Lw.rstep_kept (s := ⟨st1, st2, st3⟩) (key := key) (most := most) (n := nn) rfl hm h1 h2))
        have SO := Lib.hid (fun (h1 : m < st3) (h2 : m ∉ st2) => HST.out.symm.trans (Lw.rstep_none (s := ⟨st1, st2, st3⟩) (key := key) (most := most) (n := nn) rfl hm h1 h2))
        have SL := Lib.hid (fun (h1 : st3 ≤ m) h2 => HST.out.symm.trans (Lw.rstep_large (s := ⟨st1, st2, st3⟩) (key := key) (most := most) (n := nn) rfl hm h1 h2))
        have STK := Lib.hid (fun (h1 : st3 ≤ m) h2 => HST.out.symm.trans (Lw.rstep_take (s := ⟨st1, st2, st3⟩) (key := key) (most := most) (n := nn) rfl hm h1 h2))
        simp only at SK SO SL STK
        obtain ⟨num, hnum⟩ : ∃ x, st1.getD m 0 = x := ⟨_, rfl⟩
        rw [hnum] at SG SK STK
        obtain ⟨A8, c8, rfl, _⟩ := Lw.ownsForm PSH.out.2.2.1
        have HSM := Lib.hid hm
        clear hm hnum
        by_cases hcm : m < st3
        · have hcm' : (m : Int) < (st3 : Int) := by omega
          obtain ⟨wo, hwo⟩ : ∃ wo, wo = wr := ⟨_, rfl⟩
          subst hwo
          go_wp2_with fail
          go_loopw [14, 16, 72] (fun v14 _ iv wi => ∃ j : Nat, iv = .int .i64 (j : Int) ∧ j ≤ st2.length ∧ RfS w ⟨st1, st2, st3⟩ out (.slice A7 st1.length c7) (.slice A8 st2.length c8) u10 wi ∧ wi.ownsRow w.heap.size 3 1 v14 ((st2.take j).filter (fun x => x != m)).length (Lw.intsV .i64 (Lw.kI ((st2.take j).filter (fun x => x != m)))) ∧ Hid (Lw.Apart (.slice A7 st1.length c7) v14 ∧ Lw.Apart (.slice A8 st2.length c8) v14) ∧ Hid (wi.heap[wo.heap.size]? = some (.cells #[.int .i64 2, .int .i64 (m : Int), .int .i64 nn] 111 (0, 0))) ∧ Hid (∃ b0 b1, wi.heap[wo.heap.size + 1]? = some (.cells #[.int .i64 b0, .int .i64 b1] 113 (0, 0)) ∧ ((m ∈ st2.take j ∧ b0 = 0 ∧ b1 = num) ∨ (m ∉ st2.take j ∧ b0 = 5 ∧ b1 = 0)))) (fun _ _ iv _ => st2.length - (intOf iv).toNat)
          case atStart => exact ⟨0, rfl, by omega, PS1.out _, World.ownsRow_nil _ _ _ _, ⟨Lw.apart_nil _, Lw.apart_nil _⟩, Lw.blk_alloc (Lw.blk_new _ _ _) _, 5, 0, Lw.blk_new' (by simp) _ _, .inr ⟨by simp, rfl, rfl⟩⟩
          case round =>
            obtain ⟨j, rfl, j1, RF, own14, AP, bS, b0, b1, bP, hbb⟩ := hrel
            have bSc := Lw.blk_cell bS.out 1
            have bSd := Lw.blk_cell bS.out 0
            have q0 := Lw.blk_cell bP 0
            have q1 := Lw.blk_cell bP 1
            have f0 := Lw.blk_free bP 0
            have f1 := Lw.blk_free bP 1
            simp at bSc bSd q0 q1
            have BP := Lib.hid bP
            have HBB := Lib.hid hbb
            have RFH := Lib.hid RF
            have OWN14 := Lib.hid own14
            have hBi := RF.1.size
            have hPl := Lw.blk_lt bP
            clear RF own14 bP hbb
            by_cases hlj : j < st2.length
            · have hlj' : (j : Int) < (st2.length : Int) := by omega
              have hkl : j < (Lw.kI st2).length := by simp [Lw.kI]; exact hlj
              obtain ⟨ad8, rfl, had8, hc8⟩ := (Lw.Rd.of_own RFH.out.2.2.1).at1 hlj (Lw.intsV_get hkl)
              have hke : (Lw.kI st2)[j] = (st2[j] : Int) := by simp [Lw.kI]
              rw [hke] at hc8
              have TKE := Lib.hid (List.take_succ_eq_append_getElem hlj)
              have LNF := List.length_filter_le (fun x => x != m) (st2.take j)
              have LNT : (st2.take j).length ≤ 100 := by rw [List.length_take]; omega
              obtain ⟨e, he⟩ : ∃ e, st2[j] = e := ⟨_, rfl⟩
              rw [he] at hc8 TKE
              clear he hke hkl
              by_cases hem : e = m
              · subst hem
                have z1 : ((e : Int) == (e : Int)) = true := by simp
                obtain ⟨ad7, e7, had7, hc7⟩ := (Lw.Rd.of_own RFH.out.2.1).at1 HSM.out SG.out
                subst e7
                go_wp2
                refine ⟨⟨j + 1, by go_num, by omega, (RFH.out.px (i := 0) (by omega) hne7 hne8 hne10).px (i := 1) (by omega) hne7 hne8 hne10, ?_, AP, ?_, 0, num, ?_, ?_⟩, ?_⟩
                · have ho : u14.ownBlock ≠ some (wo.heap.size + 1) := Lw.own_other OWN14.out BP.out (by decide)
                  rw [TKE.out, List.filter_append]
                  simp
                  exact Lw.own_setk (Lw.own_setk OWN14.out ho) ho
                · exact (Below.heap_setCell _ _ _ _ (by show wo.heap.size ≠ wo.heap.size + 1; omega)).trans ((Below.heap_setCell _ _ _ _ (by show wo.heap.size ≠ wo.heap.size + 1; omega)).trans bS.out)
                · have := Lw.blk_set_same (Lw.blk_set_same BP.out 0 (.int .i64 0)) 1 (.int .i64 num)
                  simpa using this
                · rw [TKE.out]; exact .inl ⟨by simp, rfl, rfl⟩
                · simp [intOf]; omega
              · have z1 : ((e : Int) == (m : Int)) = false := by simp; omega
                have FE : Hid ((st2.take (j + 1)).filter (fun x => x != m) = (st2.take j).filter (fun x => x != m) ++ [e]) := by
                  rw [TKE.out, List.filter_append]; simp [Hid, hem]
                go_wp2_with (first | (at_builtin; refine Lw.wpList_app elInt rfl _ _ rfl rfl (World.ownsRow.alloc OWN14.out _) rfl (by exact Lw.Rd.lit (Lw.blk_new' (by simp) _ _) rfl rfl) (Lw.intsV_one _ [(e : Int)]) (by omega) (Lw.balloc RFH.out.1 _) (by omega) (by simp; omega) ?_; intro v2 w5 own5 hb5 hg5 ho5))
                have hm2 : m ∈ st2.take (j + 1) ↔ m ∈ st2.take j := by rw [TKE.out]; simp; intro h; exact absurd h.symm hem
                go_roundw
                case rel =>
                  refine ⟨j + 1, by go_num, by omega, RFH.out.left hg5 hb5 AP.out.1 AP.out.2 OWN14.out, ?_, ⟨AP.out.1.new RFH.out.2.1 (by simp) ho5, AP.out.2.new RFH.out.2.2.1 (by simp) ho5⟩, ?_, b0, b1, ?_, by rw [hm2]; exact HBB.out⟩
                  · rw [FE.out, Lw.kI_app, Lw.intsV_app, List.length_append]; exact own5
                  · exact (hg5.block _ (by simp; omega) (fun e => Lw.own_other OWN14.out bS.out (by decide) e.symm)).trans (Lw.blk_alloc bS.out _)
                  · exact (hg5.block _ (by simp; omega) (fun e => Lw.own_other OWN14.out BP.out (by decide) e.symm)).trans (Lw.blk_alloc BP.out _)
                case measure => simp [intOf]; omega
            · have hlj' : ¬ (j : Int) < (st2.length : Int) := by omega
              have hkt : st2.take j = st2 := List.take_of_length_le (by omega)
              have OW := OWN14.out
              have HB2 := HBB.out
              rw [hkt] at OW HB2
              have RF2 : RfS w ⟨st1, st2.filter (fun x => x != m), st3⟩ out (.slice A7 st1.length c7) u14 u10 wr := ⟨RFH.out.1, RFH.out.2.1, OW, RFH.out.2.2.2.1, AP.out.1⟩
              have hs2 : (p1, s2) = ((b0, b1), (⟨st1, st2.filter (fun x => x != m), st3⟩ : Lw.RSt)) := by
                rcases HB2 with ⟨h1, rfl, rfl⟩ | ⟨h1, rfl, rfl⟩
                · exact SK.out hcm h1
                · have : st2.filter (fun x => x != m) = st2 := List.filter_eq_self.2 fun a ha => by simp; rintro rfl; exact h1 ha
                  rw [this]; exact SO.out hcm h1
              obtain ⟨rfl, rfl⟩ := Prod.mk.inj hs2
              have RF2 := Lib.hid RF2
              clear OW HB2 hs2 hkt
              go_wp2_with (first | (at_builtin; refine Lw.wpList_app elPsd rfl _ _ rfl rfl (World.ownsRow.alloc (RF2.out).2.2.2.1 _) rfl (by exact Lw.Rd.lit (Lw.blk_new' (by simp) _ _) rfl rfl) (psd_one b0 b1) (by omega) (Lw.balloc (RF2.out).1 _) (by omega) (by first | (simp; omega) | (have := (RF2.out).1.size; simp; omega)) ?_; intro v3 w3 own3 hb3 hg3 _))
              go_roundw
              case rel => exact REL.out _ _ _ _ _ rfl (RfS.tell RF2.out hg3 hb3 (by rw [List.length_append, Lw.pairsV_append]; exact own3))
              case measure => simp [intOf]; omega
        · have hcm' : ¬ (m : Int) < (st3 : Int) := by omega
          by_cases hlg : most < (st2.length : Int) + (m : Int) - (st3 : Int)
          · obtain ⟨rfl, rfl⟩ := Prod.mk.inj (SL.out (by omega) hlg)
            go_wp2_with (first | (at_builtin; refine Lw.wpList_app elPsd rfl _ _ rfl rfl (World.ownsRow.alloc (PS1.out _).2.2.2.1 _) rfl (by exact Lw.Rd.lit (Lw.blk_new' (by simp) _ _) rfl rfl) (psd_one 1 0) (by omega) (Lw.balloc (PS1.out _).1 _) (by omega) (by first | (simp; omega) | (have := (PS1.out _).1.size; simp; omega)) ?_; intro v3 w3 own3 hb3 hg3 _))
            go_roundw
            case rel => exact REL.out _ _ _ _ _ rfl (RfS.tell (PS1.out _) hg3 hb3 (by rw [List.length_append, Lw.pairsV_append]; exact own3))
            case measure => simp [intOf]; omega
          · obtain ⟨rfl, rfl⟩ := Prod.mk.inj (STK.out (by omega) hlg)
            obtain ⟨wo, hwo⟩ : ∃ wo, wo = wr := ⟨_, rfl⟩
            subst hwo
            go_wp2_with fail
            go_loopw [8, 17] (fun v8 kv wi => ∃ j : Nat, kv = .int .i64 (j : Int) ∧ st3 ≤ j ∧ j ≤ m ∧ RfS w ⟨st1, Lw.upTo st2 st3 (j - st3), st3⟩ out (.slice A7 st1.length c7) v8 u10 wi ∧ Hid (wi.heap[wo.heap.size]? = some (.cells #[.int .i64 2, .int .i64 (m : Int), .int .i64 nn] 111 (0, 0))) ∧ Hid (wi.heap[wo.heap.size + 1]? = some (.cells #[.int .i64 0, .int .i64 0] 113 (0, 0)))) (fun _ kv _ => m - (intOf kv).toNat)
            case atStart => exact ⟨st3, rfl, Nat.le_refl _, by omega, by rw [Nat.sub_self]; exact PS1.out _, Lw.blk_alloc (Lw.blk_new _ _ _) _, Lw.blk_new' (by simp) _ _⟩
            case round =>
              obtain ⟨j, rfl, j1, j2, RF, bS, bP⟩ := hrel
              have bSc := Lw.blk_cell bS.out 1
              have q0 := Lw.blk_cell bP.out 0
              have q1 := Lw.blk_cell bP.out 1
              have f1 := Lw.blk_free bP.out 1
              simp at bSc q0 q1
              have RFH := Lib.hid RF
              have hBi := RF.1.size
              have hPl := Lw.blk_lt bP.out
              have hul := Lw.upTo_length st2 st3 (j - st3)
              clear RF
              by_cases hjm : j < m
              · have hjm' : (j : Int) < (m : Int) := by omega
                have UT : Hid (Lw.upTo st2 st3 (j + 1 - st3) = Lw.upTo st2 st3 (j - st3) ++ [j]) := by
                  rw [show j + 1 - st3 = (j - st3) + 1 by omega]
                  show _ ++ [st3 + (j - st3)] = _
                  rw [show st3 + (j - st3) = j by omega]
                generalize Lw.upTo st2 st3 (j - st3) = us at *
                have hul2 : us.length ≤ 16777215 := by omega
                clear hul
                go_wp2_with (first | (at_builtin; refine Lw.wpList_app elInt rfl _ _ rfl rfl (World.ownsRow.alloc (RFH.out).2.2.1 _) rfl (by exact Lw.Rd.lit (Lw.blk_new' (by simp) _ _) rfl rfl) (Lw.intsV_one _ [(j : Int)]) (by first | omega | (simp only; omega)) (Lw.balloc (RFH.out).1 _) (by omega) (by first | (simp; omega) | (have := (RFH.out).1.size; simp; omega)) ?_; intro v2 w5 own5 hb5 hg5 ho5))
                go_roundw
                case rel =>
                  refine ⟨j + 1, by go_num, by omega, by omega, ?_, ?_, ?_⟩
                  · rw [UT.out]
                    exact RfS.keep RFH.out hg5 hb5 (by rw [Lw.kI_app, Lw.intsV_app, List.length_append]; exact own5) ho5
                  · exact (hg5.block _ (by simp; omega) (fun e => Lw.own_other RFH.out.2.2.1 bS.out (by decide) e.symm)).trans (Lw.blk_alloc bS.out _)
                  · exact (hg5.block _ (by simp; omega) (fun e => Lw.own_other RFH.out.2.2.1 bP.out (by decide) e.symm)).trans (Lw.blk_alloc bP.out _)
                case measure => simp [intOf]; omega
              · have hjm' : ¬ (j : Int) < (m : Int) := by omega
                obtain rfl : j = m := by omega
                obtain ⟨ad7, e7, had7, hc7⟩ := (Lw.Rd.of_own RFH.out.2.1).at1 HSM.out SG.out
                subst e7
                have bP2 := Lw.blk_set_same bP.out 1 (.int .i64 num)
                have t0 := Lw.blk_cell bP2 0
                have t1 := Lw.blk_cell bP2 1
                simp at t0 t1
                have hne8' : u8.ownBlock ≠ some (wo.heap.size + 1) := Lw.own_other RFH.out.2.2.1 bP.out (by decide)
                have PS5 := Lib.hid (show RfS w ⟨st1, Lw.upTo st2 st3 (j - st3), j + 1⟩ out (.slice (some ad7) st1.length c7) u8 u10 _ from RFH.out.px (i := 1) (u := .int .i64 num) (by omega) hne7 hne8' hne10)
                have sz5 := PS5.out.1.size
                clear hul
                go_wp2_with (first | (at_builtin; refine Lw.wpList_app elPsd rfl _ _ rfl rfl (World.ownsRow.alloc (PS5.out).2.2.2.1 _) rfl (by exact Lw.Rd.lit (Lw.blk_new' (by simp) _ _) rfl rfl) (psd_one 0 num) (by omega) (Lw.balloc (PS5.out).1 _) (by omega) (by first | (simp; omega) | (have := (PS5.out).1.size; simp; omega)) ?_; intro v3 w3 own3 hb3 hg3 _))
                go_roundw
                case rel => exact REL.out _ _ _ _ _ (by show _ = ((j + 1 : Nat) : Int); omega) (RfS.tell PS5.out hg3 hb3 (by rw [List.length_append, Lw.pairsV_append]; exact own3))
                case measure => simp [intOf]; omega
    · -- END
      have hlt' : ¬ (k : Int) < (n : Int) := by omega
      have hk : L.take k = L := List.take_of_length_le (by rw [LL.out]; omega)
      rw [hk] at PS
      obtain ⟨b1, _, _, b5, _⟩ := PS
      obtain ⟨A11, c11, rfl, _⟩ := Lw.ownsForm b5
      have B5 := Lib.hid b5
      clear b5 hk
      go_wp2
      go_ret
      exact ⟨A11, c11, rfl, B5.out, b1⟩
end Go.Proofs.Ytlgegdmnbhoepaa
