/- The reference's Cycle. -/
import Derived.Test.YtoignifimgioaaaCyt
namespace Lw
/-- when each number was there first, behind k numbers: one more, 0: not yet -/
def When (c n x : Int) (k : Nat) (L : List Int) : Prop := (L.length : Int) = n ∧ (∀ j : Nat, j < k → L[(itI (c % n) n (x % n) j).toNat]? = some ((j : Int) + 1)) ∧ ∀ y : Nat, (y : Int) < n → (∀ j : Nat, j < k → itI (c % n) n (x % n) j ≠ (y : Int)) → L[y]? = some 0
theorem when_zero {c n x : Int} (h : 0 ≤ n) : When c n x 0 (List.replicate n.toNat 0) := ⟨by simp; omega, by intro j hj; omega, fun y hy _ => by rw [List.getElem?_replicate, if_pos (by omega)]⟩
theorem when_new {c n x : Int} {i s k : Nat} {L : List Int} (hn : 1 ≤ n) (hR : Rnd c n x i s) (h : When c n x k L) (hk : k < i + s) (hb : 0 ≤ itI (c % n) n (x % n) k ∧ itI (c % n) n (x % n) k < n) : L[(itI (c % n) n (x % n) k).toNat]? = some 0 :=
  h.2.2 _ (by omega) (fun j hj e => rnd_new hn hR hj hk (by omega))
theorem when_old {c n x : Int} {i s : Nat} {L : List Int} (hn : 1 ≤ n) (s1 : 1 ≤ s) (hR : Rnd c n x i s) (h : When c n x (i + s) L) : L[(itI (c % n) n (x % n) (i + s)).toNat]? = some ((i : Int) + 1) := by
  rw [← rnd_back hn hR]; exact h.2.1 i (by omega)
theorem when_succ {c n x : Int} {i s k : Nat} {L : List Int} (hn : 1 ≤ n) (hR : Rnd c n x i s) (h : When c n x k L) (hk : k < i + s) (hb : ∀ j, 0 ≤ itI (c % n) n (x % n) j ∧ itI (c % n) n (x % n) j < n) : When c n x (k + 1) (L.set (itI (c % n) n (x % n) k).toNat ((k : Int) + 1)) := by
  obtain ⟨h1, h2, h3⟩ := h
  refine ⟨by simpa using h1, fun j hj => ?_, fun y hy hno => ?_⟩
  · rcases Nat.lt_or_ge j k with hlt | hge
    · have hne := rnd_new hn hR hlt hk
      have b1 := hb j; have b2 := hb k
      rw [List.getElem?_set_ne (by omega)]
      exact h2 j hlt
    · obtain rfl : j = k := by omega
      have b2 := hb j
      rw [List.getElem?_set_self (by omega)]
  · have hne := hno k (by omega)
    have b2 := hb k
    rw [List.getElem?_set_ne (by omega)]
    exact h3 y hy fun j hj => hno j (by omega)
theorem drewN_own {w : Go.World} {base e size n : Nat} {v : Go.Value} {xs : List Go.Value} (h : w.ownsRow base e size v n xs) (d : Nat) : (w.drewN d).ownsRow base e size v n xs := h
end Lw
set_option linter.unusedVariables false
set_option linter.unusedSimpArgs false
namespace Go.Proofs.Ytoignifimgioaaa
open Go.RowKit
theorem elI64 : Lw.El Try.prog 73 2 (.int .i64 0) 1 8 := Lw.El.mk' Try.underlying73 (by kernel_rfl) rfl (by decide) (by decide)
set_option maxHeartbeats 2000000 in
theorem ref_Cycle (c n x : Int) (w : World) (h1 : 1 ≤ n) (h2 : n ≤ 1048576) (i s : Nat) (s1 : 1 ≤ s) (s2 : ((i + s : Nat) : Int) ≤ n) (hR : Lw.Rnd c n x i s) :
    Calls Try.prog 17 #[.int .i64 c, .int .i64 n, .int .i64 x] w fun e w' => e = .returned (.tuple #[.int .i64 (i : Int), .int .i64 (s : Int)]) ∧ Below w.heap.size w w' := by
  have HR := Lib.hid hR
  clear hR
  obtain ⟨N, rfl⟩ := Int.eq_ofNat_of_zero_le (by omega : 0 ≤ n)
  have hz : ¬ (N : Int) = 0 := by omega
  have x0 := Int.emod_nonneg x hz; have x1 := Int.emod_lt_of_pos x (by omega : 0 < (N : Int))
  have HI := Lib.hid (fun j => Lw.itI_bd (c := c % (N : Int)) (x := x % (N : Int)) (by omega : 0 < (N : Int)) x0 x1 j)
  have X0 : Hid (Lw.itI (c % (N : Int)) (N : Int) (x % (N : Int)) 0 = x % (N : Int)) := rfl
  have WK := Lib.hid (show ∀ (y : Int) (w : World), 0 ≤ y → y < (N : Int) → Calls Try.prog 47 #[.int .i64 c, .int .i64 (N : Int), .int .i64 y, .int .i64 1] w (fun e w' => e = .returned (.int .i64 (Lw.nxI (c % (N : Int)) (N : Int) y)) ∧ ∃ d, w' = w.drewN d) from fun y w y0 y1 => by have := ref_Walk c (N : Int) y 1 w (by omega) h2 (by omega); rw [Int.emod_eq_of_lt y0 y1] at this; exact this)
  have S1 : Hid (∀ t, Lw.itI (c % (N : Int)) (N : Int) (x % (N : Int)) (t + 1) = Lw.nxI (c % (N : Int)) (N : Int) (Lw.itI (c % (N : Int)) (N : Int) (x % (N : Int)) t)) := fun _ => rfl
  have M : ∀ w : World, (Instr.makeSlice 73 (.int .i64 (N : Int)) (.int .i64 (N : Int))).run Try.prog w = .ok (.slice (some ⟨w.heap.size, 0, none⟩) N N) (w.alloc (.cells (List.replicate N (Value.int .i64 0)).toArray 2)) := fun w => Lw.run_mk elI64 rfl .i64 .i64 N (by omega) w
  obtain ⟨W, hW⟩ : ∃ W, w.alloc (.cells (Array.replicate N (Value.int .i64 0)) 2) = W := ⟨_, rfl⟩
  have own0 : W.ownsRow w.heap.size 2 1 (.slice (some ⟨w.heap.size, 0, none⟩) N N) N (Lw.intsV .i64 (List.replicate N 0)) := by
    rw [← hW]
    exact Lw.own_lit w (by simp [Lw.intsV]) (by simp [Lw.intsV]) (by omega) (Nat.le_refl _)
  have hBW : Below w.heap.size w W := by rw [← hW]; exact Lw.balloc (Below.refl _ _) _
  have OWN0 := Lib.hid own0
  have HW := Lib.hid hW
  have WZ := Lib.hid (Lw.when_zero (c := c) (n := (N : Int)) (x := x) (by omega))
  clear own0 hW x0 x1
  go_enter Try.func17, Try.ntmps17
  go_wp2_with (go_at_call 31; refine (ref_Mod _ _ _ (by omega) (by omega)).mono ?_; rintro e w' ⟨rfl, rfl⟩)
  (try rw [HW.out])
  clear HW
  go_loopw [2, 9] (fun y kk wr => ∃ (k : Nat) (L : List Int), k ≤ i + s ∧ y = .int .i64 (Lw.itI (c % (N : Int)) (N : Int) (x % (N : Int)) k) ∧ kk = .int .i64 ((k : Int) + 1) ∧ wr.ownsRow w.heap.size 2 1 (.slice (some ⟨w.heap.size, 0, none⟩) N N) N (Lw.intsV .i64 L) ∧ Hid (Lw.When c (N : Int) x k L) ∧ Below w.heap.size w wr) (fun _ kk _ => i + s + 2 - (intOf kk).toNat)
  case atStart => exact ⟨0, List.replicate N 0, by omega, by rw [X0.out], rfl, OWN0.out, by have := WZ.out; rwa [Int.toNat_natCast] at this, hBW⟩
  case round =>
    obtain ⟨k, L, k1, rfl, rfl, own, HWn, hB⟩ := hrel
    obtain ⟨a0, a1⟩ := HI.out k
    have N1 := fun w => WK.out _ w a0 a1
    rw [← S1.out] at N1
    replace N1 := Lib.hid N1
    obtain ⟨y, hy⟩ : ∃ y : Nat, Lw.itI (c % (N : Int)) (N : Int) (x % (N : Int)) k = (y : Int) := Int.eq_ofNat_of_zero_le a0
    have own := Lib.hid own
    have hlt : k < i + s ∨ k = i + s := by omega
    rcases hlt with hlt | hk
    · have E0 := Lw.when_new h1 HR.out HWn.out hlt (HI.out k)
      have E1 := Lib.hid (Lw.when_succ h1 HR.out HWn.out hlt HI.out)
      rw [hy] at E0 E1 N1 a0 a1
      rw [hy]
      rw [Int.toNat_natCast] at E0 E1
      obtain ⟨y', hy'⟩ : ∃ y, Lw.itI (c % (N : Int)) (N : Int) (x % (N : Int)) (k + 1) = y := ⟨_, rfl⟩
      rw [hy'] at N1
      have hyN : y < N := by omega
      obtain ⟨c0, f0, hg0, hgl⟩ := Lw.own_cell (i := y) own.out (by rw [Lw.intsV, List.getElem?_map, E0]; rfl)
      have OW2 := Lib.hid (Lw.own_set (v := .int .i64 ((k : Int) + 1)) own.out hyN)
      clear hy E0 HWn own
      go_wp2_with (go_at_call 47; (with_reducible refine (N1.out _).mono ?_); rintro e w' ⟨rfl, d1, rfl⟩)
      go_roundw
      case rel => exact ⟨k + 1, _, by omega, by rw [hy'], by go_num, by have := OW2.out; rw [Lw.intsV, ← List.map_set] at this; exact Lw.drewN_own this _, E1, Lw.bdrewN (Lw.bset hB (by simp) _) _⟩
      case measure => simp [intOf]; omega
    · subst hk
      have E0 := Lw.when_old h1 s1 HR.out HWn.out
      rw [hy] at E0 a0 a1
      rw [hy]
      rw [Int.toNat_natCast] at E0
      have hyN : y < N := by omega
      obtain ⟨c0, f0, hg0, hgl⟩ := Lw.own_cell (i := y) own.out (by rw [Lw.intsV, List.getElem?_map, E0]; rfl)
      clear hy E0 HWn own N1
      go_wp2
      go_quiet (fail)
      go_wp2
      go_ret2
      exact ⟨by go_num, Lw.bdrewN hB _⟩
end Go.Proofs.Ytoignifimgioaaa
