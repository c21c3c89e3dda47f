/- feistel.Order and the reference's SealOrder. -/
import Derived.Test.YteeicpfjmahmeaaFeo
import Derived.Test.YteeicpfjmahmeaaFei3
import Derived.Test.YteeicpfjmahmeaaEuc
import Derived.Test.YteeicpfjmahmeaaRange
namespace Lw
open Go Go.RowKit
def sealN (T : List TRow) (y : Nat) : Nat := (num (fseal T (halves (y : Int)))).toNat
theorem sealN_eq {T : List TRow} (h : Rounds T) {y : Nat} (hy : y < 256) : num (fseal T (halves (y : Int))) = (sealN T y : Nat) := by
  have := num_bd (fseal_half h (halves_half (x := (y : Int)) (by omega)))
  unfold sealN; omega
theorem sealN_perm {T : List TRow} (h : Rounds T) : Perm (sealN T) 256 := by
  refine ⟨fun x hx => ?_, fun x y hx hy e => ?_⟩
  · have := num_bd (fseal_half h (halves_half (x := (x : Int)) (by omega)))
    unfold sealN; omega
  · have e2 : num (fseal T (halves (x : Int))) = num (fseal T (halves (y : Int))) := by rw [sealN_eq h hx, sealN_eq h hy, e]
    have e3 := congrArg halves e2
    rw [halves_num (fseal_half h (halves_half (by omega))), halves_num (fseal_half h (halves_half (by omega)))] at e3
    have e4 := congrArg (fopen T) e3
    rw [fopen_seal, fopen_seal] at e4
    have e5 := congrArg num e4
    rw [num_halves (by omega), num_halves (by omega)] at e5
    omega
/-- the array of those seen -/
def SeenB (W : World) (b : Nat) (P : Nat → Prop) : Prop := (∀ y, y < 256 → ∃ r : Bool, W.cell? ⟨b, y, none⟩ = some (.bool r) ∧ (r = true ↔ P y)) ∧ ∀ y, W.frozen? ⟨b, y, none⟩ = false
theorem SeenB.below {W W' : World} {b : Nat} {P : Nat → Prop} (h : SeenB W b P) (hb : b < W.heap.size) (hB : Below W.heap.size W W') : SeenB W' b P :=
  ⟨fun y hy => by obtain ⟨r, h1, h2⟩ := h.1 y hy; exact ⟨r, (hB.cell (p := ⟨b, y, none⟩) hb).trans h1, h2⟩, fun y => (hB.frozen (p := ⟨b, y, none⟩) hb).trans (h.2 y)⟩
theorem SeenB.congr {W : World} {b : Nat} {P Q : Nat → Prop} (h : SeenB W b P) (e : ∀ y, P y ↔ Q y) : SeenB W b Q :=
  ⟨fun y hy => by obtain ⟨r, h1, h2⟩ := h.1 y hy; exact ⟨r, h1, h2.trans (e y)⟩, h.2⟩
theorem SeenB.set {W : World} {b : Nat} {P : Nat → Prop} (h : SeenB W b P) {y0 : Nat} (hy0 : y0 < 256) : SeenB (W.setCell ⟨b, y0, none⟩ (.bool true)) b (fun y => P y ∨ y = y0) := by
  refine ⟨fun y hy => ?_, fun y => by rw [World.frozen?_setCell]; exact h.2 y⟩
  obtain ⟨r, h1, h2⟩ := h.1 y hy
  by_cases e : y = y0
  · subst e
    exact ⟨true, World.cell?_setCell_same _ _ _ h1, by simp⟩
  · refine ⟨r, (World.cell?_setCell_other _ _ _ _ (by intro h; injection h with _ h; exact e h.symm)).trans h1, h2.trans ⟨.inl, fun h => h.elim id (fun h => absurd h e)⟩⟩
/-- how far the inner loop goes, and what that does -/
theorem ord_step {f : Nat → Nat} (h : Perm f 256) {x : Nat} (hx : x < 256) : ∃ M, M ≤ 256 ∧ (∀ j, j < M → ¬ SeenJ f x j (itf f x j)) ∧ SeenJ f x M (itf f x M) ∧ (∀ y, SeenJ f x M y ↔ SeenP f (x + 1) y) ∧ ((M = 0 ∧ ordN f (x + 1) = ordN f x) ∨ (1 ≤ M ∧ ordN f (x + 1) = ordN f x / Nat.gcd (ordN f x % M) M * M)) := by
  by_cases hs : SeenP f x x
  · exact ⟨0, by omega, fun j hj => by omega, .inl hs, fun y => (seenJ_zero f x y).trans (seen_skip h hx hs).symm, .inl ⟨rfl, ordN_skip h hx hs⟩⟩
  · obtain ⟨⟨k1, _, _⟩, k2, _⟩ := per_is h hx
    exact ⟨per f x, k2, fun j hj => seenJ_no h hx hs hj, seenJ_end h hx, fun y => seenJ_full h hx, .inr ⟨k1, (lcm_way k1).symm⟩⟩
end Lw
set_option linter.unusedVariables false
set_option linter.unusedSimpArgs false
namespace Go.Proofs.Yteeicpfjmahmeaa
open Go.RowKit
set_option maxRecDepth 20000 in
set_option maxHeartbeats 1000000 in
theorem feistel_Order_ok (A : Option Addr) (n c : Nat) (T : List Lw.TRow) (w : World) (h : Lw.Tab .i64 w A n T) (h0 : Lw.feiE T 0 = 0) :
    Calls Try.prog 31 #[.slice A n c] w fun e w' => e = .returned (.tuple #[.int .i64 (Lw.ordN (Lw.sealN T) 256 : Nat), .int .i64 0]) ∧ Below w.heap.size w w' := by
  have X := feistel_wrong A n c T 0 w h
  rw [h0] at X
  replace X := Lib.hid X
  obtain ⟨hR, hn, _, _⟩ := Lw.fei_ok h h0
  have SE := Lib.hid (fun (y : Nat) (hy : y < 256) W (hb : Below w.heap.size w W) => feistel_seal A n c T (y : Int) W (h.below (Nat.le_refl w.heap.size) hb) hR hn (by omega) (by omega))
  have SN := Lib.hid (fun y hy => Lw.sealN_eq hR (y := y) hy)
  have PE := Lib.hid (Lw.sealN_perm hR)
  generalize hf : Lw.sealN T = f at SN PE ⊢
  clear h h0 hR hf
  go_enter Try.func31, Try.ntmps31
  go_wp2_with fail
  refine X.out.mono ?_
  rintro e w1 ⟨rfl, rfl⟩
  go_wp2_with fail
  have ZC : Try.zeroCells68 = Array.replicate 256 (.bool false) := by kernel_rfl
  have hB0 : Below w.heap.size w (w.alloc (.cells Try.zeroCells68 68)) := Lw.balloc (Below.refl _ _) _
  have SB0 : Hid (Lw.SeenB (w.alloc (.cells Try.zeroCells68 68)) w.heap.size (Lw.SeenP f 0)) := Lib.hid ⟨fun y hy => ⟨false, by rw [World.cell?_alloc_new, ZC]; simp [hy], by simp [Lw.SeenP]⟩, fun y => Lw.blk_free (Lw.blk_new _ _ _) y⟩
  clear ZC
  go_loopw [6, 7, 8, 9, 10, 11, 17] (fun o xx sz yy gg ee i wr => ∃ x : Nat, i = .int .i64 (x : Int) ∧ x ≤ 256 ∧ o = .int .i64 (Lw.ordN f x : Nat) ∧ Hid (Lw.SeenB wr w.heap.size (Lw.SeenP f x)) ∧ w.heap.size < wr.heap.size ∧ Below w.heap.size w wr) (fun _ _ _ _ _ _ i _ => 256 - (intOf i).toNat)
  case atStart => exact ⟨0, rfl, by omega, rfl, SB0, by simp, hB0⟩
  case round =>
    obtain ⟨x, rfl, hx, rfl, SB, hsz, hB⟩ := hrel
    by_cases hlt : x < 256
    · have hlt' : (x : Int) < 256 := by omega
      obtain ⟨M, M1, M2, M3, M4, M5⟩ := Lw.ord_step PE.out hlt
      have M2 := Lib.hid M2
      have M3 := Lib.hid M3
      have M4 := Lib.hid M4
      have M5 := Lib.hid M5
      go_wp2_with fail
      go_loopw [8, 9] (fun sz yy wr => ∃ j : Nat, sz = .int .i64 (j : Int) ∧ j ≤ M ∧ yy = .int .i64 (Lw.itf f x j : Nat) ∧ Hid (Lw.SeenB wr w.heap.size (Lw.SeenJ f x j)) ∧ w.heap.size < wr.heap.size ∧ Below w.heap.size w wr) (fun sz _ _ => M - (intOf sz).toNat)
      case atStart => exact ⟨0, rfl, by omega, rfl, Lib.hid (SB.out.congr fun y => (Lw.seenJ_zero f x y).symm), hsz, hB⟩
      case round =>
        clear SB hsz hB
        obtain ⟨j, rfl, hj, rfl, SB, hsz, hB⟩ := hrel
        have ylt := Lw.itf_lt PE.out.1 hlt j
        obtain ⟨r, r1, r2⟩ := SB.out.1 _ ylt
        have r3 := SB.out.2 (Lw.itf f x j)
        have SET := Lib.hid ((SB.out.set ylt).congr fun y => (Lw.seenJ_next (f := f) (x := x) (j := j) (y := y)).symm)
        have NXT : Hid (f (Lw.itf f x j) = Lw.itf f x (j + 1)) := Lib.hid rfl
        have SNy := Lib.hid (SN.out _ ylt)
        have SEy := Lib.hid (SE.out _ ylt)
        have ylt' : ((Lw.itf f x j : Nat) : Int) < 256 := by omega
        by_cases hjM : j < M
        · have hr : r = false := by
            cases r
            · rfl
            · exact absurd (r2.1 rfl) (M2.out j hjM)
          subst hr
          generalize Lw.itf f x j = y at *
          clear r2
          go_wp2_with fail
          refine (SEy.out _ (hB.setCell (Nat.le_refl _) _)).mono ?_
          rintro e w2 ⟨rfl, hb2⟩
          rw [SNy.out, NXT.out]
          have hB2 := Lw.bt (hB.setCell (p := ⟨w.heap.size, y, none⟩) (Nat.le_refl _) (.bool true)) hb2
          have SB2 := Lib.hid (SET.out.below (by simpa using hsz) hb2)
          have hs2 : w.heap.size < w2.heap.size := by have := hb2.size; simp at this; omega
          go_wp2_with fail
          go_roundw
          case rel => exact ⟨j + 1, by go_num, by omega, rfl, SB2, hs2, hB2⟩
          case measure => simp [intOf]; omega
        · have hjM' : j = M := by omega
          subst hjM'
          have hr : r = true := r2.2 M3.out
          subst hr
          have SBn := Lib.hid (SB.out.congr M4.out)
          clear r2 SET SNy SEy r3
          rcases M5.out with ⟨m1, m2⟩ | ⟨m1, m2⟩
          · subst m1
            have M6 := Lib.hid m2
            clear m2 M5
            go_wp2_with fail
            go_roundw
            case rel => exact ⟨x + 1, by go_num, by omega, by rw [M6.out], SBn, hsz, hB⟩
            case measure => simp [intOf]; omega
          · have OL := Lw.ord_le PE.out hx
            have OL2 := Lw.ord_le PE.out (show x + 1 ≤ 256 by omega)
            have hm1 : (0 : Int) < (j : Int) := by omega
            have M6 := Lib.hid m2
            rw [m2] at OL2
            clear m2 M5
            generalize Lw.ordN f x = L at *
            have em : (L : Int) % (j : Int) = ((L % j : Nat) : Int) := (Int.natCast_emod L j).symm
            have GC := Lib.hid (fun W => euclid_Gcd ((L : Int) % (j : Int)) (j : Int) W (Lw.farB_false (by rw [em]; have := Nat.mod_lt L m1; omega)) (Lw.farB_false (by omega)))
            have GE : Lw.gcdI ((L : Int) % (j : Int)) (j : Int) = ((Nat.gcd (L % j) j : Nat) : Int) := by rw [em]; rfl
            rw [GE] at GC
            have G0 : 0 < Nat.gcd (L % j) j := Nat.gcd_pos_of_pos_right _ m1
            clear em GE
            generalize Nat.gcd (L % j) j = g at *
            have OL := Lib.hid OL
            have OL2 := Lib.hid OL2
            have hj0 : ¬ (j : Int) = 0 := by omega
            clear SB M2 M3 M4
            have hd : decide ((0 : Int) < (j : Int)) = true := by simpa using hm1
            clear hj M1 hx ylt hm1 hjM
            have hg0 : ¬ (g : Int) = 0 := by omega
            have DV : Hid (wrap64 (((L / g * j : Nat)) : Int) = ((L / g * j : Nat) : Int)) := Lib.hid (by have h1 := OL2.out; generalize L / g * j = q at h1 ⊢; exact IntWalk.wrap64_in _ (by omega))
            have DW : Hid (wrap64 (((L / g : Nat)) : Int) = ((L / g : Nat) : Int)) := Lib.hid (by have h1 := OL.out; have h2 := Nat.div_le_self L g; generalize L / g = q at h2 ⊢; exact IntWalk.wrap64_in _ (by omega))
            go_wp2_with fail
            refine (GC.out _).mono ?_
            rintro e w3 ⟨rfl, hb3⟩
            have hB3 := Lw.bt hB hb3
            have SB3 := Lib.hid (SBn.out.below hsz hb3)
            have hs3 : w.heap.size < w3.heap.size := Nat.lt_of_lt_of_le hsz hb3.size
            clear r1
            go_wp2_with fail
            have EQ : wrap64 (wrap64 ((L : Int) / (g : Int)) * (j : Int)) = ((Lw.ordN f (x + 1) : Nat) : Int) := by
              rw [show (L : Int) / (g : Int) = ((L / g : Nat) : Int) from (Int.natCast_ediv L g).symm, DW.out, show ((L / g : Nat) : Int) * (j : Int) = ((L / g * j : Nat) : Int) from (Int.natCast_mul _ _).symm, DV.out, M6.out]
            refine ⟨⟨x + 1, by go_num, by omega, by rw [EQ], SB3, hs3, hB3⟩, ?_⟩
            simp [intOf]; omega
    · have hxn : x = 256 := by omega
      subst hxn
      go_wp2_with fail
      go_ret2
      exact ⟨rfl, hB⟩
theorem feistel_Order_bad (A : Option Addr) (n c : Nat) (T : List Lw.TRow) (w : World) (h : Lw.Tab .i64 w A n T) (h0 : ¬ Lw.feiE T 0 = 0) :
    Calls Try.prog 31 #[.slice A n c] w fun e w' => e = .returned (.tuple #[.int .i64 0, .int .i64 (Lw.feiE T 0)]) ∧ w = w' := by
  have X := Lib.hid (feistel_wrong A n c T 0 w h)
  have h1 : (Lw.feiE T 0 == 0) = false := by simpa using h0
  clear h h0
  go_enter Try.func31, Try.ntmps31
  go_wp2_with (go_at_call 44; (with_reducible refine (X.out).mono ?_); rintro e w1 ⟨rfl, rfl⟩)
  go_ret2
  exact ⟨rfl, rfl⟩
set_option maxRecDepth 20000 in
set_option maxHeartbeats 1000000 in
theorem ref_SealOrder (A : Option Addr) (n c : Nat) (T : List Lw.TRow) (w : World) (h : Lw.Tab .i64 w A n T) (hR : Lw.Rounds T) (hn : n ≤ 64) :
    Calls Try.prog 32 #[.slice A n c] w fun e w' => e = .returned (.int .i64 (Lw.ordN (Lw.sealN T) 256 : Nat)) ∧ w = w' := by
  have SE := Lib.hid (fun (y : Nat) (hy : y < 256) => ref_Seal A n c T (y : Int) w h hR hn (by omega) (by omega))
  have SN := Lib.hid (fun y hy => Lw.sealN_eq hR (y := y) hy)
  have PE := Lib.hid (Lw.sealN_perm hR)
  generalize hf : Lw.sealN T = f at SN PE ⊢
  clear h hR hf
  go_enter Try.func32, Try.ntmps32
  go_wp2
  go_loop [3, 4, 5, 6] (fun o i kk yy => ∃ x : Nat, i = .int .i64 (x : Int) ∧ x ≤ 256 ∧ o = .int .i64 (Lw.ordN f x : Nat)) (fun _ i _ _ => 256 - (intOf i).toNat)
  case atStart => exact ⟨0, rfl, by omega, rfl⟩
  case round =>
    obtain ⟨x, rfl, hx, rfl⟩ := hrel
    by_cases hlt : x < 256
    · have hlt' : (x : Int) < 256 := by omega
      obtain ⟨⟨p1, p2, p3⟩, p4, _⟩ := Lw.per_is PE.out hlt
      have OX : Hid (Lw.ordN f (x + 1) = Lw.ordN f x / Nat.gcd (Lw.ordN f x % Lw.per f x) (Lw.per f x) * Lw.per f x) := Lib.hid (Lw.lcm_way p1).symm
      have OL := Lw.ord_le PE.out hx
      have OL2 := Lw.ord_le PE.out (show x + 1 ≤ 256 by omega)
      generalize Lw.per f x = p at *
      have P2 := Lib.hid p2
      have P3 := Lib.hid p3
      have OL := Lib.hid OL
      have OL2 := Lib.hid OL2
      clear p2 p3
      have SEx := Lib.hid (SE.out x hlt)
      have SNx := SN.out x hlt
      go_wp2_with fail
      refine SEx.out.mono ?_
      rintro e w1 ⟨rfl, rfl⟩
      rw [SNx]
      clear SNx
      go_wp2_with fail
      go_loop [5, 6] (fun kk yy => ∃ j : Nat, kk = .int .i64 (j : Int) ∧ 1 ≤ j ∧ j ≤ p ∧ yy = .int .i64 (Lw.itf f x j : Nat)) (fun kk _ => p - (intOf kk).toNat)
      case atStart => exact ⟨1, rfl, by omega, p1, rfl⟩
      case round =>
        obtain ⟨j, rfl, j1, hj, rfl⟩ := hrel
        by_cases hjp : j < p
        · have ylt := Lw.itf_lt PE.out.1 hlt j
          have hne := P3.out j j1 hjp
          have zb : (((Lw.itf f x j : Nat) : Int) == (x : Int)) = false := by simp; omega
          have SEy := Lib.hid (SE.out _ ylt)
          have SNy := SN.out _ ylt
          have NXT : Hid (f (Lw.itf f x j) = Lw.itf f x (j + 1)) := Lib.hid rfl
          generalize Lw.itf f x j = y at *
          go_wp2_with fail
          refine SEy.out.mono ?_
          rintro e w1 ⟨rfl, rfl⟩
          rw [SNy, NXT.out]
          clear SNy
          go_wp2_with fail
          go_round
          case rel => exact ⟨j + 1, by go_num, by omega, by omega, rfl⟩
          case measure => simp [intOf]; omega
        · have hjp' : j = p := by omega
          subst hjp'
          have zb : (((Lw.itf f x j : Nat) : Int) == (x : Int)) = true := by rw [P2.out]; simp
          have em : (Lw.ordN f x : Int) % (j : Int) = ((Lw.ordN f x % j : Nat) : Int) := (Int.natCast_emod _ j).symm
          generalize Lw.ordN f x = L at *
          have GC := Lib.hid (fun W => ref_Gcd ((L : Int) % (j : Int)) (j : Int) W (by rw [em]; omega) (by rw [em]; have := Nat.mod_lt L j1; omega) (by omega) (by omega))
          have GE : Lw.gcdI ((L : Int) % (j : Int)) (j : Int) = ((Nat.gcd (L % j) j : Nat) : Int) := by rw [em]; rfl
          rw [GE] at GC
          have G0 : 0 < Nat.gcd (L % j) j := Nat.gcd_pos_of_pos_right _ j1
          clear em GE
          generalize Nat.gcd (L % j) j = g at *
          have hg0 : ¬ (g : Int) = 0 := by omega
          have hj0 : ¬ (j : Int) = 0 := by omega
          have DV : Hid (wrap64 (((L / g * j : Nat)) : Int) = ((L / g * j : Nat) : Int)) := Lib.hid (by have h1 := OL2.out; rw [OX.out] at h1; generalize L / g * j = q at h1 ⊢; exact IntWalk.wrap64_in _ (by omega))
          have DW : Hid (wrap64 (((L / g : Nat)) : Int) = ((L / g : Nat) : Int)) := Lib.hid (by have h1 := OL.out; have h2 := Nat.div_le_self L g; generalize L / g = q at h2 ⊢; exact IntWalk.wrap64_in _ (by omega))
          have EQ : Hid (wrap64 (wrap64 ((L : Int) / (g : Int)) * (j : Int)) = ((Lw.ordN f (x + 1) : Nat) : Int)) := Lib.hid (by
            rw [show (L : Int) / (g : Int) = ((L / g : Nat) : Int) from (Int.natCast_ediv L g).symm, DW.out, show ((L / g : Nat) : Int) * (j : Int) = ((L / g * j : Nat) : Int) from (Int.natCast_mul _ _).symm, DV.out, OX.out])
          clear hj p1 p4 hjp
          go_wp2_with fail
          refine (GC.out _).mono ?_
          rintro e w3 ⟨rfl, rfl⟩
          go_wp2_with fail
          refine ⟨⟨x + 1, by go_num, by omega, by rw [EQ.out]⟩, ?_⟩
          simp [intOf]; omega
    · have hxn : x = 256 := by omega
      subst hxn
      go_wp2_with fail
      go_ret
      exact ⟨rfl, rfl⟩
end Go.Proofs.Yteeicpfjmahmeaa
