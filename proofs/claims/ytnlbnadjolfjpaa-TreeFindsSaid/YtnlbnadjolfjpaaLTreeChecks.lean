/- The law TreeChecks: whether a leaf with its proof leads to a root. -/
import Derived.Test.YtnlbnadjolfjpaaTri
set_option linter.unusedVariables false
namespace Lw
open Go Go.RowKit
theorem u8_byt {zs : List Int} (h : ∀ z ∈ zs, (Lit.int .u8 z).wf = true) : Byt zs := fun z hz => by
  have := h z hz
  have e1 : IntKind.u8.min = 0 := rfl
  have e2 : IntKind.u8.max = 255 := rfl
  simp [Lit.wf, e1, e2] at this; omega
theorem u32_in {zs : List Int} (h : ∀ z ∈ zs, (Lit.int .u32 z).wf = true) : ∀ z ∈ zs, 0 ≤ z ∧ z < 4294967296 := fun z hz => by
  have := h z hz
  have e1 : IntKind.u32.min = 0 := rfl
  have e2 : IntKind.u32.max = 4294967295 := rfl
  simp [Lit.wf, e1, e2] at this; omega
/-- what Check tells -/
def chkB (S : Option (List (Option (List Int)))) (root : Int) : Bool := match S with
  | some L => nodL L == root
  | none => false
theorem chk_some {L : List (Option (List Int))} {root : Int} : chkB (some L) root = (nodL L == root) := rfl
theorem chk_none {root : Int} : chkB none root = false := rfl
end Lw
namespace Go.Proofs.Ytnlbnadjolfjpaa
open Go.RowKit
theorem tree_Check_bad (root n i : Int) (A B : Option Addr) (l k c d : Nat) (w : World) (h : ¬ Lw.plcE n i l k = 0) :
    Calls Try.prog 19 #[.int .u32 root, .int .i64 n, .int .i64 i, .slice A l c, .slice B k d] w fun e w' => e = .returned (.tuple #[.bool false, .int .i64 (Lw.plcE n i l k)]) ∧ Below w.heap.size w w' := by
  have X := Lib.hid (fun w => place_wrong n i A B l k c d w)
  have z : (Lw.plcE n i l k != 0) = true := by simpa using h
  generalize Lw.plcE n i l k = V at *
  clear h
  go_enter Try.func19, Try.ntmps19
  go_wp2_with (go_at_call 43; (with_reducible refine (X.out _).mono ?_); rintro e w1 ⟨rfl, hb1⟩)
  go_ret2
  exact ⟨rfl, Lw.bt (Lw.balloc (Below.refl _ _) _) hb1⟩
set_option maxHeartbeats 1000000 in
theorem tree_Check_ok (root : Int) (n i : Nat) (A B : Option Addr) (l k c d : Nat) (leaf ps : List Int) (w : World) (RA : Lw.Rd w 1 A l (Lw.intsV .u8 leaf)) (RB : Lw.Rd w 1 B k (Lw.intsV .u32 ps)) (hb : Lw.Byt leaf) (hp : ∀ z ∈ ps, 0 ≤ z ∧ z < 4294967296)
    (h : Lw.plcE (n : Int) (i : Int) l k = 0) (hn : n ≤ 64) (hi : i < n) (hl : l < 4096) (hk : k ≤ 64) (hkd : k ≤ d) :
    Calls Try.prog 19 #[.int .u32 root, .int .i64 (n : Int), .int .i64 (i : Int), .slice A l c, .slice B k d] w fun e w' => e = .returned (.tuple #[.bool (Lw.chkB (Lw.textsL n i leaf ps) root), .int .i64 0]) ∧ Below w.heap.size w w' := by
  have X := fun w => place_wrong (n : Int) (i : Int) A B l k c d w
  rw [h] at X
  replace X := Lib.hid X
  have TX := Lib.hid (fun W (hB : Below w.heap.size w W) => place_texts n i A B l k c d leaf ps W (RA.below (Nat.le_refl _) hB) (RB.below (Nat.le_refl _) hB) hb hp hn hi hl hk hkd)
  obtain ⟨W, hW⟩ : ∃ W, w.alloc (.cells #[.int .i64 (n : Int), .int .i64 (i : Int)] 81) = W := ⟨_, rfl⟩
  have B0 := Lib.hid (show W.heap[w.heap.size]? = some (.cells #[.int .i64 (n : Int), .int .i64 (i : Int)] 81 (0, 0)) from hW ▸ Lw.blk_new _ _ _)
  have hBW : Below w.heap.size w W := by rw [← hW]; exact Lw.balloc (Below.refl _ _) _
  have hWs : w.heap.size < W.heap.size := by rw [← hW]; simp
  have l0 := Lw.blk_cell B0.out 0
  have l1 := Lw.blk_cell B0.out 1
  simp at l0 l1
  have HW := Lib.hid hW
  generalize Lw.textsL n i leaf ps = S at *
  clear hW RA RB hb hp h
  go_enter Try.func19, Try.ntmps19
  go_wp2_with fail
  rw [HW.out]
  refine (X.out _).mono ?_
  rintro e w1 ⟨rfl, hb1⟩
  have hB1 := hBW.trans (hb1.mono hBW.size)
  have m0 : w1.cell? ⟨w.heap.size, 0, none⟩ = some (.int .i64 (n : Int)) := (hb1.cell hWs).trans l0
  have m1 : w1.cell? ⟨w.heap.size, 1, none⟩ = some (.int .i64 (i : Int)) := (hb1.cell hWs).trans l1
  go_wp2_with fail
  refine (TX.out _ hB1).mono ?_
  rintro e w2 ⟨C, m, g, ok, rfl, hok, hL, hb2⟩
  have HLL := Lib.hid hL
  clear hL
  have hB2 := Lw.bt hB1 hb2
  rcases hS : S with _ | L
  · rw [hS] at hok
    obtain rfl : ok = false := hok
    have HS := Lib.hid hS
    clear hS
    go_wp2_with fail
    go_ret2
    exact ⟨by rw [HS.out]; rfl, hB2⟩
  · rw [hS] at hok
    obtain rfl : ok = true := hok
    obtain ⟨T, ⟨TR, TO, TL⟩, hT, hm⟩ := HLL.out L hS
    have NV := Lw.nodV_eq T
    rw [hT] at NV
    have ND := tree_node C m g T w2 TR TO (by omega)
    rw [NV] at ND
    have HS : Hid (Lw.chkB S root = (Lw.nodL L == root)) := by rw [hS]; exact rfl
    clear TR TO TL hT hS HLL NV
    generalize Lw.nodL L = V at *
    have ND := Lib.hid ND
    go_wp2_with fail
    refine ND.out.mono ?_
    rintro e w3 ⟨rfl, hb3⟩
    go_wp2_with fail
    go_ret2
    exact ⟨by rw [HS.out]; rfl, Lw.bt hB2 hb3⟩
namespace LW
set_option maxHeartbeats 2000000 in
theorem TreeChecks (root n i : Int) (A : Option Addr) (l c : Nat) (z3 : List Int) (B : Option Addr) (k d : Nat) (z4 : List Int) (w : World) (wr : (Lit.int .u32 root).wf = true) (wn : (Lit.int .i64 n).wf = true) (wi : (Lit.int .i64 i).wf = true) (hA : Lw.IsRow .u8 w A l c z3) (hB : Lw.IsRow .u32 w B k d z4) :
    Calls Try.prog 6 #[.int .u32 root, .int .i64 n, .int .i64 i, .slice A l c, .slice B k d] w fun e w' => e = .returned (.bool true) ∧ Below w.heap.size w w' := by
  obtain ⟨RA, _, _, _, wA⟩ := hA.rd
  obtain ⟨RB, hkd, _, _, wB⟩ := hB.rd
  have bA := Lw.u8_byt wA
  have bB := Lw.u32_in wB
  clear wn wi hA hB wA wB wr
  have PC := fun w => ref_PlaceCheck n i A B l k c d w
  by_cases h : Lw.plcE n i l k = 0
  · obtain ⟨n1, n2, i0, i1, hl, hk⟩ := Lw.plc_in h
    rw [h] at PC
    replace PC := Lib.hid PC
    obtain ⟨n, rfl⟩ := Int.eq_ofNat_of_zero_le (by omega : 0 ≤ n)
    obtain ⟨i, rfl⟩ := Int.eq_ofNat_of_zero_le i0
    have X := Lib.hid (tree_Check_ok root n i A B l k c d (z3.take l) (z4.take k) w RA RB bA bB h (by omega) (by omega) hl hk hkd)
    have Y := Lib.hid (fun W (hb : Below w.heap.size w W) => ref_Lead n i A B l k c d (z3.take l) (z4.take k) W (RA.below (Nat.le_refl _) hb) (RB.below (Nat.le_refl _) hb) bA bB (by omega) (by omega) hl hk)
    generalize Lw.textsL n i (z3.take l) (z4.take k) = S at *
    clear RA RB bA bB h
    rcases S with _ | L
    · have X2 := X.out
      rw [Lw.chk_none] at X2
      have X2 := Lib.hid X2
      clear X
      go_enter Try.func6, Try.ntmps6
      go_wp2_with fail
      refine X2.out.mono ?_
      rintro e w1 ⟨rfl, hb1⟩
      go_wp2_with fail
      refine (PC.out _).mono ?_
      rintro e w' ⟨rfl, rfl⟩
      go_wp2_with fail
      refine (Y.out _ hb1).mono ?_
      rintro e w2 ⟨v, C, m, g, ok, rfl, hok, hL, hb2⟩
      obtain rfl : ok = false := hok
      clear hL
      go_wp2_with fail
      go_ret
      exact ⟨by simp, Lw.bt hb1 hb2⟩
    · have X2 := X.out
      rw [Lw.chk_some] at X2
      obtain ⟨v0, v1⟩ := Lw.nodL_bd L
      obtain ⟨V, hV⟩ : ∃ V, Lw.nodL L = V := ⟨_, rfl⟩
      rw [hV] at X2 v0 v1
      have X2 := Lib.hid X2
      have HV := Lib.hid hV
      have wv : IntKind.u32.wrap V = V := by rw [IntKind.wrap_u32']; omega
      clear X hV
      go_enter Try.func6, Try.ntmps6
      go_wp2_with fail
      refine X2.out.mono ?_
      rintro e w1 ⟨rfl, hb1⟩
      go_wp2_with fail
      refine (PC.out _).mono ?_
      rintro e w' ⟨rfl, rfl⟩
      go_wp2_with fail
      refine (Y.out _ hb1).mono ?_
      rintro e w2 ⟨v, C, m, g, ok, rfl, hok, hL, hb2⟩
      obtain rfl : ok = true := hok
      have hv : v = V := (hL L rfl).1.trans HV.out
      subst hv
      clear hL
      go_wp2_with fail
      go_ret
      exact ⟨by simp, Lw.bt hb1 hb2⟩
  · have X := Lib.hid (tree_Check_bad root n i A B l k c d w h)
    have zv : (Lw.plcE n i l k != 0) = true := by simpa using h
    replace PC := Lib.hid PC
    generalize Lw.plcE n i l k = V at *
    clear h
    go_enter Try.func6, Try.ntmps6
    go_wp2_with fail
    refine X.out.mono ?_
    rintro e w1 ⟨rfl, hb1⟩
    go_wp2_with fail
    refine (PC.out _).mono ?_
    rintro e w' ⟨rfl, rfl⟩
    go_wp2_with fail
    go_ret
    exact ⟨by simp, hb1⟩
end LW
end Go.Proofs.Ytnlbnadjolfjpaa
