/- Package cell: names, sums, cells: what the program and the reference make. -/
import Derived.Test.YtdibbdlpnfcmiaaBytes3
import Derived.Test.YtdibbdlpnfcmiaaRegS
import Derived.Laws.CopyOwn
namespace Lw
open Go Go.RowKit
def namedL (key count : Int) : List Int := littleL key 2 ++ littleL count 4
theorem namedL_byt (key count : Int) : Byt (namedL key count) := (littleL_byt _ _).app (littleL_byt _ _)
/-- the sum of what stands ahead of it, as two bytes -/
def sumL (key count : Int) (b : List Int) : List Int := littleL (hsum (namedL key count ++ b)) 2
theorem sumL_byt (key count : Int) (b : List Int) : Byt (sumL key count b) := littleL_byt _ _
def cellH (body : List Int) : List Int := (body.length : Int) :: (body ++ List.replicate (14 - body.length) 0)
theorem cellH_length {body : List Int} (h : body.length ≤ 14) : (cellH body).length = 15 := by simp [cellH]; omega
theorem cellH_byt {body : List Int} (h : body.length ≤ 14) (hb : Byt body) : Byt (cellH body) := by
  intro x hx
  simp only [cellH, List.mem_cons, List.mem_append, List.mem_replicate] at hx
  rcases hx with rfl | hx | ⟨_, rfl⟩
  · omega
  · exact hb x hx
  · omega
def cellL (key count : Int) (body : List Int) : List Int := cellH body ++ sumL key count (cellH body)
theorem splice_cell {bs : List Int} {n : Nat} (hl : bs.length = n) (hn : n ≤ 14) : splice (.int .u8 (n : Int) :: List.replicate 14 (Value.int .u8 0)) 1 (intsV .u8 bs) = intsV .u8 (cellH bs) := by
  subst hl
  unfold splice cellH
  simp only [List.take_succ_cons, List.take_zero, intsV_length, intsV, List.map_cons, List.map_append, List.map_replicate]
  rw [List.length_map, show 1 + bs.length = bs.length + 1 by omega, List.drop_succ_cons, List.drop_replicate]
  rfl
end Lw
set_option linter.unusedVariables false
set_option linter.unusedSimpArgs false
namespace Go.Proofs.Ytdibbdlpnfcmiaa
open Go.RowKit
set_option maxHeartbeats 1000000 in
theorem cell_named (key count : Int) (w : World) (k1 : 0 ≤ key) (k2 : key ≤ 65536) (c1 : 0 ≤ count) (c2 : count ≤ 4294967296) :
    Calls Try.prog 55 #[.int .i64 key, .int .i64 count] w (Lw.OwnRes 5 1 (Lw.intsV .u8 (Lw.namedL key count)) 6 w) := by
  have E : Hid (Lw.intsV .u8 (Lw.namedL key count) = Lw.intsV .u8 (Lw.littleL key 2) ++ Lw.intsV .u8 (Lw.littleL count 4)) := Lw.intsV_app _ _ _
  go_enter Try.func55, Try.ntmps55
  go_wp2_with fail
  refine (hash_Little key 2 _ k1 (by omega) (by omega)).mono ?_
  rintro e w1 ⟨A1, d1, rfl, own1, hb1⟩
  go_wp2_with fail
  refine (hash_Little count 4 _ c1 (by omega) (by omega)).mono ?_
  rintro e w2 ⟨A2, d2, rfl, own2, hb2⟩
  go_wp2_with fail
  refine (bytes_cat _ A1 A2 _ d1 d2 2 4 _ _ _ (by first | exact Lw.Rd.nil _ _ _ | exact Lw.Rd.lit (Lw.blk_new' (by simp) _ _) rfl rfl | exact Lw.Rd.lit (Lw.blk_alloc (Lw.blk_new' (by simp) _ _) _) rfl rfl) ((Lw.Rd.of_own (Lw.ownsBelow own1 (Nat.le_refl _) hb2)).alloc _) ((Lw.Rd.of_own own2).alloc _) (Lw.intsV_one _ _) (Lw.intsV_one _ _) (by omega)).mono ?_
  rintro e w3 ⟨A3, d3, rfl, own3, hb3⟩
  go_wp2_with fail
  go_ret
  rw [E.out]
  exact ⟨A3, d3, rfl, Lw.ownsBase own3 (by have := hb1.size; have := hb2.size; simp; omega), by (repeat (first | exact Below.refl _ _ | refine Lw.bt ?_ (by assumption) | refine Lw.balloc ?_ _ | refine Lw.bdrewN ?_ _ | refine Below.drew ?_ | refine Lw.bset ?_ (by first | (simp; done) | (simp; omega) | omega) _))⟩
set_option maxHeartbeats 1000000 in
theorem ref_named (key count : Int) (w : World) (k1 : 0 ≤ key) (k2 : key ≤ 65536) (c1 : 0 ≤ count) (c2 : count ≤ 4294967296) :
    Calls Try.prog 51 #[.int .i64 key, .int .i64 count] w (Lw.OwnRes 5 1 (Lw.intsV .u8 (Lw.namedL key count)) 6 w) := by
  have E : Hid (Lw.intsV .u8 (Lw.namedL key count) = Lw.intsV .u8 (Lw.littleL key 2) ++ Lw.intsV .u8 (Lw.littleL count 4)) := Lw.intsV_app _ _ _
  go_enter Try.func51, Try.ntmps51
  go_wp2_with fail
  refine (ref_little key 2 _ k1 (by omega) (by omega)).mono ?_
  rintro e w1 ⟨A1, d1, rfl, own1, hb1⟩
  go_wp2_with fail
  refine (ref_little count 4 _ c1 (by omega) (by omega)).mono ?_
  rintro e w2 ⟨A2, d2, rfl, own2, hb2⟩
  go_wp2_with (at_builtin; refine Lw.wpList_app elByte rfl _ _ rfl rfl (Lw.ownsBelow own1 (Nat.le_refl _) hb2) rfl (Lw.Rd.of_own own2) (Lw.intsV_one _ _) (by omega) (Lw.bt hb1 hb2) (Nat.le_refl _) (by have := hb1.size; have := hb2.size; omega) ?_; intro v3 w3 own3 hb3 _ _)
  go_ret
  obtain ⟨A3, d3, rfl, _⟩ := Lw.ownsForm own3
  rw [E.out]
  exact ⟨A3, d3, by simp, by simpa using own3, hb3⟩
set_option maxHeartbeats 1000000 in
theorem cell_sum (key count : Int) (A : Option Addr) (n c : Nat) (bs : List Int) (w : World) (R : Lw.Rd w 1 A n (Lw.intsV .u8 bs)) (hy : Lw.Byt bs) (hn : n ≤ 4096) (k1 : 0 ≤ key) (k2 : key ≤ 65536) (c1 : 0 ≤ count) (c2 : count ≤ 4294967296) :
    Calls Try.prog 50 #[.int .i64 key, .int .i64 count, .slice A n c] w (Lw.OwnRes 5 1 (Lw.intsV .u8 (Lw.sumL key count bs)) 2 w) := by
  have C := fun (A : Option Addr) (c : Nat) (w : World) R => hash_Of A (6 + n) c (Lw.namedL key count ++ bs) w R ((Lw.namedL_byt _ _).app hy) (by omega)
  rw [Lw.intsV_app] at C
  obtain ⟨s1, s2⟩ := Lw.hsum_bd (Lw.namedL key count ++ bs)
  have E : Hid (Lw.sumL key count bs = Lw.littleL (Lw.hsum (Lw.namedL key count ++ bs)) 2) := rfl
  have C := Lib.hid C
  have R := Lib.hid R
  generalize Lw.hsum (Lw.namedL key count ++ bs) = s at *
  go_enter Try.func50, Try.ntmps50
  go_wp2_with fail
  refine (cell_named key count _ k1 k2 c1 c2).mono ?_
  rintro e w1 ⟨A1, d1, rfl, own1, hb1⟩
  go_wp2_with fail
  refine (bytes_cat _ A1 A _ d1 c 6 n _ _ _ (by first | exact Lw.Rd.nil _ _ _ | exact Lw.Rd.lit (Lw.blk_new' (by simp) _ _) rfl rfl | exact Lw.Rd.lit (Lw.blk_alloc (Lw.blk_new' (by simp) _ _) _) rfl rfl) ((Lw.Rd.of_own own1).alloc _) ((R.out.below (Nat.le_refl _) hb1).alloc _) (Lw.intsV_one _ _) (Lw.intsV_one _ _) (by omega)).mono ?_
  rintro e w3 ⟨A3, d3, rfl, own3, hb3⟩
  go_wp2_with fail
  refine (C.out _ _ _ (Lw.Rd.of_own own3)).mono ?_
  rintro e w4 ⟨rfl, hb4⟩
  go_wp2_with fail
  refine (hash_Little s 2 _ s1 (by omega) (by omega)).mono ?_
  rintro e w5 ⟨A5, d5, rfl, own5, hb5⟩
  go_wp2_with fail
  go_ret
  rw [E.out]
  exact ⟨A5, d5, rfl, Lw.ownsBase own5 (by have := hb1.size; have := hb3.size; have := hb4.size; simp at *; omega), by (repeat (first | exact Below.refl _ _ | refine Lw.bt ?_ (by assumption) | refine Lw.balloc ?_ _ | refine Lw.bdrewN ?_ _ | refine Below.drew ?_ | refine Lw.bset ?_ (by first | (simp; done) | (simp; omega) | omega) _))⟩
set_option maxRecDepth 20000 in
set_option maxHeartbeats 2000000 in
theorem cell_Make_ok (key count : Int) (A : Option Addr) (n c : Nat) (bs : List Int) (w : World) (R : Lw.Rd w 1 A n (Lw.intsV .u8 bs)) (hy : Lw.Byt bs) (hn : n ≤ 14) (k1 : 0 ≤ key) (k2 : key < 65536) (c1 : 0 ≤ count) (c2 : count ≤ 2147483648) :
    Calls Try.prog 20 #[.int .i64 key, .int .i64 count, .slice A n c] w fun e w' => ∃ A' c', e = .returned (.tuple #[.slice A' 17 c', .int .i64 0]) ∧ w'.ownsRow w.heap.size 5 1 (.slice A' 17 c') 17 (Lw.intsV .u8 (Lw.cellL key count bs)) ∧ Below w.heap.size w w' := by
  have k3 : ¬ key < 0 := by omega
  have k4 : ¬ 65536 ≤ key := by omega
  have c3 : ¬ count < 0 := by omega
  have c4 : ¬ 2147483648 < count := by omega
  have n1 : ¬ (14 : Int) < (n : Int) := by omega
  have R := Lib.hid R
  have M : ∀ w : World, (Instr.makeSlice 22 (.int .i64 15) (.int .i64 15)).run Try.prog w = .ok (.slice (some ⟨w.heap.size, 0, none⟩) 15 15) (w.alloc (.cells (List.replicate 15 (Value.int .u8 0)).toArray 5)) := fun w => Lw.run_mk elByte rfl .i64 .i64 15 (by decide) w
  obtain ⟨Z, hZ⟩ : ∃ Z, (List.replicate 15 (Value.int .u8 0)).toArray = Z := ⟨_, rfl⟩
  rw [hZ] at M
  have z0 : Z[0]? = some (.int .u8 0) := by rw [← hZ]; rfl
  have HZ := Lib.hid hZ
  have HZ2 : Hid (Z.setIfInBounds 0 (.int .u8 (n : Int)) = (.int .u8 (n : Int) :: List.replicate 14 (Value.int .u8 0)).toArray) := by show _ = _; rw [← hZ]; simp [List.replicate]
  clear hZ
  have l1 : bs.length = n := by have := R.out.1; simpa [Lw.intsV] using this
  have L := Lib.hid l1
  have hy2 := Lw.cellH_byt (by rw [l1]; exact hn) hy
  have S := Lib.hid (fun (A : Option Addr) (c : Nat) (w : World) R => cell_sum key count A 15 c (Lw.cellH bs) w R hy2 (by decide) k1 (by omega) c1 (by omega))
  have E : Hid (Lw.intsV .u8 (Lw.cellL key count bs) = Lw.intsV .u8 (Lw.cellH bs) ++ Lw.intsV .u8 (Lw.sumL key count (Lw.cellH bs))) := Lw.intsV_app _ _ _
  clear l1
  have P1 : 0 < (Lw.intsV .u8 bs).length → ∃ ad, A = some ad ∧ ∀ j v, (Lw.intsV .u8 bs)[j]? = some v → (w.alloc (.cells (Z.setIfInBounds 0 (.int .u8 (n : Int))) 5)).cell? (ad.add j) = some v := by
    intro hp
    obtain ⟨ad, e, _, h3⟩ := (R.out.alloc (.cells (Z.setIfInBounds 0 (.int .u8 (n : Int))) 5)).2 (by rw [Lw.intsV_length, L.out] at hp; exact hp)
    exact ⟨ad, e, h3⟩
  have P1 := Lib.hid P1
  go_enter Try.func20, Try.ntmps20
  go_wp2_with (first | (go_at_call 49; go_in) | (with_reducible refine wpList_copy_splice rfl (.tmp 22) (.tmp 23) 22 22 rfl 5 Try.underlying22 (by kernel_rfl) (some ⟨w.heap.size, 1, none⟩) A 14 14 n c rfl rfl w.heap.size 1 (.int .u8 (n : Int) :: List.replicate 14 (.int .u8 0)) 5 (by rw [HZ2.out]; exact heap_alloc_new _ _) (Lw.intsV .u8 bs) (by rw [Lw.intsV_length, L.out]; exact (Nat.min_eq_left hn).symm) (fun hp => ⟨rfl, P1.out hp⟩) (by rw [Lw.intsV_length, L.out, List.length_cons, List.length_replicate]; omega) (Lw.intsV_one _ _) w.heap.size w (Lw.balloc (Below.refl _ _) _) (Nat.le_refl _) ?_; intro w1 hg1 hb1; rw [Lw.splice_cell L.out hn] at hg1))
  have own1 : w1.ownsRow w.heap.size 5 1 (.slice (some ⟨w.heap.size, 0, none⟩) 15 15) 15 (Lw.intsV .u8 (Lw.cellH bs)) := Lw.own_blk hg1 (by rw [Lw.intsV_length, Lw.cellH_length (by rw [L.out]; exact hn)]) (by decide) (Nat.le_refl _)
  refine (S.out _ _ _ (Lw.Rd.of_own own1)).mono ?_
  rintro e w2 ⟨A2, c2, rfl, own2, hb2⟩
  go_wp2_with (at_builtin; refine Lw.wpList_app elByte rfl _ _ rfl rfl (Lw.ownsBelow own1 (Nat.le_refl _) hb2) rfl (Lw.Rd.of_own own2) (Lw.intsV_one _ _) (by omega) (Lw.bt hb1 hb2) (Nat.le_refl _) (by have := hb1.size; have := hb2.size; omega) ?_; intro v3 w3 own3 hb3 _ _)
  go_ret2
  obtain ⟨A3, c3, rfl, _⟩ := Lw.ownsForm own3
  rw [E.out]
  exact ⟨A3, c3, by simp, by simpa using own3, hb3⟩
end Go.Proofs.Ytdibbdlpnfcmiaa
