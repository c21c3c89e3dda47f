/-
  cell.Layer and the reference's Layer.
  The reference's Layer.
  cell.all: are all bytes of a row zero?
  cell.Read: the four ways.
  The reference's ReadCell: the four ways; what both test.
  Rows of the call's own beside others: an append onto one leaves those of other elements.
  A region that draws, in a round of a range over a function: it may be walked by the laws for regions outside of rounds, if its operations are plain.
  A region that draws, in a round of a range over a function of the wide fence, its calls and all: walked by the laws for regions outside of rounds.
  An argument that is a row of integers, in the words of the walks.
  An argument that is a slice (of numbers, of truths, of structs of such, of slices): what its memory holds, in one predicate.
  A table: a slice of rows of numbers that came in.
  Tables: is a row bad? The least and the greatest of a row.
-/
import Derived.Test.YtkjcpjbdckbjcaaKTopRight1
import Derived.TacticsIn
import Derived.OrdersIn
import Derived.RangeFuncCalls
import Derived.Deep.Slices
import Derived.Deep.Fields
import Derived.ChangeSame
import Derived.ChangeShapes
namespace Lw
open Go Go.RowKit
/-- what is laid on byte i -/
def layB (key count : Int) (i : Nat) : Int := hsum (namedL key count ++ [(i : Int), 3]) % 256
def layL (key count : Int) (bs : List Int) : List Int := bs.mapIdx fun i b => xorI b (layB key count i)
theorem layB_bd (key count : Int) (i : Nat) : 0 ≤ layB key count i ∧ layB key count i < 256 := by unfold layB; omega
theorem xorI_byte {a b : Int} (a0 : 0 ≤ a) (a1 : a < 256) (b0 : 0 ≤ b) (b1 : b < 256) : 0 ≤ xorI a b ∧ xorI a b < 256 := by
  unfold xorI
  have : a.toNat ^^^ b.toNat < 2 ^ 8 := Nat.xor_lt_two_pow (by omega) (by omega)
  omega
theorem layL_length (key count : Int) (bs : List Int) : (layL key count bs).length = bs.length := by simp [layL]
theorem layL_get {key count : Int} {bs : List Int} {i : Nat} (h : i < bs.length) : (layL key count bs)[i]'(by rw [layL_length]; exact h) = xorI bs[i] (layB key count i) := by simp [layL]
theorem layL_byt {key count : Int} {bs : List Int} (h : Byt bs) : Byt (layL key count bs) := by
  intro x hx
  obtain ⟨i, hi, rfl⟩ := List.getElem_of_mem hx
  have hl : i < bs.length := by rw [layL_length] at hi; exact hi
  rw [layL_get hl]
  have h1 := h _ (List.getElem_mem hl)
  have h2 := layB_bd key count i
  exact xorI_byte h1.1 h1.2 h2.1 h2.2
/-- the first k bytes with what is laid on them -/
def mixL (key count : Int) (bs : List Int) (k : Nat) : List Int := (layL key count bs).take k ++ bs.drop k
theorem mixL_get {key count : Int} {bs : List Int} {k : Nat} (h : k < bs.length) : (intsV .u8 (mixL key count bs k))[k]? = some (.int .u8 bs[k]) := by
  have e : (mixL key count bs k)[k]? = some bs[k] := by
    unfold mixL
    rw [List.getElem?_append_right (by rw [List.length_take]; omega), List.length_take, layL_length, Nat.min_eq_left (by omega), Nat.sub_self, List.getElem?_drop]
    simp [h]
  simp [intsV, e]
theorem mixL_next {key count : Int} {bs : List Int} {k : Nat} (h : k < bs.length) : intsV .u8 (mixL key count bs (k + 1)) = (intsV .u8 (mixL key count bs k)).set k (.int .u8 (xorI bs[k] (layB key count k))) := by
  unfold intsV
  rw [← List.map_set]
  congr 1
  unfold mixL
  rw [List.set_append_right _ _ (by rw [List.length_take]; omega), List.length_take, layL_length, Nat.min_eq_left (by omega), Nat.sub_self, List.drop_eq_getElem_cons h, List.set_cons_zero]
  rw [List.take_succ_eq_append_getElem (by rw [layL_length]; exact h), layL_get h]
  simp
theorem mixL_end {key count : Int} {bs : List Int} {n : Nat} (h : bs.length = n) : mixL key count bs n = layL key count bs := by
  unfold mixL
  rw [List.take_of_length_le (by rw [layL_length]; omega), List.drop_of_length_le (by omega)]
  simp
end Lw
set_option linter.unusedVariables false
set_option linter.unusedSimpArgs false
namespace Go.Proofs.Ytkjcpjbdckbjcaa
open Go.RowKit
set_option maxHeartbeats 4000000 in
theorem cell_Layer_ok (key count : Int) (A : Option Addr) (c : Nat) (bs : List Int) (w : World) (R : Lw.Rd w 1 A 17 (Lw.intsV .u8 bs)) (hy : Lw.Byt bs) (k1 : 0 ≤ key) (k2 : key < 65536) (c1 : 0 ≤ count) (c2 : count ≤ 2147483648) :
    Calls Try.prog 55 #[.int .i64 key, .int .i64 count, .slice A 17 c] w fun e w' => ∃ A' c', e = .returned (.tuple #[.slice A' 17 c', .int .i64 0]) ∧ w'.ownsRow w.heap.size 5 1 (.slice A' 17 c') 17 (Lw.intsV .u8 (Lw.layL key count bs)) ∧ Below w.heap.size w w' := by
  have k3 : ¬ key < 0 := by omega
  have k4 : ¬ 65536 ≤ key := by omega
  have c3 : ¬ count < 0 := by omega
  have c4 : ¬ 2147483648 < count := by omega
  have R := Lib.hid R
  have l1 : bs.length = 17 := by have := R.out.1; simpa [Lw.intsV] using this
  have L := Lib.hid l1
  clear l1
  go_enter Try.func55, Try.ntmps55
  go_wp2_with (first | (go_at_call 52; go_in) | (go_at_call 68; (with_reducible refine (cell_named key count _ k1 (by omega) c1 (by omega)).mono ?_); rintro e w1 ⟨A1, d1, rfl, own1, hb1⟩) | (go_at_call 59; (with_reducible refine (bytes_clone A 17 c _ _ (R.out.below (Nat.le_refl _) hb1) (Lw.intsV_one _ _) (by decide)).mono ?_); rintro e w2 ⟨A2, d2, rfl, own2, hb2⟩))
  have R1n := Lib.hid (Lw.Rd.of_own own1)
  obtain ⟨g, rfl⟩ : ∃ g, A2 = some ⟨g, 0, none⟩ := by
    rcases own2.2 with ⟨h0, _⟩ | ⟨g, cap, cur, hv, _⟩
    · cases h0
    · injection hv with e1; exact ⟨g, e1⟩
  have own2 : w2.ownsRow w1.heap.size 5 1 (.slice (some ⟨g, 0, none⟩) 17 d2) 17 (Lw.intsV .u8 (Lw.mixL key count bs 0)) := own2
  have OWN2 := Lib.hid own2
  clear own1 own2
  go_loopw [10, 24] (fun x i wr => ∃ k : Nat, i = .int .i64 (k : Int) ∧ k ≤ 17 ∧ wr.ownsRow w1.heap.size 5 1 (.slice (some ⟨g, 0, none⟩) 17 d2) 17 (Lw.intsV .u8 (Lw.mixL key count bs k)) ∧ Below w1.heap.size w1 wr) (fun _ i _ => 17 - (intOf i).toNat)
  case atStart => exact ⟨0, rfl, by omega, OWN2.out, hb2⟩
  case round =>
    clear OWN2 hb2
    obtain ⟨k, rfl, kk, own, hB⟩ := hrel
    have hsz := hB.size
    by_cases hlt : k < 17
    · have hl : k < bs.length := by rw [L.out]; exact hlt
      have NX := Lib.hid (Lw.mixL_next (key := key) (count := count) hl)
      obtain ⟨c0, f0, hg0, hgl⟩ := Lw.own_cell own (Lw.mixL_get (key := key) (count := count) hl)
      have hob := hy _ (List.getElem_mem hl)
      obtain ⟨ob1, ob2⟩ := hob
      obtain ⟨s1, s2⟩ := Lw.hsum_bd (Lw.namedL key count ++ [(k : Int), 3])
      have HX : Hid (Go.bits .xor .u8 bs[k] (Lw.hsum (Lw.namedL key count ++ [(k : Int), 3]) % 256) = Lw.xorI bs[k] (Lw.layB key count k)) := Go.u8_xor _ _ ob1 ob2 (by omega) (by omega)
      have C := fun (A : Option Addr) (c : Nat) (w : World) R => hash_Of A (6 + 2) c (Lw.namedL key count ++ [(k : Int), 3]) w R ((Lw.namedL_byt _ _).app (by intro z hz; simp at hz; omega)) (by omega)
      rw [Lw.intsV_app] at C
      have C := Lib.hid C
      have N1 : Hid (Lw.Rd w1 1 A1 6 (Lw.intsV .u8 (Lw.namedL key count))) := R1n
      have OWN := Lib.hid own
      clear own
      obtain ⟨new, hnew⟩ : ∃ z, Lw.xorI bs[k] (Lw.layB key count k) = z := ⟨_, rfl⟩
      rw [hnew] at HX NX
      obtain ⟨old, hold⟩ : ∃ z, bs[k] = z := ⟨_, rfl⟩
      rw [hold] at c0 HX ob1 ob2
      generalize Lw.hsum (Lw.namedL key count ++ [(k : Int), 3]) = s at *
      clear hnew hold
      have i0 : (0 : Int) ≤ (k : Int) := by omega
      have i1 : (k : Int) < 17 := by omega
      have km : (k : Int) % 256 = k := by omega
      have km := Lib.hid km
      have kw : IntKind.u8.wrap (k : Int) = k := by rw [IntKind.wrap_u8]; omega
      have sw : IntKind.u8.wrap s = s % 256 := by rw [IntKind.wrap_u8]
      have kw := Lib.hid kw
      have sw := Lib.hid sw
      go_wp2
      have HX1 := HX.out
      have kw1 := kw.out
      have sw1 := sw.out
      refine wp_region_held_drew (S := fun _ => True) (by kernel_rfl) trivial (fun hHeld => ?_)
      (refine Lw.take1 (i := 0) (v := ?_) rfl (by kernel_rfl) (by kernel_rfl) (by kernel_rfl) (fun _ _ _ h => h) (Or.inl ⟨by rfl, ?_⟩) (by assumption) ?_; rotate_left 1; (focus (intro wS hSw; (try dsimp only at hSw); go_simp <;> with_reducible rfl)); (try simp only [Act.put, List.setIfInBounds_toArray, List.set_cons_zero, List.set_cons_succ]))
      (refine Lw.take1 (i := 1) (v := ?_) rfl (by kernel_rfl) (by kernel_rfl) (by kernel_rfl) (fun _ _ _ h => h) (Or.inl ⟨by rfl, ?_⟩) (by assumption) ?_; rotate_left 1; (focus (intro wS hSw; (try dsimp only at hSw); go_simp <;> with_reducible rfl)); (try simp only [Act.put, List.setIfInBounds_toArray, List.set_cons_zero, List.set_cons_succ]))
      (refine Lw.take1 (i := 2) (v := ?_) rfl (by kernel_rfl) (by kernel_rfl) (by kernel_rfl) (fun _ _ _ h => h) (Or.inl ⟨by rfl, ?_⟩) (by assumption) ?_; rotate_left 1; (focus (intro wS hSw; (try dsimp only at hSw); go_simp <;> with_reducible rfl)); (try simp only [Act.put, List.setIfInBounds_toArray, List.set_cons_zero, List.set_cons_succ]))
      (refine Lw.take1 (i := 4) (v := ?_) rfl (by kernel_rfl) (by kernel_rfl) (by kernel_rfl) (fun _ _ _ h => h) (Or.inl ⟨by rfl, ?_⟩) (by assumption) ?_; rotate_left 1; (focus (intro wS hSw; (try dsimp only at hSw); go_simp <;> with_reducible rfl)); (try simp only [Act.put, List.setIfInBounds_toArray, List.set_cons_zero, List.set_cons_succ]))
      (refine Lw.take1 (i := 5) (v := ?_) rfl (by kernel_rfl) (by kernel_rfl) (by kernel_rfl) (fun _ _ _ h => h) (Or.inl ⟨by rfl, ?_⟩) (by assumption) ?_; rotate_left 1; (focus (intro wS hSw; (try dsimp only at hSw); go_simp <;> with_reducible rfl)); (try simp only [Act.put, List.setIfInBounds_toArray, List.set_cons_zero, List.set_cons_succ]))
      (refine Lw.take1 (i := 6) (v := ?_) rfl (by kernel_rfl) (by kernel_rfl) (by kernel_rfl) (fun _ _ _ h => h) (Or.inl ⟨by rfl, ?_⟩) (by assumption) ?_; rotate_left 1; (focus (intro wS hSw; (try dsimp only at hSw); go_simp <;> with_reducible rfl)); (try simp only [Act.put, List.setIfInBounds_toArray, List.set_cons_zero, List.set_cons_succ]))
      refine wpAnyH_ready (rs := [3, 7]) (by kernel_rfl) (by simp) ?_
      refine Lw.cons1 (i := 3) rfl (fun K hK => ?_) ?_
      · skip
        go_simp
        refine hK.out _ _ trivial (fun _ => ?_)
        clear hK K
        (try simp only [Act.put, List.setIfInBounds_toArray, List.set_cons_zero, List.set_cons_succ])
        refine wpAnyH_ready (rs := [7]) (by kernel_rfl) (by simp) ?_
        refine Lw.cons1 (i := 7) rfl (fun K hK => ?_) AllReadyH.nil
        go_simp
        refine hK.out _ _ trivial (fun _ => ?_)
        clear hK K
        (try simp only [Act.put, List.setIfInBounds_toArray, List.set_cons_zero, List.set_cons_succ])
        refine wpAnyH_ready (rs := [8]) (by kernel_rfl) (by simp) ?_
        refine Lw.cons1 (i := 8) rfl (fun K hK => ?_) AllReadyH.nil
        go_simp
        refine hK.out _ _ trivial (fun _ => ?_)
        clear hK K
        (try simp only [Act.put, List.setIfInBounds_toArray, List.set_cons_zero, List.set_cons_succ])
        refine wpAnyH_ready (rs := [9]) (by kernel_rfl) (by simp) ?_
        refine Lw.cons1 (i := 9) rfl (fun K hK => ?_) AllReadyH.nil
        go_simp
        go_at_call 67
        (with_reducible refine (bytes_cat _ A1 (some ⟨wr.heap.size, 0, none⟩) _ d1 2 6 2 (Lw.intsV .u8 (Lw.namedL key count)) (Lw.intsV .u8 [(k : Int), 3]) _ (by exact Lw.Rd.lit (Lw.blk_drew (Lw.blk_new' (by simp) _ _)) rfl rfl) (by exact N1.out.below (Nat.le_refl _) (Below.drew (Lw.balloc (Lw.balloc hB _) _))) (by exact Lw.Rd.lit (Lw.blk_drew (Lw.blk_alloc (Lw.blk_new' (by simp) _ _) _)) rfl rfl) (Lw.intsV_one _ _) (Lw.intsV_one _ _) (by decide)).mono ?_); rintro e w3 ⟨A3, d3, rfl, own3, hb3⟩
        have hB3 : Below wr.heap.size wr w3 := Lw.bt (Below.drew (Lw.balloc (Lw.balloc (Below.refl _ _) _) _)) hb3
        have c3 : w3.cell? ⟨g, k, none⟩ = some (.int .u8 old) := (hB3.cell (p := ⟨g, k, none⟩) hgl).trans c0
        refine hK.out _ _ trivial (fun _ => ?_)
        clear hK K
        (try simp only [Act.put, List.setIfInBounds_toArray, List.set_cons_zero, List.set_cons_succ])
        refine wpAnyH_ready (rs := [10]) (by kernel_rfl) (by simp) ?_
        refine Lw.cons1 (i := 10) rfl (fun K hK => ?_) AllReadyH.nil
        go_simp
        go_at_call 64
        (with_reducible refine (C.out _ _ _ (Lw.Rd.of_own own3)).mono ?_); rintro e w4 ⟨rfl, hb4⟩
        have hB4 : Below wr.heap.size wr w4 := Lw.bt hB3 hb4
        have c4 : w4.cell? ⟨g, k, none⟩ = some (.int .u8 old) := (hB4.cell (p := ⟨g, k, none⟩) hgl).trans c0
        have f4 : w4.frozen? ⟨g, k, none⟩ = false := (hB4.frozen (p := ⟨g, k, none⟩) hgl).trans f0
        refine hK.out _ _ trivial (fun _ => ?_)
        clear hK K
        (try simp only [Act.put, List.setIfInBounds_toArray, List.set_cons_zero, List.set_cons_succ])
        (refine Lw.take1 (i := 11) (v := ?_) rfl (by kernel_rfl) (by kernel_rfl) (by kernel_rfl) (fun _ _ _ h => h) (Or.inl ⟨by rfl, ?_⟩) (by assumption) ?_; rotate_left 1; (focus (intro wS hSw; (try dsimp only at hSw); go_simp <;> with_reducible rfl)); (try simp only [Act.put, List.setIfInBounds_toArray, List.set_cons_zero, List.set_cons_succ]))
        (refine Lw.take1 (i := 12) (v := ?_) rfl (by kernel_rfl) (by kernel_rfl) (by kernel_rfl) (fun _ _ _ h => h) (Or.inl ⟨by rfl, ?_⟩) (by assumption) ?_; rotate_left 1; (focus (intro wS hSw; (try dsimp only at hSw); go_simp <;> with_reducible rfl)); (try simp only [Act.put, List.setIfInBounds_toArray, List.set_cons_zero, List.set_cons_succ]))
        (refine Lw.take1 (i := 13) (v := ?_) rfl (by kernel_rfl) (by kernel_rfl) (by kernel_rfl) (fun _ _ _ h => h) (Or.inl ⟨by rfl, ?_⟩) (by assumption) ?_; rotate_left 1; (focus (intro wS hSw; (try dsimp only at hSw); go_simp <;> with_reducible rfl)); (try simp only [Act.put, List.setIfInBounds_toArray, List.set_cons_zero, List.set_cons_succ]))
        refine wpAnyH_ready (rs := [14]) (by kernel_rfl) (by simp) ?_
        refine Lw.cons1 (i := 14) rfl (fun K hK => ?_) AllReadyH.nil
        go_simp
        refine hK.out _ _ trivial (fun _ => ?_)
        clear hK K
        (try simp only [Act.put, List.setIfInBounds_toArray, List.set_cons_zero, List.set_cons_succ])
        refine wpAnyH_done (by kernel_rfl) ?_ _
        go_wp2
        go_roundw
        case rel => exact ⟨k + 1, by go_num, by omega, by rw [NX.out]; exact Lw.own_set (Lw.ownsBelow OWN.out (Nat.le_refl _) hB4) hlt, Lw.bset (Lw.bt hB hB4) hg0 _⟩
        case measure => simp [intOf]; omega
      · refine Lw.cons1 (i := 7) rfl (fun K hK => ?_) AllReadyH.nil
        go_simp
        refine hK.out _ _ trivial (fun _ => ?_)
        clear hK K
        (try simp only [Act.put, List.setIfInBounds_toArray, List.set_cons_zero, List.set_cons_succ])
        refine wpAnyH_ready (rs := [3, 8]) (by kernel_rfl) (by simp) ?_
        refine Lw.cons1 (i := 3) rfl (fun K hK => ?_) ?_
        · skip
          go_simp
          refine hK.out _ _ trivial (fun _ => ?_)
          clear hK K
          (try simp only [Act.put, List.setIfInBounds_toArray, List.set_cons_zero, List.set_cons_succ])
          refine wpAnyH_ready (rs := [8]) (by kernel_rfl) (by simp) ?_
          refine Lw.cons1 (i := 8) rfl (fun K hK => ?_) AllReadyH.nil
          go_simp
          refine hK.out _ _ trivial (fun _ => ?_)
          clear hK K
          (try simp only [Act.put, List.setIfInBounds_toArray, List.set_cons_zero, List.set_cons_succ])
          refine wpAnyH_ready (rs := [9]) (by kernel_rfl) (by simp) ?_
          refine Lw.cons1 (i := 9) rfl (fun K hK => ?_) AllReadyH.nil
          go_simp
          go_at_call 67
          (with_reducible refine (bytes_cat _ A1 (some ⟨wr.heap.size, 0, none⟩) _ d1 2 6 2 (Lw.intsV .u8 (Lw.namedL key count)) (Lw.intsV .u8 [(k : Int), 3]) _ (by exact Lw.Rd.lit (Lw.blk_drew (Lw.blk_new' (by simp) _ _)) rfl rfl) (by exact N1.out.below (Nat.le_refl _) (Below.drew (Lw.balloc (Lw.balloc hB _) _))) (by exact Lw.Rd.lit (Lw.blk_drew (Lw.blk_alloc (Lw.blk_new' (by simp) _ _) _)) rfl rfl) (Lw.intsV_one _ _) (Lw.intsV_one _ _) (by decide)).mono ?_); rintro e w3 ⟨A3, d3, rfl, own3, hb3⟩
          have hB3 : Below wr.heap.size wr w3 := Lw.bt (Below.drew (Lw.balloc (Lw.balloc (Below.refl _ _) _) _)) hb3
          have c3 : w3.cell? ⟨g, k, none⟩ = some (.int .u8 old) := (hB3.cell (p := ⟨g, k, none⟩) hgl).trans c0
          refine hK.out _ _ trivial (fun _ => ?_)
          clear hK K
          (try simp only [Act.put, List.setIfInBounds_toArray, List.set_cons_zero, List.set_cons_succ])
          refine wpAnyH_ready (rs := [10]) (by kernel_rfl) (by simp) ?_
          refine Lw.cons1 (i := 10) rfl (fun K hK => ?_) AllReadyH.nil
          go_simp
          go_at_call 64
          (with_reducible refine (C.out _ _ _ (Lw.Rd.of_own own3)).mono ?_); rintro e w4 ⟨rfl, hb4⟩
          have hB4 : Below wr.heap.size wr w4 := Lw.bt hB3 hb4
          have c4 : w4.cell? ⟨g, k, none⟩ = some (.int .u8 old) := (hB4.cell (p := ⟨g, k, none⟩) hgl).trans c0
          have f4 : w4.frozen? ⟨g, k, none⟩ = false := (hB4.frozen (p := ⟨g, k, none⟩) hgl).trans f0
          refine hK.out _ _ trivial (fun _ => ?_)
          clear hK K
          (try simp only [Act.put, List.setIfInBounds_toArray, List.set_cons_zero, List.set_cons_succ])
          (refine Lw.take1 (i := 11) (v := ?_) rfl (by kernel_rfl) (by kernel_rfl) (by kernel_rfl) (fun _ _ _ h => h) (Or.inl ⟨by rfl, ?_⟩) (by assumption) ?_; rotate_left 1; (focus (intro wS hSw; (try dsimp only at hSw); go_simp <;> with_reducible rfl)); (try simp only [Act.put, List.setIfInBounds_toArray, List.set_cons_zero, List.set_cons_succ]))
          (refine Lw.take1 (i := 12) (v := ?_) rfl (by kernel_rfl) (by kernel_rfl) (by kernel_rfl) (fun _ _ _ h => h) (Or.inl ⟨by rfl, ?_⟩) (by assumption) ?_; rotate_left 1; (focus (intro wS hSw; (try dsimp only at hSw); go_simp <;> with_reducible rfl)); (try simp only [Act.put, List.setIfInBounds_toArray, List.set_cons_zero, List.set_cons_succ]))
          (refine Lw.take1 (i := 13) (v := ?_) rfl (by kernel_rfl) (by kernel_rfl) (by kernel_rfl) (fun _ _ _ h => h) (Or.inl ⟨by rfl, ?_⟩) (by assumption) ?_; rotate_left 1; (focus (intro wS hSw; (try dsimp only at hSw); go_simp <;> with_reducible rfl)); (try simp only [Act.put, List.setIfInBounds_toArray, List.set_cons_zero, List.set_cons_succ]))
          refine wpAnyH_ready (rs := [14]) (by kernel_rfl) (by simp) ?_
          refine Lw.cons1 (i := 14) rfl (fun K hK => ?_) AllReadyH.nil
          go_simp
          refine hK.out _ _ trivial (fun _ => ?_)
          clear hK K
          (try simp only [Act.put, List.setIfInBounds_toArray, List.set_cons_zero, List.set_cons_succ])
          refine wpAnyH_done (by kernel_rfl) ?_ _
          go_wp2
          go_roundw
          case rel => exact ⟨k + 1, by go_num, by omega, by rw [NX.out]; exact Lw.own_set (Lw.ownsBelow OWN.out (Nat.le_refl _) hB4) hlt, Lw.bset (Lw.bt hB hB4) hg0 _⟩
          case measure => simp [intOf]; omega
        · refine Lw.cons1 (i := 8) rfl (fun K hK => ?_) AllReadyH.nil
          go_simp
          refine hK.out _ _ trivial (fun _ => ?_)
          clear hK K
          (try simp only [Act.put, List.setIfInBounds_toArray, List.set_cons_zero, List.set_cons_succ])
          refine wpAnyH_ready (rs := [3, 9]) (by kernel_rfl) (by simp) ?_
          refine Lw.cons1 (i := 3) rfl (fun K hK => ?_) ?_
          · skip
            go_simp
            refine hK.out _ _ trivial (fun _ => ?_)
            clear hK K
            (try simp only [Act.put, List.setIfInBounds_toArray, List.set_cons_zero, List.set_cons_succ])
            refine wpAnyH_ready (rs := [9]) (by kernel_rfl) (by simp) ?_
            refine Lw.cons1 (i := 9) rfl (fun K hK => ?_) AllReadyH.nil
            go_simp
            go_at_call 67
            (with_reducible refine (bytes_cat _ A1 (some ⟨wr.heap.size, 0, none⟩) _ d1 2 6 2 (Lw.intsV .u8 (Lw.namedL key count)) (Lw.intsV .u8 [(k : Int), 3]) _ (by exact Lw.Rd.lit (Lw.blk_drew (Lw.blk_new' (by simp) _ _)) rfl rfl) (by exact N1.out.below (Nat.le_refl _) (Below.drew (Lw.balloc (Lw.balloc hB _) _))) (by exact Lw.Rd.lit (Lw.blk_drew (Lw.blk_alloc (Lw.blk_new' (by simp) _ _) _)) rfl rfl) (Lw.intsV_one _ _) (Lw.intsV_one _ _) (by decide)).mono ?_); rintro e w3 ⟨A3, d3, rfl, own3, hb3⟩
            have hB3 : Below wr.heap.size wr w3 := Lw.bt (Below.drew (Lw.balloc (Lw.balloc (Below.refl _ _) _) _)) hb3
            have c3 : w3.cell? ⟨g, k, none⟩ = some (.int .u8 old) := (hB3.cell (p := ⟨g, k, none⟩) hgl).trans c0
            refine hK.out _ _ trivial (fun _ => ?_)
            clear hK K
            (try simp only [Act.put, List.setIfInBounds_toArray, List.set_cons_zero, List.set_cons_succ])
            refine wpAnyH_ready (rs := [10]) (by kernel_rfl) (by simp) ?_
            refine Lw.cons1 (i := 10) rfl (fun K hK => ?_) AllReadyH.nil
            go_simp
            go_at_call 64
            (with_reducible refine (C.out _ _ _ (Lw.Rd.of_own own3)).mono ?_); rintro e w4 ⟨rfl, hb4⟩
            have hB4 : Below wr.heap.size wr w4 := Lw.bt hB3 hb4
            have c4 : w4.cell? ⟨g, k, none⟩ = some (.int .u8 old) := (hB4.cell (p := ⟨g, k, none⟩) hgl).trans c0
            have f4 : w4.frozen? ⟨g, k, none⟩ = false := (hB4.frozen (p := ⟨g, k, none⟩) hgl).trans f0
            refine hK.out _ _ trivial (fun _ => ?_)
            clear hK K
            (try simp only [Act.put, List.setIfInBounds_toArray, List.set_cons_zero, List.set_cons_succ])
            (refine Lw.take1 (i := 11) (v := ?_) rfl (by kernel_rfl) (by kernel_rfl) (by kernel_rfl) (fun _ _ _ h => h) (Or.inl ⟨by rfl, ?_⟩) (by assumption) ?_; rotate_left 1; (focus (intro wS hSw; (try dsimp only at hSw); go_simp <;> with_reducible rfl)); (try simp only [Act.put, List.setIfInBounds_toArray, List.set_cons_zero, List.set_cons_succ]))
            (refine Lw.take1 (i := 12) (v := ?_) rfl (by kernel_rfl) (by kernel_rfl) (by kernel_rfl) (fun _ _ _ h => h) (Or.inl ⟨by rfl, ?_⟩) (by assumption) ?_; rotate_left 1; (focus (intro wS hSw; (try dsimp only at hSw); go_simp <;> with_reducible rfl)); (try simp only [Act.put, List.setIfInBounds_toArray, List.set_cons_zero, List.set_cons_succ]))
            (refine Lw.take1 (i := 13) (v := ?_) rfl (by kernel_rfl) (by kernel_rfl) (by kernel_rfl) (fun _ _ _ h => h) (Or.inl ⟨by rfl, ?_⟩) (by assumption) ?_; rotate_left 1; (focus (intro wS hSw; (try dsimp only at hSw); go_simp <;> with_reducible rfl)); (try simp only [Act.put, List.setIfInBounds_toArray, List.set_cons_zero, List.set_cons_succ]))
            refine wpAnyH_ready (rs := [14]) (by kernel_rfl) (by simp) ?_
            refine Lw.cons1 (i := 14) rfl (fun K hK => ?_) AllReadyH.nil
            go_simp
            refine hK.out _ _ trivial (fun _ => ?_)
            clear hK K
            (try simp only [Act.put, List.setIfInBounds_toArray, List.set_cons_zero, List.set_cons_succ])
            refine wpAnyH_done (by kernel_rfl) ?_ _
            go_wp2
            go_roundw
            case rel => exact ⟨k + 1, by go_num, by omega, by rw [NX.out]; exact Lw.own_set (Lw.ownsBelow OWN.out (Nat.le_refl _) hB4) hlt, Lw.bset (Lw.bt hB hB4) hg0 _⟩
            case measure => simp [intOf]; omega
          · refine Lw.cons1 (i := 9) rfl (fun K hK => ?_) AllReadyH.nil
            go_simp
            go_at_call 67
            (with_reducible refine (bytes_cat _ A1 (some ⟨wr.heap.size, 0, none⟩) _ d1 2 6 2 (Lw.intsV .u8 (Lw.namedL key count)) (Lw.intsV .u8 [(k : Int), 3]) _ (by exact Lw.Rd.lit (Lw.blk_drew (Lw.blk_new' (by simp) _ _)) rfl rfl) (by exact N1.out.below (Nat.le_refl _) (Below.drew (Lw.balloc (Lw.balloc hB _) _))) (by exact Lw.Rd.lit (Lw.blk_drew (Lw.blk_alloc (Lw.blk_new' (by simp) _ _) _)) rfl rfl) (Lw.intsV_one _ _) (Lw.intsV_one _ _) (by decide)).mono ?_); rintro e w3 ⟨A3, d3, rfl, own3, hb3⟩
            have hB3 : Below wr.heap.size wr w3 := Lw.bt (Below.drew (Lw.balloc (Lw.balloc (Below.refl _ _) _) _)) hb3
            have c3 : w3.cell? ⟨g, k, none⟩ = some (.int .u8 old) := (hB3.cell (p := ⟨g, k, none⟩) hgl).trans c0
            refine hK.out _ _ trivial (fun _ => ?_)
            clear hK K
            (try simp only [Act.put, List.setIfInBounds_toArray, List.set_cons_zero, List.set_cons_succ])
            refine wpAnyH_ready (rs := [3, 10]) (by kernel_rfl) (by simp) ?_
            refine Lw.cons1 (i := 3) rfl (fun K hK => ?_) ?_
            · skip
              go_simp
              refine hK.out _ _ trivial (fun _ => ?_)
              clear hK K
              (try simp only [Act.put, List.setIfInBounds_toArray, List.set_cons_zero, List.set_cons_succ])
              refine wpAnyH_ready (rs := [10]) (by kernel_rfl) (by simp) ?_
              refine Lw.cons1 (i := 10) rfl (fun K hK => ?_) AllReadyH.nil
              go_simp
              go_at_call 64
              (with_reducible refine (C.out _ _ _ (Lw.Rd.of_own own3)).mono ?_); rintro e w4 ⟨rfl, hb4⟩
              have hB4 : Below wr.heap.size wr w4 := Lw.bt hB3 hb4
              have c4 : w4.cell? ⟨g, k, none⟩ = some (.int .u8 old) := (hB4.cell (p := ⟨g, k, none⟩) hgl).trans c0
              have f4 : w4.frozen? ⟨g, k, none⟩ = false := (hB4.frozen (p := ⟨g, k, none⟩) hgl).trans f0
              refine hK.out _ _ trivial (fun _ => ?_)
              clear hK K
              (try simp only [Act.put, List.setIfInBounds_toArray, List.set_cons_zero, List.set_cons_succ])
              (refine Lw.take1 (i := 11) (v := ?_) rfl (by kernel_rfl) (by kernel_rfl) (by kernel_rfl) (fun _ _ _ h => h) (Or.inl ⟨by rfl, ?_⟩) (by assumption) ?_; rotate_left 1; (focus (intro wS hSw; (try dsimp only at hSw); go_simp <;> with_reducible rfl)); (try simp only [Act.put, List.setIfInBounds_toArray, List.set_cons_zero, List.set_cons_succ]))
              (refine Lw.take1 (i := 12) (v := ?_) rfl (by kernel_rfl) (by kernel_rfl) (by kernel_rfl) (fun _ _ _ h => h) (Or.inl ⟨by rfl, ?_⟩) (by assumption) ?_; rotate_left 1; (focus (intro wS hSw; (try dsimp only at hSw); go_simp <;> with_reducible rfl)); (try simp only [Act.put, List.setIfInBounds_toArray, List.set_cons_zero, List.set_cons_succ]))
              (refine Lw.take1 (i := 13) (v := ?_) rfl (by kernel_rfl) (by kernel_rfl) (by kernel_rfl) (fun _ _ _ h => h) (Or.inl ⟨by rfl, ?_⟩) (by assumption) ?_; rotate_left 1; (focus (intro wS hSw; (try dsimp only at hSw); go_simp <;> with_reducible rfl)); (try simp only [Act.put, List.setIfInBounds_toArray, List.set_cons_zero, List.set_cons_succ]))
              refine wpAnyH_ready (rs := [14]) (by kernel_rfl) (by simp) ?_
              refine Lw.cons1 (i := 14) rfl (fun K hK => ?_) AllReadyH.nil
              go_simp
              refine hK.out _ _ trivial (fun _ => ?_)
              clear hK K
              (try simp only [Act.put, List.setIfInBounds_toArray, List.set_cons_zero, List.set_cons_succ])
              refine wpAnyH_done (by kernel_rfl) ?_ _
              go_wp2
              go_roundw
              case rel => exact ⟨k + 1, by go_num, by omega, by rw [NX.out]; exact Lw.own_set (Lw.ownsBelow OWN.out (Nat.le_refl _) hB4) hlt, Lw.bset (Lw.bt hB hB4) hg0 _⟩
              case measure => simp [intOf]; omega
            · refine Lw.cons1 (i := 10) rfl (fun K hK => ?_) AllReadyH.nil
              go_simp
              go_at_call 64
              (with_reducible refine (C.out _ _ _ (Lw.Rd.of_own own3)).mono ?_); rintro e w4 ⟨rfl, hb4⟩
              have hB4 : Below wr.heap.size wr w4 := Lw.bt hB3 hb4
              have c4 : w4.cell? ⟨g, k, none⟩ = some (.int .u8 old) := (hB4.cell (p := ⟨g, k, none⟩) hgl).trans c0
              have f4 : w4.frozen? ⟨g, k, none⟩ = false := (hB4.frozen (p := ⟨g, k, none⟩) hgl).trans f0
              refine hK.out _ _ trivial (fun _ => ?_)
              clear hK K
              (try simp only [Act.put, List.setIfInBounds_toArray, List.set_cons_zero, List.set_cons_succ])
              (refine Lw.take1 (i := 11) (v := ?_) rfl (by kernel_rfl) (by kernel_rfl) (by kernel_rfl) (fun _ _ _ h => h) (Or.inl ⟨by rfl, ?_⟩) (by assumption) ?_; rotate_left 1; (focus (intro wS hSw; (try dsimp only at hSw); go_simp <;> with_reducible rfl)); (try simp only [Act.put, List.setIfInBounds_toArray, List.set_cons_zero, List.set_cons_succ]))
              refine wpAnyH_ready (rs := [3]) (by kernel_rfl) (by simp) ?_
              refine Lw.cons1 (i := 3) rfl (fun K hK => ?_) AllReadyH.nil
              go_simp
              refine hK.out _ _ trivial (fun _ => ?_)
              clear hK K
              (try simp only [Act.put, List.setIfInBounds_toArray, List.set_cons_zero, List.set_cons_succ])
              (refine Lw.take1 (i := 12) (v := ?_) rfl (by kernel_rfl) (by kernel_rfl) (by kernel_rfl) (fun _ _ _ h => h) (Or.inl ⟨by rfl, ?_⟩) (by assumption) ?_; rotate_left 1; (focus (intro wS hSw; (try dsimp only at hSw); go_simp <;> with_reducible rfl)); (try simp only [Act.put, List.setIfInBounds_toArray, List.set_cons_zero, List.set_cons_succ]))
              (refine Lw.take1 (i := 13) (v := ?_) rfl (by kernel_rfl) (by kernel_rfl) (by kernel_rfl) (fun _ _ _ h => h) (Or.inl ⟨by rfl, ?_⟩) (by assumption) ?_; rotate_left 1; (focus (intro wS hSw; (try dsimp only at hSw); go_simp <;> with_reducible rfl)); (try simp only [Act.put, List.setIfInBounds_toArray, List.set_cons_zero, List.set_cons_succ]))
              refine wpAnyH_ready (rs := [14]) (by kernel_rfl) (by simp) ?_
              refine Lw.cons1 (i := 14) rfl (fun K hK => ?_) AllReadyH.nil
              go_simp
              refine hK.out _ _ trivial (fun _ => ?_)
              clear hK K
              (try simp only [Act.put, List.setIfInBounds_toArray, List.set_cons_zero, List.set_cons_succ])
              refine wpAnyH_done (by kernel_rfl) ?_ _
              go_wp2
              go_roundw
              case rel => exact ⟨k + 1, by go_num, by omega, by rw [NX.out]; exact Lw.own_set (Lw.ownsBelow OWN.out (Nat.le_refl _) hB4) hlt, Lw.bset (Lw.bt hB hB4) hg0 _⟩
              case measure => simp [intOf]; omega
    · have hk : k = 17 := by omega
      subst hk
      have E : Hid (Lw.mixL key count bs 17 = Lw.layL key count bs) := Lw.mixL_end L.out
      rw [E.out] at own
      have OWN := Lib.hid own
      clear own
      go_wp2
      go_ret2
      exact ⟨some ⟨g, 0, none⟩, d2, rfl, Lw.ownsBase OWN.out hb1.size, Lw.bt hb1 hB⟩
end Go.Proofs.Ytkjcpjbdckbjcaa
namespace Lw
open Go Go.RowKit
theorem layL_take {key count : Int} {bs : List Int} {k : Nat} (h : k < bs.length) : intsV .u8 ((layL key count bs).take (k + 1)) = intsV .u8 ((layL key count bs).take k) ++ [.int .u8 (xorI bs[k] (layB key count k))] := by
  rw [List.take_succ_eq_append_getElem (by rw [layL_length]; exact h), layL_get h, intsV_app]; rfl
end Lw
set_option linter.unusedVariables false
set_option linter.unusedSimpArgs false
namespace Go.Proofs.Ytkjcpjbdckbjcaa
open Go.RowKit
end Go.Proofs.Ytkjcpjbdckbjcaa
namespace Lw
open Go Go.RowKit
/-- what IndexFunc returns for 'not zero' -/
def IdxP (xs : List Int) (w : World) (e : Ending) (w' : World) : Prop := ∃ r : Int, e = .returned (.int .i64 r) ∧ w = w' ∧ ((xs.all (· == 0) = true ∧ r = -1) ∨ (xs.all (· == 0) = false ∧ 0 ≤ r))
theorem all_take {xs : List Int} {k : Nat} (h : k < xs.length) (h1 : (xs.take k).all (· == 0) = true) (h2 : xs[k] = 0) : (xs.take (k + 1)).all (· == 0) = true := by
  rw [List.take_succ_eq_append_getElem h, List.all_append, h1]; simp [h2]
theorem all_not {xs : List Int} {k : Nat} (h : k < xs.length) (h2 : ¬ xs[k] = 0) : xs.all (· == 0) = false := by
  rw [Bool.eq_false_iff]; intro e
  have := List.all_eq_true.1 e _ (List.getElem_mem h)
  exact h2 (by simpa using this)
theorem Rd.take {w : World} {ad : Addr} {n m : Nat} {xs : List Int} {k : IntKind} (h : Rd w 1 (some ad) n (intsV k xs)) (hm : m ≤ n) : Rd w 1 (some ad) m (intsV k (xs.take m)) := by
  have hl : xs.length = n := by have := h.1; simpa [intsV] using this
  refine ⟨by simp [intsV]; omega, fun hp => ?_⟩
  obtain ⟨ad', e, hb, hc⟩ := h.2 (by omega)
  refine ⟨ad', e, hb, fun j u hu => hc j u ?_⟩
  simp only [intsV, List.map_take, List.getElem?_take] at hu
  split at hu
  · exact hu
  · cases hu
theorem Rd.drop {w : World} {ad : Addr} {n m d : Nat} {xs : List Int} {k : IntKind} (h : Rd w 1 (some ad) n (intsV k xs)) (hm : m + d = n) : Rd w 1 (some (ad.add m)) d (intsV k (xs.drop m)) := by
  have hl : xs.length = n := by have := h.1; simpa [intsV] using this
  refine ⟨by simp [intsV]; omega, fun hp => ?_⟩
  obtain ⟨ad', e, hb, hc⟩ := h.2 (by omega)
  injection e with e; subst e
  refine ⟨_, rfl, by rw [add_block]; exact hb, fun j u hu => ?_⟩
  rw [add_add]
  refine hc _ u ?_
  simpa [intsV, List.getElem?_drop] using hu
end Lw
set_option linter.unusedVariables false
set_option linter.unusedSimpArgs false
namespace Go.Proofs.Ytkjcpjbdckbjcaa
open Go.RowKit
set_option maxHeartbeats 1000000 in
theorem read_index (A : Option Addr) (n c b : Nat) (xs : List Int) (w : World) (R : Lw.Rd w 1 A n (Lw.intsV .u8 xs)) (hn : n ≤ 1048576) (hb : w.cell? ⟨b, 0, none⟩ = some (.func (.func 57) #[] #[])) :
    Calls Try.prog 74 #[.slice A n c, .func (.func 70) #[] #[.pointer (some ⟨b, 0, none⟩)]] w (Lw.IdxP xs w) := by
  have R := Lib.hid R
  have l1 : xs.length = n := by have := R.out.1; simpa [Lw.intsV] using this
  have L := Lib.hid l1
  clear l1
  go_enter Try.func74, Try.ntmps74
  go_wp2
  go_loop [5, 8] (fun x i => ∃ k : Nat, i = .int .i64 (k : Int) ∧ k ≤ n ∧ Hid ((xs.take k).all (· == 0) = true)) (fun _ i => n - (intOf i).toNat)
  case atStart => exact ⟨0, rfl, by omega, rfl⟩
  case round =>
    obtain ⟨k, rfl, k1, T⟩ := hrel
    by_cases hlt : k < n
    · have hl : k < xs.length := by rw [L.out]; exact hlt
      obtain ⟨ad, rfl, had, hcell⟩ := R.out.at1 hlt (Lw.intsV_get hl)
      have N := Lib.hid (Lw.all_take hl T.out)
      have D := Lib.hid (Lw.all_not hl)
      obtain ⟨x, hx⟩ : ∃ x, xs[k] = x := ⟨_, rfl⟩
      rw [hx] at hcell N D
      clear hx
      by_cases h0 : x = 0
      · have N1 := Lib.hid (N.out h0)
        have h1 : (x == 0) = true := by simpa using h0
        clear N D h0
        go_wp2
        go_round
        case rel => exact ⟨k + 1, by go_num, by omega, N1⟩
        case measure => simp [intOf]; omega
      · have D1 := Lib.hid (D.out h0)
        have h1 : (x == 0) = false := by simpa using h0
        clear N D h0
        go_wp2
        go_ret
        exact ⟨_, rfl, rfl, .inr ⟨D1.out, by omega⟩⟩
    · have hk : xs.take k = xs := List.take_of_length_le (by rw [L.out]; omega)
      have E : Hid (xs.all (· == 0) = true) := by have := T.out; rwa [hk] at this
      clear hk
      go_wp2
      go_ret
      exact ⟨_, rfl, rfl, .inl ⟨E.out, rfl⟩⟩
theorem cell_all (A : Option Addr) (n c : Nat) (xs : List Int) (w : World) (R : Lw.Rd w 1 A n (Lw.intsV .u8 xs)) (hn : n ≤ 1048576) :
    Calls Try.prog 58 #[.slice A n c, .func (.func 57) #[] #[]] w fun e w' => e = .returned (.bool (xs.all (· == 0))) ∧ Below w.heap.size w w' := by
  have R := Lib.hid R
  go_enter Try.func58, Try.ntmps58
  go_wp2_with (first | (go_at_call 69; go_in) | (go_at_call 74; (with_reducible refine (read_index _ _ _ _ xs _ (R.out.alloc _) hn (by simp)).mono ?_); rintro e w1 ⟨r, rfl, rfl, hr⟩))
  go_ret
  refine ⟨Lw.ret_bool ?_, by (repeat (first | exact Below.refl _ _ | refine Lw.bt ?_ (by assumption) | refine Lw.balloc ?_ _ | refine Lw.bdrewN ?_ _ | refine Below.drew ?_ | refine Lw.bset ?_ (by first | (simp; done) | (simp; omega) | omega) _))⟩
  rcases hr with ⟨h1, rfl⟩ | ⟨h1, h2⟩
  · rw [h1]; rfl
  · rw [h1]; simp [h2]
end Go.Proofs.Ytkjcpjbdckbjcaa
namespace Lw
open Go Go.RowKit
/-- the first byte, and what stands behind it -/
theorem rd_first {w : World} {ad : Addr} {n : Nat} {bs : List Int} {m : Nat} (R : Rd w 1 (some ad) n (intsV .u8 bs)) (h : bs[0]? = some (m : Int)) : w.cell? ad = some (.int .u8 (m : Int)) := by
  have hl : 0 < bs.length := (List.getElem?_eq_some_iff.1 h).1
  have hn : bs.length = n := by have := R.1; simpa [intsV] using this
  obtain ⟨ad', e, _, hc⟩ := R.2 (by omega)
  injection e with e; subst e
  have := hc 0 (.int .u8 (m : Int)) (by simp [intsV, h])
  rwa [add_zero'] at this
end Lw
set_option linter.unusedVariables false
set_option linter.unusedSimpArgs false
namespace Go.Proofs.Ytkjcpjbdckbjcaa
open Go.RowKit
set_option maxHeartbeats 2000000 in
theorem cell_Read_sum (key count : Int) (ad : Addr) (c : Nat) (bs : List Int) (w : World) (R : Lw.Rd w 1 (some ad) 17 (Lw.intsV .u8 bs)) (hy : Lw.Byt bs) (hc : 17 ≤ c) (k1 : 0 ≤ key) (k2 : key < 65536) (c1 : 0 ≤ count) (c2 : count ≤ 2147483648) (h : ¬ bs.drop 15 = Lw.sumL key count (bs.take 15)) :
    Calls Try.prog 39 #[.int .i64 key, .int .i64 count, .slice (some ad) 17 c] w fun e w' => e = .returned (.tuple #[.slice none 0 0, .int .i64 8]) ∧ Below w.heap.size w w' := by
  have k3 : ¬ key < 0 := by omega
  have k4 : ¬ 65536 ≤ key := by omega
  have c3 : ¬ count < 0 := by omega
  have c4 : ¬ 2147483648 < count := by omega
  have l1 : bs.length = 17 := by have := R.1; simpa [Lw.intsV] using this
  have R15 : Lw.Rd w 1 (some ⟨ad.block, ad.off + 15, none⟩) 2 (Lw.intsV .u8 (bs.drop 15)) := Lw.add_succ' ad 14 ▸ (Lw.Rd.drop R (m := 15) (d := 2) rfl)
  have RH : Lw.Rd w 1 (some ad) 15 (Lw.intsV .u8 (bs.take 15)) := Lw.Rd.take R (by decide)
  have hyH : Lw.Byt (bs.take 15) := fun z hz => hy z (List.mem_of_mem_take hz)
  have S := Lib.hid (fun w R => cell_sum key count (some ad) 15 c (bs.take 15) w R hyH (by decide) k1 (by omega) c1 (by omega))
  have RH := Lib.hid RH
  have R15 := Lib.hid R15
  have b1 : (15 : Int) ≤ 17 := by decide
  have b2 : (17 : Int) ≤ (c : Int) := by omega
  have b3 : ¬ c = 15 := by omega
  have hd : decide (bs.drop 15 = Lw.sumL key count (bs.take 15)) = false := decide_eq_false h
  have hd := Lib.hid hd
  clear h l1
  go_enter Try.func39, Try.ntmps39
  go_wp2_with (go_at_call 52; go_in)
  refine wp_region_held_drew (S := Lw.Sm w) (by kernel_rfl) (Lw.sm_drew w) (fun hHeld => ?_)
  (refine Lw.take1 (i := 0) (v := ?_) rfl (by kernel_rfl) (by kernel_rfl) (by kernel_rfl) (fun _ _ _ h => h) (Or.inl ⟨by rfl, ?_⟩) (by assumption) ?_; rotate_left 1; (focus (intro wS hSw; obtain ⟨hS1, hS2, hS3, hS4⟩ := hSw; go_simp <;> with_reducible rfl)); (try simp only [Act.put, List.setIfInBounds_toArray, List.set_cons_zero, List.set_cons_succ]))
  (refine Lw.take1 (i := 1) (v := ?_) rfl (by kernel_rfl) (by kernel_rfl) (by kernel_rfl) (fun _ _ _ h => h) (Or.inl ⟨by rfl, ?_⟩) (by assumption) ?_; rotate_left 1; (focus (intro wS hSw; obtain ⟨hS1, hS2, hS3, hS4⟩ := hSw; go_simp <;> with_reducible rfl)); (try simp only [Act.put, List.setIfInBounds_toArray, List.set_cons_zero, List.set_cons_succ]))
  (refine Lw.take1 (i := 2) (v := ?_) rfl (by kernel_rfl) (by kernel_rfl) (by kernel_rfl) (fun _ _ _ h => h) (Or.inl ⟨by rfl, ?_⟩) (by assumption) ?_; rotate_left 1; (focus (intro wS hSw; obtain ⟨hS1, hS2, hS3, hS4⟩ := hSw; go_simp <;> with_reducible rfl)); (try simp only [Act.put, List.setIfInBounds_toArray, List.set_cons_zero, List.set_cons_succ]))
  (refine Lw.take1 (i := 3) (v := ?_) rfl (by kernel_rfl) (by kernel_rfl) (by kernel_rfl) (fun _ _ _ h => h) (Or.inl ⟨by rfl, ?_⟩) (by assumption) ?_; rotate_left 1; (focus (intro wS hSw; obtain ⟨hS1, hS2, hS3, hS4⟩ := hSw; go_simp <;> with_reducible rfl)); (try simp only [Act.put, List.setIfInBounds_toArray, List.set_cons_zero, List.set_cons_succ]))
  (refine Lw.take1 (i := 4) (v := ?_) rfl (by kernel_rfl) (by kernel_rfl) (by kernel_rfl) (fun _ _ _ h => h) (Or.inl ⟨by rfl, ?_⟩) (by assumption) ?_; rotate_left 1; (focus (intro wS hSw; obtain ⟨hS1, hS2, hS3, hS4⟩ := hSw; go_simp <;> with_reducible rfl)); (try simp only [Act.put, List.setIfInBounds_toArray, List.set_cons_zero, List.set_cons_succ]))
  (refine wpAnyH_ready (rs := [5]) (by kernel_rfl) (by simp) ?_; refine Lw.cons1 (i := 5) rfl (fun K hK => ?_) AllReadyH.nil; go_simp; go_at_call 53; (with_reducible refine (S.out _ (RH.out.below (Nat.le_refl _) (Lw.sm_bel (Lw.sm_drew w)))).mono ?_); rintro e w4 ⟨A4, d4, rfl, own4, hb4⟩; refine hK.out _ _ ?_ (fun hHeld => ?_); (focus exact Lw.sm_keep (Lw.sm_drew w) hb4); clear hK K; (try simp only [Act.put, List.setIfInBounds_toArray, List.set_cons_zero, List.set_cons_succ]))
  have hS4 := Lw.sm_keep (Lw.sm_drew w) hb4
  (refine wpAnyH_ready (rs := [6]) (by kernel_rfl) (by simp) ?_; refine Lw.cons1 (i := 6) rfl (fun K hK => ?_) AllReadyH.nil; go_simp; go_at_call 56; (with_reducible refine (bytes_equal _ _ 2 2 _ _ (bs.drop 15) (Lw.sumL key count (bs.take 15)) _ (R15.out.below (Nat.le_refl _) (Lw.sm_bel hS4)) (Lw.Rd.of_own own4) (by decide) (by decide)).mono ?_); rintro e w5 ⟨rfl, hb5⟩; refine hK.out _ _ ?_ (fun hHeld => ?_); (focus exact Lw.sm_keep hS4 hb5); clear hK K; (try simp only [Act.put, List.setIfInBounds_toArray, List.set_cons_zero, List.set_cons_succ]))
  have hS5 := Lw.sm_keep hS4 hb5
  (refine Lw.take1 (i := 7) (v := ?_) rfl (by kernel_rfl) (by kernel_rfl) (by kernel_rfl) (fun _ _ _ h => h) (Or.inl ⟨by rfl, ?_⟩) (by assumption) ?_; rotate_left 1; (focus (intro wS hSw; obtain ⟨hS1, hS2, hS3, hS4⟩ := hSw; go_simp <;> with_reducible rfl)); (try simp only [Act.put, List.setIfInBounds_toArray, List.set_cons_zero, List.set_cons_succ]))
  refine wpAnyH_done (by kernel_rfl) ?_ _
  have hB5 := Lw.sm_bel hS5
  clear hHeld hS4 hS5 hb4 hb5 own4
  rw [hd.out]
  go_wp2
  go_ret2
  exact ⟨rfl, hB5⟩
set_option maxHeartbeats 2000000 in
theorem cell_Read_big (key count : Int) (ad : Addr) (c : Nat) (bs : List Int) (w : World) (R : Lw.Rd w 1 (some ad) 17 (Lw.intsV .u8 bs)) (hy : Lw.Byt bs) (hc : 17 ≤ c) (k1 : 0 ≤ key) (k2 : key < 65536) (c1 : 0 ≤ count) (c2 : count ≤ 2147483648) (h : bs.drop 15 = Lw.sumL key count (bs.take 15)) (m : Nat) (hm : bs[0]? = some (m : Int)) (hm14 : 14 < m) :
    Calls Try.prog 39 #[.int .i64 key, .int .i64 count, .slice (some ad) 17 c] w fun e w' => e = .returned (.tuple #[.slice none 0 0, .int .i64 4]) ∧ Below w.heap.size w w' := by
  have k3 : ¬ key < 0 := by omega
  have k4 : ¬ 65536 ≤ key := by omega
  have c3 : ¬ count < 0 := by omega
  have c4 : ¬ 2147483648 < count := by omega
  have l1 : bs.length = 17 := by have := R.1; simpa [Lw.intsV] using this
  have R15 : Lw.Rd w 1 (some ⟨ad.block, ad.off + 15, none⟩) 2 (Lw.intsV .u8 (bs.drop 15)) := Lw.add_succ' ad 14 ▸ (Lw.Rd.drop R (m := 15) (d := 2) rfl)
  have RH : Lw.Rd w 1 (some ad) 15 (Lw.intsV .u8 (bs.take 15)) := Lw.Rd.take R (by decide)
  have hyH : Lw.Byt (bs.take 15) := fun z hz => hy z (List.mem_of_mem_take hz)
  have S := Lib.hid (fun w R => cell_sum key count (some ad) 15 c (bs.take 15) w R hyH (by decide) k1 (by omega) c1 (by omega))
  have RH := Lib.hid RH
  have R15 := Lib.hid R15
  have b1 : (15 : Int) ≤ 17 := by decide
  have b2 : (17 : Int) ≤ (c : Int) := by omega
  have b3 : ¬ c = 15 := by omega
  have hd : decide (bs.drop 15 = Lw.sumL key count (bs.take 15)) = true := decide_eq_true h
  have hd := Lib.hid hd
  have c0 := Lw.rd_first R hm
  obtain ⟨_, eb, hadb, _⟩ := R.2 (by decide)
  obtain rfl : ad = _ := by injection eb
  have mb : (0 : Int) ≤ (m : Int) ∧ (m : Int) < 256 := hy _ (List.mem_of_getElem? hm)
  have mb2 : m < 256 := by omega
  have m1 : (14 : Int) < (m : Int) := by omega
  clear h l1 eb
  go_enter Try.func39, Try.ntmps39
  go_wp2_with (go_at_call 52; go_in)
  refine wp_region_held_drew (S := Lw.Sm w) (by kernel_rfl) (Lw.sm_drew w) (fun hHeld => ?_)
  (refine Lw.take1 (i := 0) (v := ?_) rfl (by kernel_rfl) (by kernel_rfl) (by kernel_rfl) (fun _ _ _ h => h) (Or.inl ⟨by rfl, ?_⟩) (by assumption) ?_; rotate_left 1; (focus (intro wS hSw; obtain ⟨hS1, hS2, hS3, hS4⟩ := hSw; go_simp <;> with_reducible rfl)); (try simp only [Act.put, List.setIfInBounds_toArray, List.set_cons_zero, List.set_cons_succ]))
  (refine Lw.take1 (i := 1) (v := ?_) rfl (by kernel_rfl) (by kernel_rfl) (by kernel_rfl) (fun _ _ _ h => h) (Or.inl ⟨by rfl, ?_⟩) (by assumption) ?_; rotate_left 1; (focus (intro wS hSw; obtain ⟨hS1, hS2, hS3, hS4⟩ := hSw; go_simp <;> with_reducible rfl)); (try simp only [Act.put, List.setIfInBounds_toArray, List.set_cons_zero, List.set_cons_succ]))
  (refine Lw.take1 (i := 2) (v := ?_) rfl (by kernel_rfl) (by kernel_rfl) (by kernel_rfl) (fun _ _ _ h => h) (Or.inl ⟨by rfl, ?_⟩) (by assumption) ?_; rotate_left 1; (focus (intro wS hSw; obtain ⟨hS1, hS2, hS3, hS4⟩ := hSw; go_simp <;> with_reducible rfl)); (try simp only [Act.put, List.setIfInBounds_toArray, List.set_cons_zero, List.set_cons_succ]))
  (refine Lw.take1 (i := 3) (v := ?_) rfl (by kernel_rfl) (by kernel_rfl) (by kernel_rfl) (fun _ _ _ h => h) (Or.inl ⟨by rfl, ?_⟩) (by assumption) ?_; rotate_left 1; (focus (intro wS hSw; obtain ⟨hS1, hS2, hS3, hS4⟩ := hSw; go_simp <;> with_reducible rfl)); (try simp only [Act.put, List.setIfInBounds_toArray, List.set_cons_zero, List.set_cons_succ]))
  (refine Lw.take1 (i := 4) (v := ?_) rfl (by kernel_rfl) (by kernel_rfl) (by kernel_rfl) (fun _ _ _ h => h) (Or.inl ⟨by rfl, ?_⟩) (by assumption) ?_; rotate_left 1; (focus (intro wS hSw; obtain ⟨hS1, hS2, hS3, hS4⟩ := hSw; go_simp <;> with_reducible rfl)); (try simp only [Act.put, List.setIfInBounds_toArray, List.set_cons_zero, List.set_cons_succ]))
  (refine wpAnyH_ready (rs := [5]) (by kernel_rfl) (by simp) ?_; refine Lw.cons1 (i := 5) rfl (fun K hK => ?_) AllReadyH.nil; go_simp; go_at_call 53; (with_reducible refine (S.out _ (RH.out.below (Nat.le_refl _) (Lw.sm_bel (Lw.sm_drew w)))).mono ?_); rintro e w4 ⟨A4, d4, rfl, own4, hb4⟩; refine hK.out _ _ ?_ (fun hHeld => ?_); (focus exact Lw.sm_keep (Lw.sm_drew w) hb4); clear hK K; (try simp only [Act.put, List.setIfInBounds_toArray, List.set_cons_zero, List.set_cons_succ]))
  have hS4 := Lw.sm_keep (Lw.sm_drew w) hb4
  (refine wpAnyH_ready (rs := [6]) (by kernel_rfl) (by simp) ?_; refine Lw.cons1 (i := 6) rfl (fun K hK => ?_) AllReadyH.nil; go_simp; go_at_call 56; (with_reducible refine (bytes_equal _ _ 2 2 _ _ (bs.drop 15) (Lw.sumL key count (bs.take 15)) _ (R15.out.below (Nat.le_refl _) (Lw.sm_bel hS4)) (Lw.Rd.of_own own4) (by decide) (by decide)).mono ?_); rintro e w5 ⟨rfl, hb5⟩; refine hK.out _ _ ?_ (fun hHeld => ?_); (focus exact Lw.sm_keep hS4 hb5); clear hK K; (try simp only [Act.put, List.setIfInBounds_toArray, List.set_cons_zero, List.set_cons_succ]))
  have hS5 := Lw.sm_keep hS4 hb5
  (refine Lw.take1 (i := 7) (v := ?_) rfl (by kernel_rfl) (by kernel_rfl) (by kernel_rfl) (fun _ _ _ h => h) (Or.inl ⟨by rfl, ?_⟩) (by assumption) ?_; rotate_left 1; (focus (intro wS hSw; obtain ⟨hS1, hS2, hS3, hS4⟩ := hSw; go_simp <;> with_reducible rfl)); (try simp only [Act.put, List.setIfInBounds_toArray, List.set_cons_zero, List.set_cons_succ]))
  refine wpAnyH_done (by kernel_rfl) ?_ _
  have hB5 := Lw.sm_bel hS5
  clear hHeld hS4 hS5 hb4 hb5 own4
  rw [hd.out]
  have d0 : w5.cell? ad = some (.int .u8 (m : Int)) := (hB5.cell hadb).trans c0
  go_wp2
  go_ret2
  exact ⟨rfl, hB5⟩
set_option maxHeartbeats 2000000 in
theorem cell_Read_zero (key count : Int) (ad : Addr) (c : Nat) (bs : List Int) (w : World) (R : Lw.Rd w 1 (some ad) 17 (Lw.intsV .u8 bs)) (hy : Lw.Byt bs) (hc : 17 ≤ c) (k1 : 0 ≤ key) (k2 : key < 65536) (c1 : 0 ≤ count) (c2 : count ≤ 2147483648) (h : bs.drop 15 = Lw.sumL key count (bs.take 15)) (m : Nat) (hm : bs[0]? = some (m : Int)) (hm14 : m ≤ 14) (hz : ((bs.take 15).drop (1 + m)).all (· == 0) = false) :
    Calls Try.prog 39 #[.int .i64 key, .int .i64 count, .slice (some ad) 17 c] w fun e w' => e = .returned (.tuple #[.slice none 0 0, .int .i64 4]) ∧ Below w.heap.size w w' := by
  have k3 : ¬ key < 0 := by omega
  have k4 : ¬ 65536 ≤ key := by omega
  have c3 : ¬ count < 0 := by omega
  have c4 : ¬ 2147483648 < count := by omega
  have l1 : bs.length = 17 := by have := R.1; simpa [Lw.intsV] using this
  have R15 : Lw.Rd w 1 (some ⟨ad.block, ad.off + 15, none⟩) 2 (Lw.intsV .u8 (bs.drop 15)) := Lw.add_succ' ad 14 ▸ (Lw.Rd.drop R (m := 15) (d := 2) rfl)
  have RH : Lw.Rd w 1 (some ad) 15 (Lw.intsV .u8 (bs.take 15)) := Lw.Rd.take R (by decide)
  have hyH : Lw.Byt (bs.take 15) := fun z hz => hy z (List.mem_of_mem_take hz)
  have S := Lib.hid (fun w R => cell_sum key count (some ad) 15 c (bs.take 15) w R hyH (by decide) k1 (by omega) c1 (by omega))
  have RH := Lib.hid RH
  have R15 := Lib.hid R15
  have b1 : (15 : Int) ≤ 17 := by decide
  have b2 : (17 : Int) ≤ (c : Int) := by omega
  have b3 : ¬ c = 15 := by omega
  have hd : decide (bs.drop 15 = Lw.sumL key count (bs.take 15)) = true := decide_eq_true h
  have hd := Lib.hid hd
  have c0 := Lw.rd_first R hm
  obtain ⟨_, eb, hadb, _⟩ := R.2 (by decide)
  obtain rfl : ad = _ := by injection eb
  have mb : (0 : Int) ≤ (m : Int) ∧ (m : Int) < 256 := hy _ (List.mem_of_getElem? hm)
  have mb2 : m < 256 := by omega
  have m1 : ¬ (14 : Int) < (m : Int) := by omega
  have q1 : (0 : Int) ≤ 1 + (m : Int) := by omega
  have q2 : 1 + (m : Int) ≤ 15 := by omega
  have q3 : (1 + (m : Int)).toNat = 1 + m := by omega
  have q4 : ¬ c = 1 + m := by omega
  have q5 : 1 + (m : Int) ≤ (c : Int) := by omega
  have RZ : Lw.Rd w 1 (some (ad.add (1 + m))) (15 - (1 + m)) (Lw.intsV .u8 ((bs.take 15).drop (1 + m))) := Lw.Rd.drop RH.out (by omega)
  have RZ := Lib.hid RZ
  have AL := Lib.hid (fun A c w R => cell_all A (15 - (1 + m)) c ((bs.take 15).drop (1 + m)) w R (by omega))
  rw [hz] at AL
  clear h l1 eb
  go_enter Try.func39, Try.ntmps39
  go_wp2_with (go_at_call 52; go_in)
  refine wp_region_held_drew (S := Lw.Sm w) (by kernel_rfl) (Lw.sm_drew w) (fun hHeld => ?_)
  (refine Lw.take1 (i := 0) (v := ?_) rfl (by kernel_rfl) (by kernel_rfl) (by kernel_rfl) (fun _ _ _ h => h) (Or.inl ⟨by rfl, ?_⟩) (by assumption) ?_; rotate_left 1; (focus (intro wS hSw; obtain ⟨hS1, hS2, hS3, hS4⟩ := hSw; go_simp <;> with_reducible rfl)); (try simp only [Act.put, List.setIfInBounds_toArray, List.set_cons_zero, List.set_cons_succ]))
  (refine Lw.take1 (i := 1) (v := ?_) rfl (by kernel_rfl) (by kernel_rfl) (by kernel_rfl) (fun _ _ _ h => h) (Or.inl ⟨by rfl, ?_⟩) (by assumption) ?_; rotate_left 1; (focus (intro wS hSw; obtain ⟨hS1, hS2, hS3, hS4⟩ := hSw; go_simp <;> with_reducible rfl)); (try simp only [Act.put, List.setIfInBounds_toArray, List.set_cons_zero, List.set_cons_succ]))
  (refine Lw.take1 (i := 2) (v := ?_) rfl (by kernel_rfl) (by kernel_rfl) (by kernel_rfl) (fun _ _ _ h => h) (Or.inl ⟨by rfl, ?_⟩) (by assumption) ?_; rotate_left 1; (focus (intro wS hSw; obtain ⟨hS1, hS2, hS3, hS4⟩ := hSw; go_simp <;> with_reducible rfl)); (try simp only [Act.put, List.setIfInBounds_toArray, List.set_cons_zero, List.set_cons_succ]))
  (refine Lw.take1 (i := 3) (v := ?_) rfl (by kernel_rfl) (by kernel_rfl) (by kernel_rfl) (fun _ _ _ h => h) (Or.inl ⟨by rfl, ?_⟩) (by assumption) ?_; rotate_left 1; (focus (intro wS hSw; obtain ⟨hS1, hS2, hS3, hS4⟩ := hSw; go_simp <;> with_reducible rfl)); (try simp only [Act.put, List.setIfInBounds_toArray, List.set_cons_zero, List.set_cons_succ]))
  (refine Lw.take1 (i := 4) (v := ?_) rfl (by kernel_rfl) (by kernel_rfl) (by kernel_rfl) (fun _ _ _ h => h) (Or.inl ⟨by rfl, ?_⟩) (by assumption) ?_; rotate_left 1; (focus (intro wS hSw; obtain ⟨hS1, hS2, hS3, hS4⟩ := hSw; go_simp <;> with_reducible rfl)); (try simp only [Act.put, List.setIfInBounds_toArray, List.set_cons_zero, List.set_cons_succ]))
  (refine wpAnyH_ready (rs := [5]) (by kernel_rfl) (by simp) ?_; refine Lw.cons1 (i := 5) rfl (fun K hK => ?_) AllReadyH.nil; go_simp; go_at_call 53; (with_reducible refine (S.out _ (RH.out.below (Nat.le_refl _) (Lw.sm_bel (Lw.sm_drew w)))).mono ?_); rintro e w4 ⟨A4, d4, rfl, own4, hb4⟩; refine hK.out _ _ ?_ (fun hHeld => ?_); (focus exact Lw.sm_keep (Lw.sm_drew w) hb4); clear hK K; (try simp only [Act.put, List.setIfInBounds_toArray, List.set_cons_zero, List.set_cons_succ]))
  have hS4 := Lw.sm_keep (Lw.sm_drew w) hb4
  (refine wpAnyH_ready (rs := [6]) (by kernel_rfl) (by simp) ?_; refine Lw.cons1 (i := 6) rfl (fun K hK => ?_) AllReadyH.nil; go_simp; go_at_call 56; (with_reducible refine (bytes_equal _ _ 2 2 _ _ (bs.drop 15) (Lw.sumL key count (bs.take 15)) _ (R15.out.below (Nat.le_refl _) (Lw.sm_bel hS4)) (Lw.Rd.of_own own4) (by decide) (by decide)).mono ?_); rintro e w5 ⟨rfl, hb5⟩; refine hK.out _ _ ?_ (fun hHeld => ?_); (focus exact Lw.sm_keep hS4 hb5); clear hK K; (try simp only [Act.put, List.setIfInBounds_toArray, List.set_cons_zero, List.set_cons_succ]))
  have hS5 := Lw.sm_keep hS4 hb5
  (refine Lw.take1 (i := 7) (v := ?_) rfl (by kernel_rfl) (by kernel_rfl) (by kernel_rfl) (fun _ _ _ h => h) (Or.inl ⟨by rfl, ?_⟩) (by assumption) ?_; rotate_left 1; (focus (intro wS hSw; obtain ⟨hS1, hS2, hS3, hS4⟩ := hSw; go_simp <;> with_reducible rfl)); (try simp only [Act.put, List.setIfInBounds_toArray, List.set_cons_zero, List.set_cons_succ]))
  refine wpAnyH_done (by kernel_rfl) ?_ _
  have hB5 := Lw.sm_bel hS5
  clear hHeld hS4 hS5 hb4 hb5 own4
  rw [hd.out]
  have d0 : w5.cell? ad = some (.int .u8 (m : Int)) := (hB5.cell hadb).trans c0
  go_wp2_with fail
  refine (AL.out _ _ _ (RZ.out.below (Nat.le_refl _) hB5)).mono ?_
  rintro e w6 ⟨rfl, hb6⟩
  go_wp2_with fail
  go_ret2
  exact ⟨rfl, Lw.bt hB5 hb6⟩
set_option maxHeartbeats 2000000 in
theorem cell_Read_ok (key count : Int) (ad : Addr) (c : Nat) (bs : List Int) (w : World) (R : Lw.Rd w 1 (some ad) 17 (Lw.intsV .u8 bs)) (hy : Lw.Byt bs) (hc : 17 ≤ c) (k1 : 0 ≤ key) (k2 : key < 65536) (c1 : 0 ≤ count) (c2 : count ≤ 2147483648) (h : bs.drop 15 = Lw.sumL key count (bs.take 15)) (m : Nat) (hm : bs[0]? = some (m : Int)) (hm14 : m ≤ 14) (hz : ((bs.take 15).drop (1 + m)).all (· == 0) = true) :
    Calls Try.prog 39 #[.int .i64 key, .int .i64 count, .slice (some ad) 17 c] w fun e w' => ∃ A' c', e = .returned (.tuple #[.slice A' m c', .int .i64 0]) ∧ w'.ownsRow w.heap.size 5 1 (.slice A' m c') m (Lw.intsV .u8 ((bs.drop 1).take m)) ∧ Below w.heap.size w w' := by
  have k3 : ¬ key < 0 := by omega
  have k4 : ¬ 65536 ≤ key := by omega
  have c3 : ¬ count < 0 := by omega
  have c4 : ¬ 2147483648 < count := by omega
  have l1 : bs.length = 17 := by have := R.1; simpa [Lw.intsV] using this
  have R15 : Lw.Rd w 1 (some ⟨ad.block, ad.off + 15, none⟩) 2 (Lw.intsV .u8 (bs.drop 15)) := Lw.add_succ' ad 14 ▸ (Lw.Rd.drop R (m := 15) (d := 2) rfl)
  have RH : Lw.Rd w 1 (some ad) 15 (Lw.intsV .u8 (bs.take 15)) := Lw.Rd.take R (by decide)
  have hyH : Lw.Byt (bs.take 15) := fun z hz => hy z (List.mem_of_mem_take hz)
  have S := Lib.hid (fun w R => cell_sum key count (some ad) 15 c (bs.take 15) w R hyH (by decide) k1 (by omega) c1 (by omega))
  have RH := Lib.hid RH
  have R15 := Lib.hid R15
  have b1 : (15 : Int) ≤ 17 := by decide
  have b2 : (17 : Int) ≤ (c : Int) := by omega
  have b3 : ¬ c = 15 := by omega
  have hd : decide (bs.drop 15 = Lw.sumL key count (bs.take 15)) = true := decide_eq_true h
  have hd := Lib.hid hd
  have c0 := Lw.rd_first R hm
  obtain ⟨_, eb, hadb, _⟩ := R.2 (by decide)
  obtain rfl : ad = _ := by injection eb
  have mb : (0 : Int) ≤ (m : Int) ∧ (m : Int) < 256 := hy _ (List.mem_of_getElem? hm)
  have mb2 : m < 256 := by omega
  have m1 : ¬ (14 : Int) < (m : Int) := by omega
  have q1 : (0 : Int) ≤ 1 + (m : Int) := by omega
  have q2 : 1 + (m : Int) ≤ 15 := by omega
  have q3 : (1 + (m : Int)).toNat = 1 + m := by omega
  have q4 : ¬ c = 1 + m := by omega
  have q5 : 1 + (m : Int) ≤ (c : Int) := by omega
  have RZ : Lw.Rd w 1 (some (ad.add (1 + m))) (15 - (1 + m)) (Lw.intsV .u8 ((bs.take 15).drop (1 + m))) := Lw.Rd.drop RH.out (by omega)
  have RZ := Lib.hid RZ
  have AL := Lib.hid (fun A c w R => cell_all A (15 - (1 + m)) c ((bs.take 15).drop (1 + m)) w R (by omega))
  rw [hz] at AL
  have RB : Lw.Rd w 1 (some ⟨ad.block, ad.off + 1, none⟩) m (Lw.intsV .u8 ((bs.drop 1).take m)) := Lw.Rd.take (Lw.add_succ' ad 0 ▸ (Lw.Rd.drop R (m := 1) (d := 16) rfl)) (by omega)
  have RB := Lib.hid RB
  have q6 : (1 : Int) ≤ 1 + (m : Int) := by omega
  clear h l1 eb
  go_enter Try.func39, Try.ntmps39
  go_wp2_with (go_at_call 52; go_in)
  refine wp_region_held_drew (S := Lw.Sm w) (by kernel_rfl) (Lw.sm_drew w) (fun hHeld => ?_)
  (refine Lw.take1 (i := 0) (v := ?_) rfl (by kernel_rfl) (by kernel_rfl) (by kernel_rfl) (fun _ _ _ h => h) (Or.inl ⟨by rfl, ?_⟩) (by assumption) ?_; rotate_left 1; (focus (intro wS hSw; obtain ⟨hS1, hS2, hS3, hS4⟩ := hSw; go_simp <;> with_reducible rfl)); (try simp only [Act.put, List.setIfInBounds_toArray, List.set_cons_zero, List.set_cons_succ]))
  (refine Lw.take1 (i := 1) (v := ?_) rfl (by kernel_rfl) (by kernel_rfl) (by kernel_rfl) (fun _ _ _ h => h) (Or.inl ⟨by rfl, ?_⟩) (by assumption) ?_; rotate_left 1; (focus (intro wS hSw; obtain ⟨hS1, hS2, hS3, hS4⟩ := hSw; go_simp <;> with_reducible rfl)); (try simp only [Act.put, List.setIfInBounds_toArray, List.set_cons_zero, List.set_cons_succ]))
  (refine Lw.take1 (i := 2) (v := ?_) rfl (by kernel_rfl) (by kernel_rfl) (by kernel_rfl) (fun _ _ _ h => h) (Or.inl ⟨by rfl, ?_⟩) (by assumption) ?_; rotate_left 1; (focus (intro wS hSw; obtain ⟨hS1, hS2, hS3, hS4⟩ := hSw; go_simp <;> with_reducible rfl)); (try simp only [Act.put, List.setIfInBounds_toArray, List.set_cons_zero, List.set_cons_succ]))
  (refine Lw.take1 (i := 3) (v := ?_) rfl (by kernel_rfl) (by kernel_rfl) (by kernel_rfl) (fun _ _ _ h => h) (Or.inl ⟨by rfl, ?_⟩) (by assumption) ?_; rotate_left 1; (focus (intro wS hSw; obtain ⟨hS1, hS2, hS3, hS4⟩ := hSw; go_simp <;> with_reducible rfl)); (try simp only [Act.put, List.setIfInBounds_toArray, List.set_cons_zero, List.set_cons_succ]))
  (refine Lw.take1 (i := 4) (v := ?_) rfl (by kernel_rfl) (by kernel_rfl) (by kernel_rfl) (fun _ _ _ h => h) (Or.inl ⟨by rfl, ?_⟩) (by assumption) ?_; rotate_left 1; (focus (intro wS hSw; obtain ⟨hS1, hS2, hS3, hS4⟩ := hSw; go_simp <;> with_reducible rfl)); (try simp only [Act.put, List.setIfInBounds_toArray, List.set_cons_zero, List.set_cons_succ]))
  (refine wpAnyH_ready (rs := [5]) (by kernel_rfl) (by simp) ?_; refine Lw.cons1 (i := 5) rfl (fun K hK => ?_) AllReadyH.nil; go_simp; go_at_call 53; (with_reducible refine (S.out _ (RH.out.below (Nat.le_refl _) (Lw.sm_bel (Lw.sm_drew w)))).mono ?_); rintro e w4 ⟨A4, d4, rfl, own4, hb4⟩; refine hK.out _ _ ?_ (fun hHeld => ?_); (focus exact Lw.sm_keep (Lw.sm_drew w) hb4); clear hK K; (try simp only [Act.put, List.setIfInBounds_toArray, List.set_cons_zero, List.set_cons_succ]))
  have hS4 := Lw.sm_keep (Lw.sm_drew w) hb4
  (refine wpAnyH_ready (rs := [6]) (by kernel_rfl) (by simp) ?_; refine Lw.cons1 (i := 6) rfl (fun K hK => ?_) AllReadyH.nil; go_simp; go_at_call 56; (with_reducible refine (bytes_equal _ _ 2 2 _ _ (bs.drop 15) (Lw.sumL key count (bs.take 15)) _ (R15.out.below (Nat.le_refl _) (Lw.sm_bel hS4)) (Lw.Rd.of_own own4) (by decide) (by decide)).mono ?_); rintro e w5 ⟨rfl, hb5⟩; refine hK.out _ _ ?_ (fun hHeld => ?_); (focus exact Lw.sm_keep hS4 hb5); clear hK K; (try simp only [Act.put, List.setIfInBounds_toArray, List.set_cons_zero, List.set_cons_succ]))
  have hS5 := Lw.sm_keep hS4 hb5
  (refine Lw.take1 (i := 7) (v := ?_) rfl (by kernel_rfl) (by kernel_rfl) (by kernel_rfl) (fun _ _ _ h => h) (Or.inl ⟨by rfl, ?_⟩) (by assumption) ?_; rotate_left 1; (focus (intro wS hSw; obtain ⟨hS1, hS2, hS3, hS4⟩ := hSw; go_simp <;> with_reducible rfl)); (try simp only [Act.put, List.setIfInBounds_toArray, List.set_cons_zero, List.set_cons_succ]))
  refine wpAnyH_done (by kernel_rfl) ?_ _
  have hB5 := Lw.sm_bel hS5
  clear hHeld hS4 hS5 hb4 hb5 own4
  rw [hd.out]
  have d0 : w5.cell? ad = some (.int .u8 (m : Int)) := (hB5.cell hadb).trans c0
  go_wp2_with fail
  refine (AL.out _ _ _ (RZ.out.below (Nat.le_refl _) hB5)).mono ?_
  rintro e w6 ⟨rfl, hb6⟩
  go_wp2_with fail
  refine (bytes_clone _ m _ _ _ (RB.out.below (Nat.le_refl _) (Lw.bt hB5 hb6)) (Lw.intsV_one _ _) (by omega)).mono ?_
  rintro e w7 ⟨A7, d7, rfl, own7, hb7⟩
  go_wp2_with fail
  go_ret2
  exact ⟨A7, d7, rfl, Lw.ownsBase own7 (Lw.bt hB5 hb6).size, Lw.bt (Lw.bt hB5 hb6) hb7⟩
end Go.Proofs.Ytkjcpjbdckbjcaa
namespace Lw
open Go Go.RowKit
theorem all_rep : ∀ {z : List Int}, z.all (· == 0) = true → z = List.replicate z.length 0
  | [], _ => rfl
  | x :: z, h => by
    simp only [List.all_cons, Bool.and_eq_true, beq_iff_eq] at h
    rw [List.length_cons, List.replicate_succ, ← all_rep h.2, h.1]
/-- a cell that is made of its body anew is the cell just where its rest is zero -/
theorem read_math {key count : Int} {bs : List Int} {m : Nat} (l : bs.length = 17) (hm : bs[0]? = some (m : Int)) (h14 : m ≤ 14) (h : bs.drop 15 = sumL key count (bs.take 15)) :
    decide (cellL key count ((bs.drop 1).take m) = bs) = ((bs.take 15).drop (1 + m)).all (· == 0) := by
  obtain ⟨b, ts, rfl⟩ : ∃ b ts, bs = b :: ts := by
    cases bs with
    | nil => simp at l
    | cons b ts => exact ⟨b, ts, rfl⟩
  simp at hm; subst hm
  have lt : ts.length = 16 := by simpa using l
  have lb : (ts.take m).length = m := by rw [List.length_take]; omega
  have e15 : ((m : Int) :: ts).take 15 = (m : Int) :: (ts.take m ++ (ts.take 14).drop m) := by
    have : ts.take 14 = (ts.take 14).take m ++ (ts.take 14).drop m := (List.take_append_drop m _).symm
    rw [List.take_succ_cons, this, List.take_take, Nat.min_eq_left h14, List.drop_append_of_le_length (by rw [lb]; omega)]
    simp [lb]
  have ez : (((m : Int) :: ts).take 15).drop (1 + m) = (ts.take 14).drop m := by
    rw [show 1 + m = m + 1 by omega, List.take_succ_cons, List.drop_succ_cons]
  have lz : ((ts.take 14).drop m).length = 14 - m := by rw [List.length_drop, List.length_take]; omega
  rw [ez]
  simp only [List.drop_succ_cons, List.drop_zero]
  have hH : cellH (ts.take m) = (m : Int) :: (ts.take m ++ List.replicate (14 - m) 0) := by unfold cellH; rw [lb]
  cases hz : ((ts.take 14).drop m).all (· == 0)
  · apply decide_eq_false
    intro e
    have e2 : (cellL key count (ts.take m)).take 15 = ((m : Int) :: ts).take 15 := by rw [e]
    unfold cellL at e2
    rw [List.take_append_of_le_length (Nat.le_of_eq (cellH_length (by omega)).symm), List.take_of_length_le (Nat.le_of_eq (cellH_length (by omega))), hH, e15] at e2
    injection e2 with _ e2
    have e3 := List.append_cancel_left e2
    rw [← e3, List.all_eq_false] at hz
    obtain ⟨x, hx, hne⟩ := hz
    exact hne (by simp [(List.mem_replicate.1 hx).2])
  · apply decide_eq_true
    have e3 := all_rep hz
    rw [lz] at e3
    have eH : cellH (ts.take m) = ((m : Int) :: ts).take 15 := by rw [hH, e15, ← e3]
    unfold cellL
    rw [eH, ← h, List.take_append_drop]
end Lw
set_option linter.unusedVariables false
set_option linter.unusedSimpArgs false
namespace Go.Proofs.Ytkjcpjbdckbjcaa
open Go.RowKit
set_option maxHeartbeats 2000000 in
theorem ref_ReadCell_sum (key count : Int) (ad : Addr) (c : Nat) (bs : List Int) (w : World) (R : Lw.Rd w 1 (some ad) 17 (Lw.intsV .u8 bs)) (hy : Lw.Byt bs) (hc : 17 ≤ c) (k1 : 0 ≤ key) (k2 : key < 65536) (c1 : 0 ≤ count) (c2 : count ≤ 2147483648) (h : ¬ bs.drop 15 = Lw.sumL key count (bs.take 15)) :
    Calls Try.prog 25 #[.int .i64 key, .int .i64 count, .slice (some ad) 17 c] w fun e w' => e = .returned (.tuple #[.slice none 0 0, .int .i64 8]) ∧ Below w.heap.size w w' := by
  have l1 : bs.length = 17 := by have := R.1; simpa [Lw.intsV] using this
  have R15 : Lw.Rd w 1 (some ⟨ad.block, ad.off + 15, none⟩) 2 (Lw.intsV .u8 (bs.drop 15)) := Lw.add_succ' ad 14 ▸ (Lw.Rd.drop R (m := 15) (d := 2) rfl)
  have RH : Lw.Rd w 1 (some ad) 15 (Lw.intsV .u8 (bs.take 15)) := Lw.Rd.take R (by decide)
  have hyH : Lw.Byt (bs.take 15) := fun z hz => hy z (List.mem_of_mem_take hz)
  have C := fun (A : Option Addr) (c : Nat) (w : World) R => ref_Sum A (6 + 15) c (Lw.namedL key count ++ bs.take 15) w R ((Lw.namedL_byt _ _).app hyH) (by omega)
  rw [Lw.intsV_app] at C
  obtain ⟨s1, s2⟩ := Lw.hsum_bd (Lw.namedL key count ++ bs.take 15)
  have E2 : Hid (Lw.sumL key count (bs.take 15) = Lw.littleL (Lw.hsum (Lw.namedL key count ++ bs.take 15)) 2) := rfl
  generalize Lw.hsum (Lw.namedL key count ++ bs.take 15) = s at *
  have LT : Hid (∀ w : World, Calls Try.prog 22 #[.int .i64 s, .int .i64 2] w (Lw.OwnRes 5 1 (Lw.intsV .u8 (Lw.littleL s 2)) 2 w)) := fun w => ref_little s 2 w s1 (by omega) (by omega)
  have C := Lib.hid C
  have RH := Lib.hid RH
  have R15 := Lib.hid R15
  have b1 : (15 : Int) ≤ 17 := by decide
  have b2 : (17 : Int) ≤ (c : Int) := by omega
  have b3 : ¬ c = 15 := by omega
  have hd : decide (bs.drop 15 = Lw.sumL key count (bs.take 15)) = false := decide_eq_false h
  have hd := Lib.hid hd
  clear h l1
  go_enter Try.func25, Try.ntmps25
  go_wp2
  refine wp_region_held_drew (S := Lw.Sm w) (by kernel_rfl) (Lw.sm_drew w) (fun hHeld => ?_)
  (refine Lw.take1 (i := 0) (v := ?_) rfl (by kernel_rfl) (by kernel_rfl) (by kernel_rfl) (fun _ _ _ h => h) (Or.inl ⟨by rfl, ?_⟩) (by assumption) ?_; rotate_left 1; (focus (intro wS hSw; obtain ⟨hS1, hS2, hS3, hS4⟩ := hSw; go_simp <;> with_reducible rfl)); (try simp only [Act.put, List.setIfInBounds_toArray, List.set_cons_zero, List.set_cons_succ]))
  (refine Lw.take1 (i := 1) (v := ?_) rfl (by kernel_rfl) (by kernel_rfl) (by kernel_rfl) (fun _ _ _ h => h) (Or.inl ⟨by rfl, ?_⟩) (by assumption) ?_; rotate_left 1; (focus (intro wS hSw; obtain ⟨hS1, hS2, hS3, hS4⟩ := hSw; go_simp <;> with_reducible rfl)); (try simp only [Act.put, List.setIfInBounds_toArray, List.set_cons_zero, List.set_cons_succ]))
  (refine Lw.take1 (i := 2) (v := ?_) rfl (by kernel_rfl) (by kernel_rfl) (by kernel_rfl) (fun _ _ _ h => h) (Or.inl ⟨by rfl, ?_⟩) (by assumption) ?_; rotate_left 1; (focus (intro wS hSw; obtain ⟨hS1, hS2, hS3, hS4⟩ := hSw; go_simp <;> with_reducible rfl)); (try simp only [Act.put, List.setIfInBounds_toArray, List.set_cons_zero, List.set_cons_succ]))
  (refine Lw.take1 (i := 3) (v := ?_) rfl (by kernel_rfl) (by kernel_rfl) (by kernel_rfl) (fun _ _ _ h => h) (Or.inl ⟨by rfl, ?_⟩) (by assumption) ?_; rotate_left 1; (focus (intro wS hSw; obtain ⟨hS1, hS2, hS3, hS4⟩ := hSw; go_simp <;> with_reducible rfl)); (try simp only [Act.put, List.setIfInBounds_toArray, List.set_cons_zero, List.set_cons_succ]))
  (refine Lw.take1 (i := 5) (v := ?_) rfl (by kernel_rfl) (by kernel_rfl) (by kernel_rfl) (fun _ _ _ h => h) (Or.inl ⟨by rfl, ?_⟩) (by assumption) ?_; rotate_left 1; (focus (intro wS hSw; obtain ⟨hS1, hS2, hS3, hS4⟩ := hSw; go_simp <;> with_reducible rfl)); (try simp only [Act.put, List.setIfInBounds_toArray, List.set_cons_zero, List.set_cons_succ]))
  have hS0 := Lw.sm_drew w
  (refine wpAnyH_ready (rs := [4]) (by kernel_rfl) (by simp) ?_; refine Lw.cons1 (i := 4) rfl (fun K hK => ?_) AllReadyH.nil; go_simp; go_at_call 44; (with_reducible refine (ref_named key count _ k1 (by omega) c1 (by omega)).mono ?_); rintro e w1 ⟨A1, d1, rfl, own1, hb1⟩; refine hK.out _ _ ?_ (fun hHeld => ?_); (focus exact Lw.sm_keep hS0 hb1); clear hK K; (try simp only [Act.put, List.setIfInBounds_toArray, List.set_cons_zero, List.set_cons_succ]))
  have hS1 := Lw.sm_keep hS0 hb1
  (refine wpAnyH_ready (rs := [6]) (by kernel_rfl) (by simp) ?_; refine Lw.cons1 (i := 6) rfl (fun K hK => ?_) AllReadyH.nil; refine Lw.step_app elByte rfl _ _ rfl rfl own1 rfl (RH.out.below (Nat.le_refl _) (Lw.sm_bel hS1)) (Lw.intsV_one _ _) (by omega) (Lw.sm_bel hS1) (Nat.le_refl _) hb1.size ?_; intro w2' w2 own2 hb2 _ _; refine hK.out _ _ ?_ (fun hHeld => ?_); (focus exact Lw.sm_of hb2); clear hK K; (try simp only [Act.put, List.setIfInBounds_toArray, List.set_cons_zero, List.set_cons_succ]))
  obtain ⟨A2, d2, rfl, _⟩ := Lw.ownsForm own2
  have hS2 : Lw.Sm w w2 := Lw.sm_of hb2
  (refine wpAnyH_ready (rs := [7]) (by kernel_rfl) (by simp) ?_; refine Lw.cons1 (i := 7) rfl (fun K hK => ?_) AllReadyH.nil; go_simp; go_at_call 43; (with_reducible refine (C.out _ _ _ (Lw.Rd.of_own own2)).mono ?_); rintro e w3 ⟨rfl, hb3⟩; refine hK.out _ _ ?_ (fun hHeld => ?_); (focus exact Lw.sm_keep hS2 hb3); clear hK K; (try simp only [Act.put, List.setIfInBounds_toArray, List.set_cons_zero, List.set_cons_succ]))
  have hS3 := Lw.sm_keep hS2 hb3
  (refine wpAnyH_ready (rs := [8]) (by kernel_rfl) (by simp) ?_; refine Lw.cons1 (i := 8) rfl (fun K hK => ?_) AllReadyH.nil; go_simp; go_at_call 22; (with_reducible refine (LT.out _).mono ?_); rintro e w4 ⟨A4, d4, rfl, own4, hb4⟩; refine hK.out _ _ ?_ (fun hHeld => ?_); (focus exact Lw.sm_keep hS3 hb4); clear hK K; (try simp only [Act.put, List.setIfInBounds_toArray, List.set_cons_zero, List.set_cons_succ]))
  have hS4 := Lw.sm_keep hS3 hb4
  rw [← E2.out] at own4
  (refine wpAnyH_ready (rs := [9]) (by kernel_rfl) (by simp) ?_; refine Lw.cons1 (i := 9) rfl (fun K hK => ?_) AllReadyH.nil; go_simp; go_at_call 8; (with_reducible refine (ref_Bytes _ _ 2 2 _ _ (bs.drop 15) (Lw.sumL key count (bs.take 15)) _ (R15.out.below (Nat.le_refl _) (Lw.sm_bel hS4)) (Lw.Rd.of_own own4) (by decide) (by decide)).mono ?_); rintro e w5 ⟨rfl, hb5⟩; refine hK.out _ _ ?_ (fun hHeld => ?_); (focus exact Lw.sm_keep hS4 hb5); clear hK K; (try simp only [Act.put, List.setIfInBounds_toArray, List.set_cons_zero, List.set_cons_succ]))
  have hS5 := Lw.sm_keep hS4 hb5
  (refine Lw.take1 (i := 10) (v := ?_) rfl (by kernel_rfl) (by kernel_rfl) (by kernel_rfl) (fun _ _ _ h => h) (Or.inl ⟨by rfl, ?_⟩) (by assumption) ?_; rotate_left 1; (focus (intro wS hSw; obtain ⟨hS1, hS2, hS3, hS4⟩ := hSw; go_simp <;> with_reducible rfl)); (try simp only [Act.put, List.setIfInBounds_toArray, List.set_cons_zero, List.set_cons_succ]))
  refine wpAnyH_done (by kernel_rfl) ?_ _
  have hB5 := Lw.sm_bel hS5
  clear hHeld hS0 hS1 hS2 hS3 hS4 hS5 hb1 hb2 hb3 hb4 hb5 own1 own2 own4
  rw [hd.out]
  go_wp2
  go_ret2
  exact ⟨rfl, hB5⟩
set_option maxHeartbeats 2000000 in
theorem ref_ReadCell_big (key count : Int) (ad : Addr) (c : Nat) (bs : List Int) (w : World) (R : Lw.Rd w 1 (some ad) 17 (Lw.intsV .u8 bs)) (hy : Lw.Byt bs) (hc : 17 ≤ c) (k1 : 0 ≤ key) (k2 : key < 65536) (c1 : 0 ≤ count) (c2 : count ≤ 2147483648) (h : bs.drop 15 = Lw.sumL key count (bs.take 15)) (m : Nat) (hm : bs[0]? = some (m : Int)) (hm14 : 14 < m) :
    Calls Try.prog 25 #[.int .i64 key, .int .i64 count, .slice (some ad) 17 c] w fun e w' => e = .returned (.tuple #[.slice none 0 0, .int .i64 4]) ∧ Below w.heap.size w w' := by
  have l1 : bs.length = 17 := by have := R.1; simpa [Lw.intsV] using this
  have R15 : Lw.Rd w 1 (some ⟨ad.block, ad.off + 15, none⟩) 2 (Lw.intsV .u8 (bs.drop 15)) := Lw.add_succ' ad 14 ▸ (Lw.Rd.drop R (m := 15) (d := 2) rfl)
  have RH : Lw.Rd w 1 (some ad) 15 (Lw.intsV .u8 (bs.take 15)) := Lw.Rd.take R (by decide)
  have hyH : Lw.Byt (bs.take 15) := fun z hz => hy z (List.mem_of_mem_take hz)
  have C := fun (A : Option Addr) (c : Nat) (w : World) R => ref_Sum A (6 + 15) c (Lw.namedL key count ++ bs.take 15) w R ((Lw.namedL_byt _ _).app hyH) (by omega)
  rw [Lw.intsV_app] at C
  obtain ⟨s1, s2⟩ := Lw.hsum_bd (Lw.namedL key count ++ bs.take 15)
  have E2 : Hid (Lw.sumL key count (bs.take 15) = Lw.littleL (Lw.hsum (Lw.namedL key count ++ bs.take 15)) 2) := rfl
  generalize Lw.hsum (Lw.namedL key count ++ bs.take 15) = s at *
  have LT : Hid (∀ w : World, Calls Try.prog 22 #[.int .i64 s, .int .i64 2] w (Lw.OwnRes 5 1 (Lw.intsV .u8 (Lw.littleL s 2)) 2 w)) := fun w => ref_little s 2 w s1 (by omega) (by omega)
  have C := Lib.hid C
  have RH := Lib.hid RH
  have R15 := Lib.hid R15
  have b1 : (15 : Int) ≤ 17 := by decide
  have b2 : (17 : Int) ≤ (c : Int) := by omega
  have b3 : ¬ c = 15 := by omega
  have hd : decide (bs.drop 15 = Lw.sumL key count (bs.take 15)) = true := decide_eq_true h
  have hd := Lib.hid hd
  have c0 := Lw.rd_first R hm
  obtain ⟨_, eb, hadb, _⟩ := R.2 (by decide)
  obtain rfl : ad = _ := by injection eb
  have mb : (0 : Int) ≤ (m : Int) ∧ (m : Int) < 256 := hy _ (List.mem_of_getElem? hm)
  have mb2 : m < 256 := by omega
  have m1 : (14 : Int) < (m : Int) := by omega
  clear h l1 eb
  go_enter Try.func25, Try.ntmps25
  go_wp2
  refine wp_region_held_drew (S := Lw.Sm w) (by kernel_rfl) (Lw.sm_drew w) (fun hHeld => ?_)
  (refine Lw.take1 (i := 0) (v := ?_) rfl (by kernel_rfl) (by kernel_rfl) (by kernel_rfl) (fun _ _ _ h => h) (Or.inl ⟨by rfl, ?_⟩) (by assumption) ?_; rotate_left 1; (focus (intro wS hSw; obtain ⟨hS1, hS2, hS3, hS4⟩ := hSw; go_simp <;> with_reducible rfl)); (try simp only [Act.put, List.setIfInBounds_toArray, List.set_cons_zero, List.set_cons_succ]))
  (refine Lw.take1 (i := 1) (v := ?_) rfl (by kernel_rfl) (by kernel_rfl) (by kernel_rfl) (fun _ _ _ h => h) (Or.inl ⟨by rfl, ?_⟩) (by assumption) ?_; rotate_left 1; (focus (intro wS hSw; obtain ⟨hS1, hS2, hS3, hS4⟩ := hSw; go_simp <;> with_reducible rfl)); (try simp only [Act.put, List.setIfInBounds_toArray, List.set_cons_zero, List.set_cons_succ]))
  (refine Lw.take1 (i := 2) (v := ?_) rfl (by kernel_rfl) (by kernel_rfl) (by kernel_rfl) (fun _ _ _ h => h) (Or.inl ⟨by rfl, ?_⟩) (by assumption) ?_; rotate_left 1; (focus (intro wS hSw; obtain ⟨hS1, hS2, hS3, hS4⟩ := hSw; go_simp <;> with_reducible rfl)); (try simp only [Act.put, List.setIfInBounds_toArray, List.set_cons_zero, List.set_cons_succ]))
  (refine Lw.take1 (i := 3) (v := ?_) rfl (by kernel_rfl) (by kernel_rfl) (by kernel_rfl) (fun _ _ _ h => h) (Or.inl ⟨by rfl, ?_⟩) (by assumption) ?_; rotate_left 1; (focus (intro wS hSw; obtain ⟨hS1, hS2, hS3, hS4⟩ := hSw; go_simp <;> with_reducible rfl)); (try simp only [Act.put, List.setIfInBounds_toArray, List.set_cons_zero, List.set_cons_succ]))
  (refine Lw.take1 (i := 5) (v := ?_) rfl (by kernel_rfl) (by kernel_rfl) (by kernel_rfl) (fun _ _ _ h => h) (Or.inl ⟨by rfl, ?_⟩) (by assumption) ?_; rotate_left 1; (focus (intro wS hSw; obtain ⟨hS1, hS2, hS3, hS4⟩ := hSw; go_simp <;> with_reducible rfl)); (try simp only [Act.put, List.setIfInBounds_toArray, List.set_cons_zero, List.set_cons_succ]))
  have hS0 := Lw.sm_drew w
  (refine wpAnyH_ready (rs := [4]) (by kernel_rfl) (by simp) ?_; refine Lw.cons1 (i := 4) rfl (fun K hK => ?_) AllReadyH.nil; go_simp; go_at_call 44; (with_reducible refine (ref_named key count _ k1 (by omega) c1 (by omega)).mono ?_); rintro e w1 ⟨A1, d1, rfl, own1, hb1⟩; refine hK.out _ _ ?_ (fun hHeld => ?_); (focus exact Lw.sm_keep hS0 hb1); clear hK K; (try simp only [Act.put, List.setIfInBounds_toArray, List.set_cons_zero, List.set_cons_succ]))
  have hS1 := Lw.sm_keep hS0 hb1
  (refine wpAnyH_ready (rs := [6]) (by kernel_rfl) (by simp) ?_; refine Lw.cons1 (i := 6) rfl (fun K hK => ?_) AllReadyH.nil; refine Lw.step_app elByte rfl _ _ rfl rfl own1 rfl (RH.out.below (Nat.le_refl _) (Lw.sm_bel hS1)) (Lw.intsV_one _ _) (by omega) (Lw.sm_bel hS1) (Nat.le_refl _) hb1.size ?_; intro w2' w2 own2 hb2 _ _; refine hK.out _ _ ?_ (fun hHeld => ?_); (focus exact Lw.sm_of hb2); clear hK K; (try simp only [Act.put, List.setIfInBounds_toArray, List.set_cons_zero, List.set_cons_succ]))
  obtain ⟨A2, d2, rfl, _⟩ := Lw.ownsForm own2
  have hS2 : Lw.Sm w w2 := Lw.sm_of hb2
  (refine wpAnyH_ready (rs := [7]) (by kernel_rfl) (by simp) ?_; refine Lw.cons1 (i := 7) rfl (fun K hK => ?_) AllReadyH.nil; go_simp; go_at_call 43; (with_reducible refine (C.out _ _ _ (Lw.Rd.of_own own2)).mono ?_); rintro e w3 ⟨rfl, hb3⟩; refine hK.out _ _ ?_ (fun hHeld => ?_); (focus exact Lw.sm_keep hS2 hb3); clear hK K; (try simp only [Act.put, List.setIfInBounds_toArray, List.set_cons_zero, List.set_cons_succ]))
  have hS3 := Lw.sm_keep hS2 hb3
  (refine wpAnyH_ready (rs := [8]) (by kernel_rfl) (by simp) ?_; refine Lw.cons1 (i := 8) rfl (fun K hK => ?_) AllReadyH.nil; go_simp; go_at_call 22; (with_reducible refine (LT.out _).mono ?_); rintro e w4 ⟨A4, d4, rfl, own4, hb4⟩; refine hK.out _ _ ?_ (fun hHeld => ?_); (focus exact Lw.sm_keep hS3 hb4); clear hK K; (try simp only [Act.put, List.setIfInBounds_toArray, List.set_cons_zero, List.set_cons_succ]))
  have hS4 := Lw.sm_keep hS3 hb4
  rw [← E2.out] at own4
  (refine wpAnyH_ready (rs := [9]) (by kernel_rfl) (by simp) ?_; refine Lw.cons1 (i := 9) rfl (fun K hK => ?_) AllReadyH.nil; go_simp; go_at_call 8; (with_reducible refine (ref_Bytes _ _ 2 2 _ _ (bs.drop 15) (Lw.sumL key count (bs.take 15)) _ (R15.out.below (Nat.le_refl _) (Lw.sm_bel hS4)) (Lw.Rd.of_own own4) (by decide) (by decide)).mono ?_); rintro e w5 ⟨rfl, hb5⟩; refine hK.out _ _ ?_ (fun hHeld => ?_); (focus exact Lw.sm_keep hS4 hb5); clear hK K; (try simp only [Act.put, List.setIfInBounds_toArray, List.set_cons_zero, List.set_cons_succ]))
  have hS5 := Lw.sm_keep hS4 hb5
  (refine Lw.take1 (i := 10) (v := ?_) rfl (by kernel_rfl) (by kernel_rfl) (by kernel_rfl) (fun _ _ _ h => h) (Or.inl ⟨by rfl, ?_⟩) (by assumption) ?_; rotate_left 1; (focus (intro wS hSw; obtain ⟨hS1, hS2, hS3, hS4⟩ := hSw; go_simp <;> with_reducible rfl)); (try simp only [Act.put, List.setIfInBounds_toArray, List.set_cons_zero, List.set_cons_succ]))
  refine wpAnyH_done (by kernel_rfl) ?_ _
  have hB5 := Lw.sm_bel hS5
  clear hHeld hS0 hS1 hS2 hS3 hS4 hS5 hb1 hb2 hb3 hb4 hb5 own1 own2 own4
  rw [hd.out]
  have d0 : w5.cell? ad = some (.int .u8 (m : Int)) := (hB5.cell hadb).trans c0
  go_wp2
  go_ret2
  exact ⟨rfl, hB5⟩
set_option maxHeartbeats 2000000 in
theorem ref_ReadCell_zero (key count : Int) (ad : Addr) (c : Nat) (bs : List Int) (w : World) (R : Lw.Rd w 1 (some ad) 17 (Lw.intsV .u8 bs)) (hy : Lw.Byt bs) (hc : 17 ≤ c) (k1 : 0 ≤ key) (k2 : key < 65536) (c1 : 0 ≤ count) (c2 : count ≤ 2147483648) (h : bs.drop 15 = Lw.sumL key count (bs.take 15)) (m : Nat) (hm : bs[0]? = some (m : Int)) (hm14 : m ≤ 14) (hz : ((bs.take 15).drop (1 + m)).all (· == 0) = false) :
    Calls Try.prog 25 #[.int .i64 key, .int .i64 count, .slice (some ad) 17 c] w fun e w' => e = .returned (.tuple #[.slice none 0 0, .int .i64 4]) ∧ Below w.heap.size w w' := by
  have l1 : bs.length = 17 := by have := R.1; simpa [Lw.intsV] using this
  have R15 : Lw.Rd w 1 (some ⟨ad.block, ad.off + 15, none⟩) 2 (Lw.intsV .u8 (bs.drop 15)) := Lw.add_succ' ad 14 ▸ (Lw.Rd.drop R (m := 15) (d := 2) rfl)
  have RH : Lw.Rd w 1 (some ad) 15 (Lw.intsV .u8 (bs.take 15)) := Lw.Rd.take R (by decide)
  have hyH : Lw.Byt (bs.take 15) := fun z hz => hy z (List.mem_of_mem_take hz)
  have C := fun (A : Option Addr) (c : Nat) (w : World) R => ref_Sum A (6 + 15) c (Lw.namedL key count ++ bs.take 15) w R ((Lw.namedL_byt _ _).app hyH) (by omega)
  rw [Lw.intsV_app] at C
  obtain ⟨s1, s2⟩ := Lw.hsum_bd (Lw.namedL key count ++ bs.take 15)
  have E2 : Hid (Lw.sumL key count (bs.take 15) = Lw.littleL (Lw.hsum (Lw.namedL key count ++ bs.take 15)) 2) := rfl
  generalize Lw.hsum (Lw.namedL key count ++ bs.take 15) = s at *
  have LT : Hid (∀ w : World, Calls Try.prog 22 #[.int .i64 s, .int .i64 2] w (Lw.OwnRes 5 1 (Lw.intsV .u8 (Lw.littleL s 2)) 2 w)) := fun w => ref_little s 2 w s1 (by omega) (by omega)
  have C := Lib.hid C
  have RH := Lib.hid RH
  have R15 := Lib.hid R15
  have b1 : (15 : Int) ≤ 17 := by decide
  have b2 : (17 : Int) ≤ (c : Int) := by omega
  have b3 : ¬ c = 15 := by omega
  have hd : decide (bs.drop 15 = Lw.sumL key count (bs.take 15)) = true := decide_eq_true h
  have hd := Lib.hid hd
  have c0 := Lw.rd_first R hm
  obtain ⟨_, eb, hadb, _⟩ := R.2 (by decide)
  obtain rfl : ad = _ := by injection eb
  have mb : (0 : Int) ≤ (m : Int) ∧ (m : Int) < 256 := hy _ (List.mem_of_getElem? hm)
  have mb2 : m < 256 := by omega
  have m1 : ¬ (14 : Int) < (m : Int) := by omega
  have q1 : (0 : Int) ≤ 1 + (m : Int) := by omega
  have q3 : (1 + (m : Int)).toNat = 1 + m := by omega
  have q5 : 1 + (m : Int) ≤ (c : Int) := by omega
  have q6 : (1 : Int) ≤ 1 + (m : Int) := by omega
  have RB : Lw.Rd w 1 (some ⟨ad.block, ad.off + 1, none⟩) m (Lw.intsV .u8 ((bs.drop 1).take m)) := Lw.Rd.take (Lw.add_succ' ad 0 ▸ (Lw.Rd.drop R (m := 1) (d := 16) rfl)) (by omega)
  have RB := Lib.hid RB
  have RA := Lib.hid R
  have hyB : Lw.Byt ((bs.drop 1).take m) := fun z hz => hy z (List.mem_of_mem_drop (List.mem_of_mem_take hz))
  have CE := Lib.hid (fun A c w R => ref_Cell key count A m c ((bs.drop 1).take m) w R hyB hm14 k1 k2 c1 c2)
  have MA : Hid (decide (Lw.cellL key count ((bs.drop 1).take m) = bs) = _) := (Lw.read_math l1 hm hm14 h).trans hz
  clear h l1 eb
  go_enter Try.func25, Try.ntmps25
  go_wp2
  refine wp_region_held_drew (S := Lw.Sm w) (by kernel_rfl) (Lw.sm_drew w) (fun hHeld => ?_)
  (refine Lw.take1 (i := 0) (v := ?_) rfl (by kernel_rfl) (by kernel_rfl) (by kernel_rfl) (fun _ _ _ h => h) (Or.inl ⟨by rfl, ?_⟩) (by assumption) ?_; rotate_left 1; (focus (intro wS hSw; obtain ⟨hS1, hS2, hS3, hS4⟩ := hSw; go_simp <;> with_reducible rfl)); (try simp only [Act.put, List.setIfInBounds_toArray, List.set_cons_zero, List.set_cons_succ]))
  (refine Lw.take1 (i := 1) (v := ?_) rfl (by kernel_rfl) (by kernel_rfl) (by kernel_rfl) (fun _ _ _ h => h) (Or.inl ⟨by rfl, ?_⟩) (by assumption) ?_; rotate_left 1; (focus (intro wS hSw; obtain ⟨hS1, hS2, hS3, hS4⟩ := hSw; go_simp <;> with_reducible rfl)); (try simp only [Act.put, List.setIfInBounds_toArray, List.set_cons_zero, List.set_cons_succ]))
  (refine Lw.take1 (i := 2) (v := ?_) rfl (by kernel_rfl) (by kernel_rfl) (by kernel_rfl) (fun _ _ _ h => h) (Or.inl ⟨by rfl, ?_⟩) (by assumption) ?_; rotate_left 1; (focus (intro wS hSw; obtain ⟨hS1, hS2, hS3, hS4⟩ := hSw; go_simp <;> with_reducible rfl)); (try simp only [Act.put, List.setIfInBounds_toArray, List.set_cons_zero, List.set_cons_succ]))
  (refine Lw.take1 (i := 3) (v := ?_) rfl (by kernel_rfl) (by kernel_rfl) (by kernel_rfl) (fun _ _ _ h => h) (Or.inl ⟨by rfl, ?_⟩) (by assumption) ?_; rotate_left 1; (focus (intro wS hSw; obtain ⟨hS1, hS2, hS3, hS4⟩ := hSw; go_simp <;> with_reducible rfl)); (try simp only [Act.put, List.setIfInBounds_toArray, List.set_cons_zero, List.set_cons_succ]))
  (refine Lw.take1 (i := 5) (v := ?_) rfl (by kernel_rfl) (by kernel_rfl) (by kernel_rfl) (fun _ _ _ h => h) (Or.inl ⟨by rfl, ?_⟩) (by assumption) ?_; rotate_left 1; (focus (intro wS hSw; obtain ⟨hS1, hS2, hS3, hS4⟩ := hSw; go_simp <;> with_reducible rfl)); (try simp only [Act.put, List.setIfInBounds_toArray, List.set_cons_zero, List.set_cons_succ]))
  have hS0 := Lw.sm_drew w
  (refine wpAnyH_ready (rs := [4]) (by kernel_rfl) (by simp) ?_; refine Lw.cons1 (i := 4) rfl (fun K hK => ?_) AllReadyH.nil; go_simp; go_at_call 44; (with_reducible refine (ref_named key count _ k1 (by omega) c1 (by omega)).mono ?_); rintro e w1 ⟨A1, d1, rfl, own1, hb1⟩; refine hK.out _ _ ?_ (fun hHeld => ?_); (focus exact Lw.sm_keep hS0 hb1); clear hK K; (try simp only [Act.put, List.setIfInBounds_toArray, List.set_cons_zero, List.set_cons_succ]))
  have hS1 := Lw.sm_keep hS0 hb1
  (refine wpAnyH_ready (rs := [6]) (by kernel_rfl) (by simp) ?_; refine Lw.cons1 (i := 6) rfl (fun K hK => ?_) AllReadyH.nil; refine Lw.step_app elByte rfl _ _ rfl rfl own1 rfl (RH.out.below (Nat.le_refl _) (Lw.sm_bel hS1)) (Lw.intsV_one _ _) (by omega) (Lw.sm_bel hS1) (Nat.le_refl _) hb1.size ?_; intro w2' w2 own2 hb2 _ _; refine hK.out _ _ ?_ (fun hHeld => ?_); (focus exact Lw.sm_of hb2); clear hK K; (try simp only [Act.put, List.setIfInBounds_toArray, List.set_cons_zero, List.set_cons_succ]))
  obtain ⟨A2, d2, rfl, _⟩ := Lw.ownsForm own2
  have hS2 : Lw.Sm w w2 := Lw.sm_of hb2
  (refine wpAnyH_ready (rs := [7]) (by kernel_rfl) (by simp) ?_; refine Lw.cons1 (i := 7) rfl (fun K hK => ?_) AllReadyH.nil; go_simp; go_at_call 43; (with_reducible refine (C.out _ _ _ (Lw.Rd.of_own own2)).mono ?_); rintro e w3 ⟨rfl, hb3⟩; refine hK.out _ _ ?_ (fun hHeld => ?_); (focus exact Lw.sm_keep hS2 hb3); clear hK K; (try simp only [Act.put, List.setIfInBounds_toArray, List.set_cons_zero, List.set_cons_succ]))
  have hS3 := Lw.sm_keep hS2 hb3
  (refine wpAnyH_ready (rs := [8]) (by kernel_rfl) (by simp) ?_; refine Lw.cons1 (i := 8) rfl (fun K hK => ?_) AllReadyH.nil; go_simp; go_at_call 22; (with_reducible refine (LT.out _).mono ?_); rintro e w4 ⟨A4, d4, rfl, own4, hb4⟩; refine hK.out _ _ ?_ (fun hHeld => ?_); (focus exact Lw.sm_keep hS3 hb4); clear hK K; (try simp only [Act.put, List.setIfInBounds_toArray, List.set_cons_zero, List.set_cons_succ]))
  have hS4 := Lw.sm_keep hS3 hb4
  rw [← E2.out] at own4
  (refine wpAnyH_ready (rs := [9]) (by kernel_rfl) (by simp) ?_; refine Lw.cons1 (i := 9) rfl (fun K hK => ?_) AllReadyH.nil; go_simp; go_at_call 8; (with_reducible refine (ref_Bytes _ _ 2 2 _ _ (bs.drop 15) (Lw.sumL key count (bs.take 15)) _ (R15.out.below (Nat.le_refl _) (Lw.sm_bel hS4)) (Lw.Rd.of_own own4) (by decide) (by decide)).mono ?_); rintro e w5 ⟨rfl, hb5⟩; refine hK.out _ _ ?_ (fun hHeld => ?_); (focus exact Lw.sm_keep hS4 hb5); clear hK K; (try simp only [Act.put, List.setIfInBounds_toArray, List.set_cons_zero, List.set_cons_succ]))
  have hS5 := Lw.sm_keep hS4 hb5
  (refine Lw.take1 (i := 10) (v := ?_) rfl (by kernel_rfl) (by kernel_rfl) (by kernel_rfl) (fun _ _ _ h => h) (Or.inl ⟨by rfl, ?_⟩) (by assumption) ?_; rotate_left 1; (focus (intro wS hSw; obtain ⟨hS1, hS2, hS3, hS4⟩ := hSw; go_simp <;> with_reducible rfl)); (try simp only [Act.put, List.setIfInBounds_toArray, List.set_cons_zero, List.set_cons_succ]))
  refine wpAnyH_done (by kernel_rfl) ?_ _
  have hB5 := Lw.sm_bel hS5
  clear hHeld hS0 hS1 hS2 hS3 hS4 hS5 hb1 hb2 hb3 hb4 hb5 own1 own2 own4
  rw [hd.out]
  have d0 : w5.cell? ad = some (.int .u8 (m : Int)) := (hB5.cell hadb).trans c0
  go_wp2_with fail
  refine (CE.out _ _ _ (RB.out.below (Nat.le_refl _) hB5)).mono ?_
  rintro e w6 ⟨A6, d6, rfl, own6, hb6⟩
  go_wp2_with fail
  refine (ref_Bytes _ _ 17 17 _ _ (Lw.cellL key count ((bs.drop 1).take m)) bs _ (Lw.Rd.of_own own6) (RA.out.below (Nat.le_refl _) (Lw.bt hB5 hb6)) (by decide) (by decide)).mono ?_
  rintro e w7 ⟨rfl, hb7⟩
  rw [MA.out]
  have hB7 := Lw.bt (Lw.bt hB5 hb6) hb7
  clear own6 hb6 hb7
  go_wp2_with fail
  go_ret2
  exact ⟨rfl, hB7⟩
set_option maxHeartbeats 2000000 in
theorem ref_ReadCell_ok (key count : Int) (ad : Addr) (c : Nat) (bs : List Int) (w : World) (R : Lw.Rd w 1 (some ad) 17 (Lw.intsV .u8 bs)) (hy : Lw.Byt bs) (hc : 17 ≤ c) (k1 : 0 ≤ key) (k2 : key < 65536) (c1 : 0 ≤ count) (c2 : count ≤ 2147483648) (h : bs.drop 15 = Lw.sumL key count (bs.take 15)) (m : Nat) (hm : bs[0]? = some (m : Int)) (hm14 : m ≤ 14) (hz : ((bs.take 15).drop (1 + m)).all (· == 0) = true) :
    Calls Try.prog 25 #[.int .i64 key, .int .i64 count, .slice (some ad) 17 c] w fun e w' => ∃ A' c', e = .returned (.tuple #[.slice A' m c', .int .i64 0]) ∧ w'.ownsRow w.heap.size 5 1 (.slice A' m c') m (Lw.intsV .u8 ((bs.drop 1).take m)) ∧ Below w.heap.size w w' := by
  have l1 : bs.length = 17 := by have := R.1; simpa [Lw.intsV] using this
  have R15 : Lw.Rd w 1 (some ⟨ad.block, ad.off + 15, none⟩) 2 (Lw.intsV .u8 (bs.drop 15)) := Lw.add_succ' ad 14 ▸ (Lw.Rd.drop R (m := 15) (d := 2) rfl)
  have RH : Lw.Rd w 1 (some ad) 15 (Lw.intsV .u8 (bs.take 15)) := Lw.Rd.take R (by decide)
  have hyH : Lw.Byt (bs.take 15) := fun z hz => hy z (List.mem_of_mem_take hz)
  have C := fun (A : Option Addr) (c : Nat) (w : World) R => ref_Sum A (6 + 15) c (Lw.namedL key count ++ bs.take 15) w R ((Lw.namedL_byt _ _).app hyH) (by omega)
  rw [Lw.intsV_app] at C
  obtain ⟨s1, s2⟩ := Lw.hsum_bd (Lw.namedL key count ++ bs.take 15)
  have E2 : Hid (Lw.sumL key count (bs.take 15) = Lw.littleL (Lw.hsum (Lw.namedL key count ++ bs.take 15)) 2) := rfl
  generalize Lw.hsum (Lw.namedL key count ++ bs.take 15) = s at *
  have LT : Hid (∀ w : World, Calls Try.prog 22 #[.int .i64 s, .int .i64 2] w (Lw.OwnRes 5 1 (Lw.intsV .u8 (Lw.littleL s 2)) 2 w)) := fun w => ref_little s 2 w s1 (by omega) (by omega)
  have C := Lib.hid C
  have RH := Lib.hid RH
  have R15 := Lib.hid R15
  have b1 : (15 : Int) ≤ 17 := by decide
  have b2 : (17 : Int) ≤ (c : Int) := by omega
  have b3 : ¬ c = 15 := by omega
  have hd : decide (bs.drop 15 = Lw.sumL key count (bs.take 15)) = true := decide_eq_true h
  have hd := Lib.hid hd
  have c0 := Lw.rd_first R hm
  obtain ⟨_, eb, hadb, _⟩ := R.2 (by decide)
  obtain rfl : ad = _ := by injection eb
  have mb : (0 : Int) ≤ (m : Int) ∧ (m : Int) < 256 := hy _ (List.mem_of_getElem? hm)
  have mb2 : m < 256 := by omega
  have m1 : ¬ (14 : Int) < (m : Int) := by omega
  have q1 : (0 : Int) ≤ 1 + (m : Int) := by omega
  have q3 : (1 + (m : Int)).toNat = 1 + m := by omega
  have q5 : 1 + (m : Int) ≤ (c : Int) := by omega
  have q6 : (1 : Int) ≤ 1 + (m : Int) := by omega
  have RB : Lw.Rd w 1 (some ⟨ad.block, ad.off + 1, none⟩) m (Lw.intsV .u8 ((bs.drop 1).take m)) := Lw.Rd.take (Lw.add_succ' ad 0 ▸ (Lw.Rd.drop R (m := 1) (d := 16) rfl)) (by omega)
  have RB := Lib.hid RB
  have RA := Lib.hid R
  have hyB : Lw.Byt ((bs.drop 1).take m) := fun z hz => hy z (List.mem_of_mem_drop (List.mem_of_mem_take hz))
  have CE := Lib.hid (fun A c w R => ref_Cell key count A m c ((bs.drop 1).take m) w R hyB hm14 k1 k2 c1 c2)
  have MA : Hid (decide (Lw.cellL key count ((bs.drop 1).take m) = bs) = _) := (Lw.read_math l1 hm hm14 h).trans hz
  clear h l1 eb
  go_enter Try.func25, Try.ntmps25
  go_wp2
  refine wp_region_held_drew (S := Lw.Sm w) (by kernel_rfl) (Lw.sm_drew w) (fun hHeld => ?_)
  (refine Lw.take1 (i := 0) (v := ?_) rfl (by kernel_rfl) (by kernel_rfl) (by kernel_rfl) (fun _ _ _ h => h) (Or.inl ⟨by rfl, ?_⟩) (by assumption) ?_; rotate_left 1; (focus (intro wS hSw; obtain ⟨hS1, hS2, hS3, hS4⟩ := hSw; go_simp <;> with_reducible rfl)); (try simp only [Act.put, List.setIfInBounds_toArray, List.set_cons_zero, List.set_cons_succ]))
  (refine Lw.take1 (i := 1) (v := ?_) rfl (by kernel_rfl) (by kernel_rfl) (by kernel_rfl) (fun _ _ _ h => h) (Or.inl ⟨by rfl, ?_⟩) (by assumption) ?_; rotate_left 1; (focus (intro wS hSw; obtain ⟨hS1, hS2, hS3, hS4⟩ := hSw; go_simp <;> with_reducible rfl)); (try simp only [Act.put, List.setIfInBounds_toArray, List.set_cons_zero, List.set_cons_succ]))
  (refine Lw.take1 (i := 2) (v := ?_) rfl (by kernel_rfl) (by kernel_rfl) (by kernel_rfl) (fun _ _ _ h => h) (Or.inl ⟨by rfl, ?_⟩) (by assumption) ?_; rotate_left 1; (focus (intro wS hSw; obtain ⟨hS1, hS2, hS3, hS4⟩ := hSw; go_simp <;> with_reducible rfl)); (try simp only [Act.put, List.setIfInBounds_toArray, List.set_cons_zero, List.set_cons_succ]))
  (refine Lw.take1 (i := 3) (v := ?_) rfl (by kernel_rfl) (by kernel_rfl) (by kernel_rfl) (fun _ _ _ h => h) (Or.inl ⟨by rfl, ?_⟩) (by assumption) ?_; rotate_left 1; (focus (intro wS hSw; obtain ⟨hS1, hS2, hS3, hS4⟩ := hSw; go_simp <;> with_reducible rfl)); (try simp only [Act.put, List.setIfInBounds_toArray, List.set_cons_zero, List.set_cons_succ]))
  (refine Lw.take1 (i := 5) (v := ?_) rfl (by kernel_rfl) (by kernel_rfl) (by kernel_rfl) (fun _ _ _ h => h) (Or.inl ⟨by rfl, ?_⟩) (by assumption) ?_; rotate_left 1; (focus (intro wS hSw; obtain ⟨hS1, hS2, hS3, hS4⟩ := hSw; go_simp <;> with_reducible rfl)); (try simp only [Act.put, List.setIfInBounds_toArray, List.set_cons_zero, List.set_cons_succ]))
  have hS0 := Lw.sm_drew w
  (refine wpAnyH_ready (rs := [4]) (by kernel_rfl) (by simp) ?_; refine Lw.cons1 (i := 4) rfl (fun K hK => ?_) AllReadyH.nil; go_simp; go_at_call 44; (with_reducible refine (ref_named key count _ k1 (by omega) c1 (by omega)).mono ?_); rintro e w1 ⟨A1, d1, rfl, own1, hb1⟩; refine hK.out _ _ ?_ (fun hHeld => ?_); (focus exact Lw.sm_keep hS0 hb1); clear hK K; (try simp only [Act.put, List.setIfInBounds_toArray, List.set_cons_zero, List.set_cons_succ]))
  have hS1 := Lw.sm_keep hS0 hb1
  (refine wpAnyH_ready (rs := [6]) (by kernel_rfl) (by simp) ?_; refine Lw.cons1 (i := 6) rfl (fun K hK => ?_) AllReadyH.nil; refine Lw.step_app elByte rfl _ _ rfl rfl own1 rfl (RH.out.below (Nat.le_refl _) (Lw.sm_bel hS1)) (Lw.intsV_one _ _) (by omega) (Lw.sm_bel hS1) (Nat.le_refl _) hb1.size ?_; intro w2' w2 own2 hb2 _ _; refine hK.out _ _ ?_ (fun hHeld => ?_); (focus exact Lw.sm_of hb2); clear hK K; (try simp only [Act.put, List.setIfInBounds_toArray, List.set_cons_zero, List.set_cons_succ]))
  obtain ⟨A2, d2, rfl, _⟩ := Lw.ownsForm own2
  have hS2 : Lw.Sm w w2 := Lw.sm_of hb2
  (refine wpAnyH_ready (rs := [7]) (by kernel_rfl) (by simp) ?_; refine Lw.cons1 (i := 7) rfl (fun K hK => ?_) AllReadyH.nil; go_simp; go_at_call 43; (with_reducible refine (C.out _ _ _ (Lw.Rd.of_own own2)).mono ?_); rintro e w3 ⟨rfl, hb3⟩; refine hK.out _ _ ?_ (fun hHeld => ?_); (focus exact Lw.sm_keep hS2 hb3); clear hK K; (try simp only [Act.put, List.setIfInBounds_toArray, List.set_cons_zero, List.set_cons_succ]))
  have hS3 := Lw.sm_keep hS2 hb3
  (refine wpAnyH_ready (rs := [8]) (by kernel_rfl) (by simp) ?_; refine Lw.cons1 (i := 8) rfl (fun K hK => ?_) AllReadyH.nil; go_simp; go_at_call 22; (with_reducible refine (LT.out _).mono ?_); rintro e w4 ⟨A4, d4, rfl, own4, hb4⟩; refine hK.out _ _ ?_ (fun hHeld => ?_); (focus exact Lw.sm_keep hS3 hb4); clear hK K; (try simp only [Act.put, List.setIfInBounds_toArray, List.set_cons_zero, List.set_cons_succ]))
  have hS4 := Lw.sm_keep hS3 hb4
  rw [← E2.out] at own4
  (refine wpAnyH_ready (rs := [9]) (by kernel_rfl) (by simp) ?_; refine Lw.cons1 (i := 9) rfl (fun K hK => ?_) AllReadyH.nil; go_simp; go_at_call 8; (with_reducible refine (ref_Bytes _ _ 2 2 _ _ (bs.drop 15) (Lw.sumL key count (bs.take 15)) _ (R15.out.below (Nat.le_refl _) (Lw.sm_bel hS4)) (Lw.Rd.of_own own4) (by decide) (by decide)).mono ?_); rintro e w5 ⟨rfl, hb5⟩; refine hK.out _ _ ?_ (fun hHeld => ?_); (focus exact Lw.sm_keep hS4 hb5); clear hK K; (try simp only [Act.put, List.setIfInBounds_toArray, List.set_cons_zero, List.set_cons_succ]))
  have hS5 := Lw.sm_keep hS4 hb5
  (refine Lw.take1 (i := 10) (v := ?_) rfl (by kernel_rfl) (by kernel_rfl) (by kernel_rfl) (fun _ _ _ h => h) (Or.inl ⟨by rfl, ?_⟩) (by assumption) ?_; rotate_left 1; (focus (intro wS hSw; obtain ⟨hS1, hS2, hS3, hS4⟩ := hSw; go_simp <;> with_reducible rfl)); (try simp only [Act.put, List.setIfInBounds_toArray, List.set_cons_zero, List.set_cons_succ]))
  refine wpAnyH_done (by kernel_rfl) ?_ _
  have hB5 := Lw.sm_bel hS5
  clear hHeld hS0 hS1 hS2 hS3 hS4 hS5 hb1 hb2 hb3 hb4 hb5 own1 own2 own4
  rw [hd.out]
  have d0 : w5.cell? ad = some (.int .u8 (m : Int)) := (hB5.cell hadb).trans c0
  go_wp2_with fail
  refine (CE.out _ _ _ (RB.out.below (Nat.le_refl _) hB5)).mono ?_
  rintro e w6 ⟨A6, d6, rfl, own6, hb6⟩
  go_wp2_with fail
  refine (ref_Bytes _ _ 17 17 _ _ (Lw.cellL key count ((bs.drop 1).take m)) bs _ (Lw.Rd.of_own own6) (RA.out.below (Nat.le_refl _) (Lw.bt hB5 hb6)) (by decide) (by decide)).mono ?_
  rintro e w7 ⟨rfl, hb7⟩
  rw [MA.out]
  have hB7 := Lw.bt (Lw.bt hB5 hb6) hb7
  clear own6 hb6 hb7
  go_wp2_with (at_builtin; refine Lw.wpList_app elByte rfl (.tmp 41) (.tmp 45) rfl rfl (Lw.own_lit w7 (xs := []) rfl rfl (by decide) (Nat.le_refl _)) rfl ((RB.out.below (Nat.le_refl _) hB7).alloc _) (Lw.intsV_one _ _) (by omega) (Lw.balloc (Below.refl _ _) _) (Nat.le_refl _) (by simp) ?_; intro v8 w8 own8 hb8 _ _)
  go_ret2
  obtain ⟨A8, d8, rfl, _⟩ := Lw.ownsForm own8
  exact ⟨A8, d8, by simp, by simpa using Lw.ownsBase own8 hB7.size, Lw.bt hB7 hb8⟩
end Go.Proofs.Ytkjcpjbdckbjcaa
namespace Lw
open Go Go.RowKit
theorem own_keep' {w w' : World} {b1 b2 e1 e2 s1 s2 n m : Nat} {u v : Value} {xs ys : List Value} (h : w.ownsRow b1 e1 s1 u n xs) (hv : w.ownsRow b2 e2 s2 v m ys) (he : e1 ≠ e2) (hg : w.grownBy w' v.ownBlock) : w'.ownsRow b1 e1 s1 u n xs := by
  obtain ⟨hl, h2⟩ := h
  refine ⟨hl, ?_⟩
  rcases h2 with ⟨h0, h1⟩ | ⟨g, cap, cur, hu, hbg, hh, rest⟩
  · exact .inl ⟨h0, h1⟩
  · refine .inr ⟨g, cap, cur, hu, hbg, ?_, rest⟩
    refine (hg.block g (Array.getElem?_eq_some_iff.1 hh).1 (fun e => ?_)).trans hh
    rcases hv.2 with ⟨h0, _⟩ | ⟨g2, cap2, cur2, hu2, _, hh2, _⟩
    · subst h0; cases e
    · subst hu2
      have : g2 = g := by injection e.symm
      subst this
      rw [hh] at hh2
      injection hh2 with hh2
      injection hh2 with _ h3
      exact he h3
theorem own_other {base e s n : Nat} {w : World} {v : Value} {xs : List Value} (h : w.ownsRow base e s v n xs) {k : Nat} {cs : Array Value} {t : TypeId} {z : Nat × Nat} (hk : w.heap[k]? = some (.cells cs t z)) (ht : t ≠ e) : v.ownBlock ≠ some k := by
  intro ek
  rcases h.2 with ⟨h0, _⟩ | ⟨g, cap, cur, hu, hbg, hh, _⟩
  · subst h0; cases ek
  · subst hu
    have : g = k := by injection ek
    subst this
    rw [hk] at hh; injection hh with hh; injection hh with _ h3; exact ht h3
theorem own_setk {base e s n : Nat} {w : World} {v : Value} {xs : List Value} (h : w.ownsRow base e s v n xs) {k i : Nat} {u : Value} (hk : v.ownBlock ≠ some k) : (w.setCell ⟨k, i, none⟩ u).ownsRow base e s v n xs := by
  obtain ⟨hl, h2⟩ := h
  refine ⟨hl, ?_⟩
  rcases h2 with ⟨h0, h1⟩ | ⟨g, cap, cur, hv, hbg, hh, rest⟩
  · exact .inl ⟨h0, h1⟩
  · refine .inr ⟨g, cap, cur, hv, hbg, ?_, rest⟩
    rw [Below.heap_setCell w ⟨k, i, none⟩ u g (by subst hv; intro e; exact hk (by rw [show g = k from e]; rfl))]
    exact hh
end Lw
namespace Lw
open Go
def plainOp : Op → Bool
  | .move _ | .assign _ | .load .. | .store .. | .binOp .. | .unOp .. | .convert .. | .indexAddr .. | .fieldAddr .. | .index .. | .field .. | .extract .. | .build .. => true
  | _ => false
def Tame (r : Result Next) : Prop := (∃ v w', r = .ok (.value v) w') ∨ (∃ w', r = .ok .skip w') ∨ ∃ x w', r = .halt x w'
theorem tame_v {P : Program} (s : Sem Value) (w : World) : Tame (Sem.run P (do let x ← s; pure (Next.value x)) w) := by
  simp only [Sem.run_bind]
  cases h : Sem.run P s w with
  | ok v w' => exact .inl ⟨v, w', rfl⟩
  | halt x w' => exact .inr (.inr ⟨x, w', rfl⟩)
theorem tame_u {P : Program} (s : Sem Unit) (w : World) : Tame (Sem.run P (do s; pure Next.skip) w) := by
  simp only [Sem.run_bind]
  cases h : Sem.run P s w with
  | ok v w' => exact .inr (.inl ⟨w', rfl⟩)
  | halt x w' => exact .inr (.inr ⟨x, w', rfl⟩)
theorem plain_tame {o : Oper} (h : plainOp o.op = true) (ρ : Operand → Value) (P : Program) (w : World) : Tame ((execOp ρ o).run P w) := by
  unfold execOp
  cases ho : o.op <;> rw [ho] at h <;> first | (simp [plainOp] at h; done) | exact tame_v _ _ | exact tame_u _ _ | exact .inl ⟨_, _, rfl⟩
theorem opsIn_of {F : Fence} {n : Nat} {P : Program} {ops : Array Oper} {Q : Exit → Act → World → Prop} (hL : ¬ LetsOut Q) (hp : ops.toList.all (fun o => plainOp o.op) = true) :
    ∀ (l : List Nat) (a : Act) (w : World), wpOps P ops Q l a w → wpOpsIn F n P ops Q l a w
  | [], _, _, h => h
  | i :: rest, a, w, h => by
    unfold wpOps at h
    unfold wpOpsIn
    cases ho : ops[i]? with
    | none => rw [ho] at h; exact opsIn_of hL hp rest a w h
    | some o =>
      rw [ho] at h
      simp only at h ⊢
      have hpo : plainOp o.op = true := by
        have hm : o ∈ ops.toList := Array.mem_toList_iff.2 (Array.mem_of_getElem? ho)
        exact List.all_eq_true.1 hp o hm
      have hnc : ∀ c, o.op ≠ .defer c := fun c e => by rw [e] at hpo; simp [plainOp] at hpo
      have hab : ∀ f, o.about P w a.eval = some f → F.fn f := fun f hf => by
        unfold Oper.about at hf
        cases hc : o.op <;> rw [hc] at hf hpo <;> first | (simp at hf; done) | (simp [plainOp] at hpo; done)
      split
      · rename_i hw
        rw [if_pos hw] at h
        rcases h with h | ⟨_, h⟩
        · refine ⟨hab, ?_⟩
          rw [Oper.semAt_eq _ _ _ hnc]
          unfold Oper.wp at h
          rcases plain_tame hpo a.eval P w with ⟨v, w', e⟩ | ⟨w', e⟩ | ⟨x, w', e⟩
          · rw [e] at h ⊢; exact opsIn_of hL hp rest _ _ h
          · rw [e] at h ⊢; exact opsIn_of hL hp rest _ _ h
          · rw [e] at h ⊢
            cases x <;> first | exact h | exact h.elim
        · exact absurd h hL
      · rename_i hw
        rw [if_neg hw] at h
        exact ⟨hab, opsIn_of hL hp rest _ _ h⟩
/-- the law: a region that draws, in any fence, by the taking of its operations -/
theorem wpIn_region_held {F : Fence} {n : Nat} {P : Program} {ops : Array Oper} {Q : Exit → Act → World → Prop} {S : World → Prop} {id : Nat} {a : Act} {w : World} (hm : P.follows .mixedOrders = true) (hL : ¬ LetsOut Q)
    (hp : ops.toList.all (fun o => plainOp o.op) = true) (hS : S w.drew) (h : S w.drew → wpAnyH P .any ops Q S ops.size (Array.replicate ops.size false) a w.drew) : (Code.region id ops true).wpIn F n P Q a w :=
  wpIn_region_draw fun t => by
    simp only [Region.schedule, hm, Bool.true_or, if_true]
    exact opsIn_of hL hp _ _ _ (wpAny_sound ops.size t _ a _ (wpAny_of_held _ _ _ _ (h hS)))
end Lw
namespace Lw
open Go
theorem upon_in {n l : Nat} {P : Program} {o : Oper} {a : Act} {next next' : Act → World → Prop} {Q : Exit → Act → World → Prop} (hn : ∀ a w, next a w → next' a w) :
    ∀ r : Result Next, o.upon P a next Q r → o.uponIn (Fence.wide.inRound l) n P a next' Q r := by
  intro r h
  rcases r with ⟨x, w'⟩ | ⟨x, w'⟩
  · cases x with
    | value v => exact hn _ _ h
    | skip => exact hn _ _ h
    | defer d => exact hn _ _ h
    | enter f args =>
      refine ⟨fun hd => by simp [Fence.inRound, Fence.wide] at hd, CallsIn.inRound l (callsIn_wide.2 ?_)⟩
      refine Calls.mono (show Calls P f args w' _ from h) fun e w'' he => ?_
      cases e with
      | returned v => exact hn _ _ he
      | panicked c => exact he
      | outgrown => exact he
    | row row args =>
      refine ⟨fun hd => by simp [Fence.inRound, Fence.wide] at hd, ?_⟩
      have h2 : Rows P row args w' fun v w'' => next (a.put o.dst v) w'' := h
      intro c cs _
      obtain ⟨v, w'', hv, hs⟩ := h2 c cs
      exact ⟨v, w'', hn _ _ hv, stepsIn_wide.2 hs⟩
    | _ => exact (show False from h).elim
  · cases x <;> first | exact h | exact (show False from h).elim
def noDefer (o : Op) : Bool := match o with
  | .defer _ => false
  | _ => true
theorem opsIn_wide {n l : Nat} {P : Program} {ops : Array Oper} {Q : Exit → Act → World → Prop} (hL : ¬ LetsOut Q) (hp : ops.toList.all (fun o => noDefer o.op) = true) :
    ∀ (js : List Nat) (a : Act) (w : World), wpOps P ops Q js a w → wpOpsIn (Fence.wide.inRound l) n P ops Q js a w
  | [], _, _, h => h
  | i :: rest, a, w, h => by
    unfold wpOps at h
    unfold wpOpsIn
    cases ho : ops[i]? with
    | none => rw [ho] at h; exact opsIn_wide hL hp rest a w h
    | some o =>
      rw [ho] at h
      simp only at h ⊢
      have hpo : noDefer o.op = true := by
        have hm : o ∈ ops.toList := Array.mem_toList_iff.2 (Array.mem_of_getElem? ho)
        exact List.all_eq_true.1 hp o hm
      have hnc : ∀ c, o.op ≠ .defer c := fun c e => by rw [e] at hpo; simp [noDefer] at hpo
      split
      · rename_i hw
        rw [if_pos hw] at h
        rcases h with h | ⟨_, h⟩
        · refine ⟨fun f _ => trivial, ?_⟩
          rw [Oper.semAt_eq _ _ _ hnc]
          unfold Oper.wp at h
          exact upon_in (fun a w hh => opsIn_wide hL hp rest a w hh) _ h
        · exact absurd h hL
      · rename_i hw
        rw [if_neg hw] at h
        exact ⟨fun f _ => trivial, opsIn_wide hL hp rest _ _ h⟩
/-- the law: a region that draws, in a round of the wide fence, by the taking of its operations -/
theorem wpIn_region_drew {n l : Nat} {P : Program} {ops : Array Oper} {Q : Exit → Act → World → Prop} {S : World → Prop} {id : Nat} {a : Act} {w : World} (hm : P.follows .mixedOrders = true) (hL : ¬ LetsOut Q)
    (hp : ops.toList.all (fun o => noDefer o.op) = true) (hS : S w.drew) (h : S w.drew → wpAnyH P .any ops Q S ops.size (Array.replicate ops.size false) a w.drew) : (Code.region id ops true).wpIn (Fence.wide.inRound l) n P Q a w :=
  wpIn_region_draw fun t => by
    simp only [Region.schedule, hm, Bool.true_or, if_true]
    exact opsIn_wide hL hp _ _ _ (wpAny_sound ops.size t _ a _ (wpAny_of_held _ _ _ _ (h hS)))
/-- a region that draws no order, in a round, by the plain laws -/
theorem wpIn_code_wide {n : Nat} {P : Program} {c : Code} {Q : Exit → Act → World → Prop} {a : Act} {w : World} (h : c.wp P Q a w) : c.wpIn Fence.wide n P Q a w := wpIn_wide.2 h
end Lw
namespace Lw
open Go Go.RowKit
theorem cell_lt {w : World} {p : Addr} {v : Value} (h : w.cell? p = some v) : p.block < w.heap.size := by
  rcases Nat.lt_or_ge p.block w.heap.size with h1 | h1
  · exact h1
  · simp [World.cell?, Array.getElem?_eq_none h1] at h
theorem IsRow.rd {k : IntKind} {w : World} {a : Option Addr} {len cap : Nat} {zs : List Int} (h : IsRow k w a len cap zs) :
    Rd w 1 a len (intsV k (zs.take len)) ∧ len ≤ cap ∧ (zs.take len).length = len ∧ cap ≤ maxLen ∧ ∀ z ∈ zs.take len, (Lit.int k z).wf = true := by
  rcases h with ⟨rfl, rfl, rfl, rfl⟩ | ⟨x, rfl, h1, h2, h3, h4, h5⟩
  · exact ⟨Rd.nil _ _ _, Nat.le_refl _, rfl, by unfold maxLen; omega, by simp⟩
  · have hl : (zs.take len).length = len := by rw [List.length_take]; omega
    refine ⟨⟨by rw [intsV_length, hl]; omega, fun h0 => ⟨x, rfl, ?_, fun j u hu => ?_⟩⟩, h1, hl, h2, fun z hz => h5 z (List.mem_of_mem_take hz)⟩
    · have := cell_lt (h4 0 (by omega))
      rwa [add_block] at this
    · have hj : j < len := by
        have := (List.getElem?_eq_some_iff.1 hu).1
        rwa [intsV_length, hl] at this
      have hj2 : j < zs.length := by omega
      rw [intsV_get (by rw [hl]; exact hj)] at hu
      injection hu with hu
      subst hu
      rw [h4 j hj2]
      simp [List.getElem_take, List.getD_eq_getElem?_getD, hj2]
end Lw
namespace Lw
open Go Go.RowKit Go.ChangeShapes Go.WideShapes Go.Deep
/-- each cell meets its predicate -/
inductive All2 : List (Value → Prop) → List Value → Prop
  | nil : All2 [] []
  | cons {p : Value → Prop} {v : Value} {ps : List (Value → Prop)} {vs : List Value} : p v → All2 ps vs → All2 (p :: ps) (v :: vs)
theorem All2.length_eq {ps : List (Value → Prop)} {vs : List Value} (h : All2 ps vs) : ps.length = vs.length := by
  induction h with
  | nil => rfl
  | cons _ _ ih => simp [ih]
/-- a number of a kind; a truth -/
def IsI (k : IntKind) (v : Value) : Prop := ∃ n, v = .int k n ∧ (Lit.int k n).wf = true
def IsB (v : Value) : Prop := ∃ b, v = .bool b
/-- a slice whose elements are cells that meet ps, one by one -/
def IsSl (w : World) (ps : List (Value → Prop)) (A : Option Addr) (len cap : Nat) : Prop :=
  len ≤ cap ∧ cap ≤ maxLen ∧ ((A = none ∧ len = 0) ∨ ∃ x, A = some x ∧ ∀ i, i < len → ∃ vs : List Value, All2 ps vs ∧ ∀ j u, vs[j]? = some u → w.cell? (x.add (i * ps.length + j)) = some u)
/-- a value that is such a slice -/
def IsS (w : World) (ps : List (Value → Prop)) (v : Value) : Prop := ∃ A len cap, v = .slice A len cap ∧ IsSl w ps A len cap
section
variable {H : Type} {enc : TypeId × Value → H} {P : Program} {w : World} {base : Nat} {spare : Nat → Bool} {held : Bool}
/-- whatever reads at type t meets p -/
def Meets (enc : TypeId × Value → H) (P : Program) (w : World) (base : Nat) (spare : Nat → Bool) (held : Bool) (t : TypeId) (p : Value → Prop) : Prop := ∀ n v y, DataW.trod enc P w base spare held n t [v] = some y → p v
theorem meets_int {t : TypeId} {k : IntKind} (h : P.underlying t = some (.int k)) : Meets enc P w base spare held t (IsI k) := by
  intro n v y hv
  obtain ⟨m, e, _, wf⟩ := DataW.trod_int h hv
  simp at e
  exact ⟨m, e, wf⟩
theorem meets_bool {t : TypeId} (h : P.underlying t = some .bool) : Meets enc P w base spare held t IsB := by
  intro n v y hv
  obtain ⟨m, e, _⟩ := DataW.trod_bool h hv
  simp at e
  exact ⟨m, e⟩
def FOk (enc : TypeId × Value → H) (P : Program) (w : World) (base : Nat) (spare : Nat → Bool) (held : Bool) : List Field → List (Value → Prop) → Prop
  | [], [] => True
  | f :: fs, p :: ps => Meets enc P w base spare held f.type p ∧ FOk enc P w base spare held fs ps
  | _, _ => False
theorem fok_nil : FOk enc P w base spare held [] [] := trivial
theorem fok_cons {f : Field} {fs : List Field} {p : Value → Prop} {ps : List (Value → Prop)} (h : Meets enc P w base spare held f.type p) (h2 : FOk enc P w base spare held fs ps) : FOk enc P w base spare held (f :: fs) (p :: ps) := ⟨h, h2⟩
theorem fok_len {fs : List Field} {ps : List (Value → Prop)} : FOk enc P w base spare held fs ps → fs.length = ps.length := by
  induction fs generalizing ps with
  | nil => intro h; cases ps with
    | nil => rfl
    | cons p ps => cases h
  | cons f fs ih => intro h; cases ps with
    | nil => cases h
    | cons p ps => simp [ih h.2]
theorem fok_all {fs : List Field} {ps : List (Value → Prop)} (hf : FOk enc P w base spare held fs ps) {vs : List Value} (hl : vs.length = fs.length)
    (h : ∀ (j : Nat) (f : Field), fs[j]? = some f → ∃ (n : Nat) (y : DataW H × List MemPlace) (v : Value), vs[j]? = some v ∧ DataW.trod enc P w base spare held n f.type [v] = some y) : All2 ps vs := by
  induction fs generalizing ps vs with
  | nil => cases ps with
    | nil => cases vs with
      | nil => exact .nil
      | cons v vs => simp at hl
    | cons p ps => cases hf
  | cons f fs ih => cases ps with
    | nil => cases hf
    | cons p ps => cases vs with
      | nil => simp at hl
      | cons v vs =>
        obtain ⟨n, y, v', hv, ht⟩ := h 0 f rfl
        simp at hv; subst hv
        refine .cons (hf.1 n _ y ht) (ih hf.2 (by simpa using hl) fun j f' hj => ?_)
        exact h (j + 1) f' (by simpa using hj)
theorem sl_fields {t e : TypeId} {fs : Array Field} {ps : List (Value → Prop)} (ht : P.underlying t = some (.slice e)) (he : P.underlying e = some (.struct fs)) (hone : oneCellFields P fs = true) (hC : P.cellsOf e = fs.size)
    (hf : FOk enc P w base spare held fs.toList ps) {A : Option Addr} {len cap n : Nat} {y : DataW H × List MemPlace} (h : DataW.trod enc P w base spare held n t [.slice A len cap] = some y) : IsSl w ps A len cap := by
  have hpl : ps.length = fs.size := by rw [← fok_len hf]; simp
  rcases open_slice ht h with ⟨h0, _⟩ | ⟨a, l, c, m, n', D, Pl, hcs, hb, hl, hm, hmm, hx, hi⟩
  · simp at h0; obtain ⟨rfl, rfl, rfl⟩ := h0
    exact ⟨Nat.le_refl _, by unfold maxLen; omega, .inl ⟨rfl, rfl⟩⟩
  · simp at hcs; obtain ⟨rfl, rfl, rfl⟩ := hcs
    refine ⟨hl, hm, .inr ⟨a, rfl, fun i hil => ?_⟩⟩
    have him : i < m := by rw [hmm]; split <;> omega
    obtain ⟨cs', hc, ht'⟩ := hi i him
    rw [hC] at hc
    obtain ⟨ys, n'', hn', hy, hlen, hyl, hfd⟩ := DataW.trod_struct he ht'
    obtain ⟨_, hcl, hat⟩ := World.cells?_some hc
    refine ⟨cs', fok_all hf (by simpa using hcl) fun j f hj => ?_, fun j u hu => ?_⟩
    · have hj' : fs[j]? = some f := by simpa using hj
      obtain ⟨ho, hk⟩ := hone_of hone j f hj'
      have hjl : j < fs.size := (Array.getElem?_eq_some_iff.1 hj').1
      have h1 := hfd j f hj'
      rw [ho, hk, take1_drop cs' j undef (by omega)] at h1
      have hys : ys[j]? = some (ys[j]'(by omega)) := List.getElem?_eq_getElem (by omega)
      have e : cs'.getD j undef = cs'[j]'(by omega) := by rw [List.getD_eq_getElem?_getD, List.getElem?_eq_getElem (by omega)]; rfl
      rw [e] at h1
      exact ⟨n'', ys[j]'(by omega), cs'[j]'(by omega), List.getElem?_eq_getElem (by omega), h1.trans hys⟩
    · have hjl : j < fs.size := by have := (List.getElem?_eq_some_iff.1 hu).1; omega
      rw [hpl, ← Go.Deep.add_add, hat j hjl]
      exact hu
theorem sl_one {t e : TypeId} {p : Value → Prop} (ht : P.underlying t = some (.slice e)) (hC : P.cellsOf e = 1) (hf : Meets enc P w base spare held e p) {A : Option Addr} {len cap n : Nat} {y : DataW H × List MemPlace}
    (h : DataW.trod enc P w base spare held n t [.slice A len cap] = some y) : IsSl w [p] A len cap := by
  rcases open_slice1 ht hC h with ⟨h0, _⟩ | ⟨a, l, c, m, n', V, D, Pl, hcs, hb, hl, hm, hmm, hx, hi⟩
  · simp at h0; obtain ⟨rfl, rfl, rfl⟩ := h0
    exact ⟨Nat.le_refl _, by unfold maxLen; omega, .inl ⟨rfl, rfl⟩⟩
  · simp at hcs; obtain ⟨rfl, rfl, rfl⟩ := hcs
    refine ⟨hl, hm, .inr ⟨a, rfl, fun i hil => ?_⟩⟩
    have him : i < m := by rw [hmm]; split <;> omega
    obtain ⟨hc, ht'⟩ := hi i him
    refine ⟨[V i], .cons (hf _ _ _ ht') .nil, fun j u hu => ?_⟩
    match j, hu with
    | 0, hu => simp at hu; subst hu; simpa using hc
theorem meets_slice {t e : TypeId} {ps : List (Value → Prop)} (ht : P.underlying t = some (.slice e)) (hf : ∀ (A : Option Addr) (len cap n : Nat) (y : DataW H × List MemPlace), DataW.trod enc P w base spare held n t [.slice A len cap] = some y → IsSl w ps A len cap) : Meets enc P w base spare held t (IsS w ps) := by
  intro n v y hv
  rcases open_slice ht hv with ⟨h0, _⟩ | ⟨a, l, c, m, n', D, Pl, hcs, _⟩
  · simp at h0; subst h0; exact ⟨_, _, _, rfl, hf _ _ _ _ _ hv⟩
  · simp at hcs; subst hcs; exact ⟨_, _, _, rfl, hf _ _ _ _ _ hv⟩
end
/-- the elements, as a list of rows of cells -/
theorem IsSl.list {w : World} {ps : List (Value → Prop)} {A : Option Addr} {len cap : Nat} (h : IsSl w ps A len cap) (h0 : 0 < ps.length) :
    ∃ L : List (List Value), L.length = len ∧ (∀ vs ∈ L, All2 ps vs) ∧ Rd w ps.length A len L.flatten := by
  obtain ⟨hl, hm, h⟩ := h
  rcases h with ⟨rfl, rfl⟩ | ⟨x, rfl, hi⟩
  · exact ⟨[], rfl, by simp, Rd.nil _ _ _⟩
  · have key : ∀ n, n ≤ len → ∃ L : List (List Value), L.length = n ∧ (∀ vs ∈ L, All2 ps vs) ∧ L.flatten.length = n * ps.length ∧ ∀ j u, L.flatten[j]? = some u → w.cell? (x.add j) = some u := by
      intro n
      induction n with
      | zero => intro _; exact ⟨[], rfl, by simp, by simp, by simp⟩
      | succ n ih =>
        intro hn
        obtain ⟨L, h1, h2, h3, h4⟩ := ih (by omega)
        obtain ⟨vs, hv, hc⟩ := hi n (by omega)
        have hvl : ps.length = vs.length := hv.length_eq
        refine ⟨L ++ [vs], by simp [h1], fun z hz => ?_, ?_, fun j u hu => ?_⟩
        · rcases List.mem_append.1 hz with hz | hz
          · exact h2 z hz
          · simp at hz; subst hz; exact hv
        · simp only [List.flatten_append, List.length_append, h3, List.flatten_cons, List.flatten_nil, List.append_nil, ← hvl, Nat.succ_mul]
        · simp only [List.flatten_append, List.flatten_cons, List.flatten_nil, List.append_nil] at hu
          by_cases hj : j < n * ps.length
          · rw [List.getElem?_append_left (by omega)] at hu; exact h4 j u hu
          · rw [List.getElem?_append_right (by omega), h3] at hu
            have := hc _ u hu
            rwa [show n * ps.length + (j - n * ps.length) = j by omega] at this
    obtain ⟨L, h1, h2, h3, h4⟩ := key len (Nat.le_refl _)
    refine ⟨L, h1, h2, h3, fun hp => ⟨x, rfl, ?_, h4⟩⟩
    have : 0 < L.flatten.length := by rw [h3]; exact Nat.mul_pos hp h0
    have := cell_lt (h4 0 _ (List.getElem?_eq_getElem this))
    rwa [add_block] at this
/-- rows of three numbers -/
theorem list3 {k0 k1 k2 : IntKind} : ∀ {L : List (List Value)}, (∀ vs ∈ L, All2 [IsI k0, IsI k1, IsI k2] vs) → ∃ T : List (Int × Int × Int), L = T.map (fun t => [.int k0 t.1, .int k1 t.2.1, .int k2 t.2.2]) ∧ ∀ t ∈ T, (Lit.int k0 t.1).wf = true ∧ (Lit.int k1 t.2.1).wf = true ∧ (Lit.int k2 t.2.2).wf = true
  | [], _ => ⟨[], rfl, by simp⟩
  | vs :: L, h => by
    obtain ⟨T, hT, hw⟩ := list3 (L := L) fun z hz => h z (by simp [hz])
    have h0 := h vs (by simp)
    cases h0 with | cons a h1 => cases h1 with | cons b h2 => cases h2 with | cons c h3 => cases h3 with | nil =>
      obtain ⟨n0, rfl, w0⟩ := a
      obtain ⟨n1, rfl, w1⟩ := b
      obtain ⟨n2, rfl, w2⟩ := c
      exact ⟨(n0, n1, n2) :: T, by simp [hT], by intro t ht; simp at ht; rcases ht with rfl | ht; exact ⟨w0, w1, w2⟩; exact hw t ht⟩
/-- rows of two numbers -/
theorem list2 {k0 k1 : IntKind} : ∀ {L : List (List Value)}, (∀ vs ∈ L, All2 [IsI k0, IsI k1] vs) → ∃ T : List (Int × Int), L = T.map (fun t => [.int k0 t.1, .int k1 t.2]) ∧ ∀ t ∈ T, (Lit.int k0 t.1).wf = true ∧ (Lit.int k1 t.2).wf = true
  | [], _ => ⟨[], rfl, by simp⟩
  | vs :: L, h => by
    obtain ⟨T, hT, hw⟩ := list2 (L := L) fun z hz => h z (by simp [hz])
    have h0 := h vs (by simp)
    cases h0 with | cons a h1 => cases h1 with | cons b h2 => cases h2 with | nil =>
      obtain ⟨n0, rfl, w0⟩ := a
      obtain ⟨n1, rfl, w1⟩ := b
      exact ⟨(n0, n1) :: T, by simp [hT], by intro t ht; simp at ht; rcases ht with rfl | ht; exact ⟨w0, w1⟩; exact hw t ht⟩
end Lw
namespace Lw
open Go Go.RowKit
/-- a row: where it lies, how long, its numbers -/
structure TRow where
  A : Option Addr
  n : Nat
  c : Nat
  zs : List Int
def TRow.v (r : TRow) : Value := .slice r.A r.n r.c
def RowOk (k : IntKind) (w : World) (r : TRow) : Prop := Rd w 1 r.A r.n (intsV k r.zs) ∧ r.n ≤ maxLen ∧ ∀ z ∈ r.zs, (Lit.int k z).wf = true
def Tab (k : IntKind) (w : World) (A : Option Addr) (n : Nat) (T : List TRow) : Prop := Rd w 1 A n (T.map TRow.v) ∧ ∀ r ∈ T, RowOk k w r
theorem RowOk.len {k : IntKind} {w : World} {r : TRow} (h : RowOk k w r) : r.zs.length = r.n := by have := h.1.1; simpa [intsV] using this
theorem RowOk.below {k : IntKind} {w w' : World} {r : TRow} (h : RowOk k w r) {B : Nat} (hB : w.heap.size ≤ B) (hb : Below B w w') : RowOk k w' r := ⟨h.1.below hB hb, h.2⟩
theorem Tab.len {k : IntKind} {w : World} {A : Option Addr} {n : Nat} {T : List TRow} (h : Tab k w A n T) : T.length = n := by have := h.1.1; simpa using this
theorem Tab.below {k : IntKind} {w w' : World} {A : Option Addr} {n : Nat} {T : List TRow} (h : Tab k w A n T) {B : Nat} (hB : w.heap.size ≤ B) (hb : Below B w w') : Tab k w' A n T :=
  ⟨h.1.below hB hb, fun r hr => (h.2 r hr).below hB hb⟩
/-- its k-th row, in the walk's words -/
theorem Tab.at_ {kk : IntKind} {w : World} {A : Option Addr} {n k : Nat} {T : List TRow} (h : Tab kk w A n T) (hk : k < n) :
    ∃ (hl : k < T.length) (ad : Addr), A = some ad ∧ ad.block < w.heap.size ∧ w.cell? (ad.add k) = some (.slice T[k].A T[k].n T[k].c) ∧ RowOk kk w T[k] := by
  have hl : k < T.length := by rw [h.len]; exact hk
  obtain ⟨ad, e, hb, hc⟩ := h.1.at1 (x := T[k].v) hk (by simp [hl])
  exact ⟨hl, ad, e, hb, hc, h.2 _ (List.getElem_mem hl)⟩
theorem list1 {k : IntKind} : ∀ {L : List (List Value)}, (∀ vs ∈ L, All2 [IsI k] vs) → ∃ T : List Int, L.flatten = intsV k T ∧ ∀ t ∈ T, (Lit.int k t).wf = true
  | [], _ => ⟨[], rfl, by simp⟩
  | vs :: L, h => by
    obtain ⟨T, hT, hw⟩ := list1 (L := L) fun z hz => h z (by simp [hz])
    have h0 := h vs (by simp)
    cases h0 with | cons a h1 => cases h1 with | nil =>
      obtain ⟨n0, rfl, w0⟩ := a
      exact ⟨n0 :: T, by simp [hT, intsV], by intro t ht; simp at ht; rcases ht with rfl | ht; exact w0; exact hw t ht⟩
theorem row_of {k : IntKind} {w : World} {A : Option Addr} {len cap : Nat} (h : IsSl w [IsI k] A len cap) : ∃ zs, RowOk k w ⟨A, len, cap, zs⟩ := by
  obtain ⟨L, h1, h2, h3⟩ := h.list (by simp)
  obtain ⟨T, hT, hw⟩ := list1 h2
  rw [hT] at h3
  exact ⟨T, h3, by have := h.1; have := h.2.1; show len ≤ maxLen; omega, hw⟩
theorem list_rows {k : IntKind} {w : World} : ∀ {L : List (List Value)}, (∀ vs ∈ L, All2 [IsS w [IsI k]] vs) → ∃ T : List TRow, L.flatten = T.map TRow.v ∧ ∀ t ∈ T, RowOk k w t
  | [], _ => ⟨[], rfl, by simp⟩
  | vs :: L, h => by
    obtain ⟨T, hT, hw⟩ := list_rows (L := L) fun z hz => h z (by simp [hz])
    have h0 := h vs (by simp)
    cases h0 with | cons a h1 => cases h1 with | nil =>
      obtain ⟨A, l, c, rfl, hs⟩ := a
      obtain ⟨zs, hz⟩ := row_of hs
      exact ⟨⟨A, l, c, zs⟩ :: T, by simp [hT, TRow.v], by intro t ht; simp at ht; rcases ht with rfl | ht; exact hz; exact hw t ht⟩
theorem tab_of {k : IntKind} {w : World} {A : Option Addr} {len cap : Nat} (h : IsSl w [IsS w [IsI k]] A len cap) : ∃ T, Tab k w A len T := by
  obtain ⟨L, h1, h2, h3⟩ := h.list (by simp)
  obtain ⟨T, hT, hw⟩ := list_rows h2
  rw [hT] at h3
  exact ⟨T, h3, hw⟩
theorem any_take {α : Type} {p : α → Bool} {T : List α} {k : Nat} (h : k < T.length) (h1 : (T.take k).any p = false) (h2 : p T[k] = false) : (T.take (k + 1)).any p = false := by
  rw [List.take_succ_eq_append_getElem h, List.any_append, h1]; simp [h2]
theorem any_at {α : Type} {p : α → Bool} {T : List α} {k : Nat} (h : k < T.length) (h2 : p T[k] = true) : T.any p = true := List.any_eq_true.2 ⟨_, List.getElem_mem h, h2⟩
end Lw
namespace Lw
open Go Go.RowKit
def Big (m n : Nat) : Prop := m < n
def Odd (m n : Nat) : Prop := n ≠ m
instance (m n : Nat) : Decidable (Big m n) := inferInstanceAs (Decidable (m < n))
instance (m n : Nat) : Decidable (Odd m n) := inferInstanceAs (Decidable (n ≠ m))
theorem Big.t {m n : Nat} (h : Big m n) : (m : Int) < (n : Int) := by unfold Big at h; omega
theorem Big.f {m n : Nat} (h : ¬ Big m n) : ¬ (m : Int) < (n : Int) := by unfold Big at h; omega
theorem Odd.t {m n : Nat} (h : Odd m n) : ((n : Int) == (m : Int)) = false := by unfold Odd at h; simp; omega
theorem Odd.f {m n : Nat} (h : ¬ Odd m n) : ((n : Int) == (m : Int)) = true := by unfold Odd at h; simp; omega
theorem big16t {n : Nat} (h : Big 16 n) : (16 : Int) < (n : Int) := h.t
theorem big16f {n : Nat} (h : ¬ Big 16 n) : ¬ (16 : Int) < (n : Int) := Big.f h
theorem odd16t {n : Nat} (h : Odd 16 n) : ((n : Int) == (16 : Int)) = false := h.t
theorem odd16f {n : Nat} (h : ¬ Odd 16 n) : ((n : Int) == (16 : Int)) = true := Odd.f h
/-- what IndexFunc returns -/
def IdxT (b : Bool) (w : World) (e : Ending) (w' : World) : Prop := ∃ r : Int, e = .returned (.int .i64 r) ∧ w = w' ∧ ((b = false ∧ r = -1) ∨ (b = true ∧ 0 ≤ r))
theorem IdxT.ge {b : Bool} {r : Int} (h : (b = false ∧ r = -1) ∨ (b = true ∧ 0 ≤ r)) : decide (0 ≤ r) = b := by rcases h with ⟨rfl, rfl⟩ | ⟨rfl, h⟩ <;> simp_all
/-- what Min and Max return -/
def MinP (zs : List Int) (w : World) (e : Ending) (w' : World) : Prop := ∃ m : Int, e = .returned (.int .i64 m) ∧ w = w' ∧ m ∈ zs ∧ ∀ z ∈ zs, m ≤ z
def MaxP (zs : List Int) (w : World) (e : Ending) (w' : World) : Prop := ∃ m : Int, e = .returned (.int .i64 m) ∧ w = w' ∧ m ∈ zs ∧ ∀ z ∈ zs, z ≤ m
/-- a row with a number out of bounds -/
def outR (m : Int) (zs : List Int) : Bool := zs.any (fun x => decide (x < 0) || decide (m ≤ x))
theorem outR_min {zs : List Int} {m a : Int} (h : a ∈ zs) (h0 : a < 0) : outR m zs = true := List.any_eq_true.2 ⟨a, h, by simp [h0]⟩
theorem outR_max {zs : List Int} {m a : Int} (h : a ∈ zs) (h0 : m ≤ a) : outR m zs = true := List.any_eq_true.2 ⟨a, h, by simp [h0]⟩
theorem outR_no {zs : List Int} {m a b : Int} (h : ∀ z ∈ zs, a ≤ z) (h0 : ¬ a < 0) (h' : ∀ z ∈ zs, z ≤ b) (h1 : ¬ m ≤ b) : outR m zs = false := by
  rw [Bool.eq_false_iff]; intro e
  obtain ⟨z, hz, e⟩ := List.any_eq_true.1 e
  have := h z hz; have := h' z hz
  simp at e; omega
theorem mem_take_succ {zs : List Int} {k : Nat} (h : k < zs.length) {z : Int} : z ∈ zs.take (k + 1) ↔ z ∈ zs.take k ∨ z = zs[k] := by
  rw [List.take_succ_eq_append_getElem h, List.mem_append, List.mem_singleton]
end Lw
set_option linter.unusedVariables false
set_option linter.unusedSimpArgs false
namespace Go.Proofs.Ytkjcpjbdckbjcaa
open Go.RowKit
end Go.Proofs.Ytkjcpjbdckbjcaa
