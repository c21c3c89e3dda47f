/- cell.all: are all bytes of a row zero? -/
import Derived.Test.YtdibbdlpnfcmiaaCell2
namespace Lw
open Go Go.RowKit
/-- what IndexFunc returns for 'not zero' -/
def IdxP (xs : List Int) (w : World) (e : Ending) (w' : World) : Prop := ∃ r : Int, e = .returned (.int .i64 r) ∧ w = w' ∧ ((xs.all (· == 0) = true ∧ r = -1) ∨ (xs.all (· == 0) = false ∧ 0 ≤ r))
theorem all_take {xs : List Int} {k : Nat} (h : k < xs.length) (h1 : (xs.take k).all (· == 0) = true) (h2 : xs[k] = 0) : (xs.take (k + 1)).all (· == 0) = true := by
  rw [List.take_succ_eq_append_getElem h, List.all_append, h1]; simp [h2]
theorem all_not {xs : List Int} {k : Nat} (h : k < xs.length) (h2 : ¬ xs[k] = 0) : xs.all (· == 0) = false := by
  rw [Bool.eq_false_iff]; intro e
  have := List.all_eq_true.1 e _ (List.getElem_mem h)
  exact h2 (by simpa using this)
theorem Rd.take {w : World} {ad : Addr} {n m : Nat} {xs : List Int} {k : IntKind} (h : Rd w 1 (some ad) n (intsV k xs)) (hm : m ≤ n) : Rd w 1 (some ad) m (intsV k (xs.take m)) := by
  have hl : xs.length = n := by have := h.1; simpa [intsV] using this
  refine ⟨by simp [intsV]; omega, fun hp => ?_⟩
  obtain ⟨ad', e, hb, hc⟩ := h.2 (by omega)
  refine ⟨ad', e, hb, fun j u hu => hc j u ?_⟩
  simp only [intsV, List.map_take, List.getElem?_take] at hu
  split at hu
  · exact hu
  · cases hu
theorem Rd.drop {w : World} {ad : Addr} {n m d : Nat} {xs : List Int} {k : IntKind} (h : Rd w 1 (some ad) n (intsV k xs)) (hm : m + d = n) : Rd w 1 (some (ad.add m)) d (intsV k (xs.drop m)) := by
  have hl : xs.length = n := by have := h.1; simpa [intsV] using this
  refine ⟨by simp [intsV]; omega, fun hp => ?_⟩
  obtain ⟨ad', e, hb, hc⟩ := h.2 (by omega)
  injection e with e; subst e
  refine ⟨_, rfl, by rw [add_block]; exact hb, fun j u hu => ?_⟩
  rw [add_add]
  refine hc _ u ?_
  simpa [intsV, List.getElem?_drop] using hu
end Lw
set_option linter.unusedVariables false
set_option linter.unusedSimpArgs false
namespace Go.Proofs.Ytdibbdlpnfcmiaa
open Go.RowKit
set_option maxHeartbeats 1000000 in
theorem read_index (A : Option Addr) (n c b : Nat) (xs : List Int) (w : World) (R : Lw.Rd w 1 A n (Lw.intsV .u8 xs)) (hn : n ≤ 1048576) (hb : w.cell? ⟨b, 0, none⟩ = some (.func (.func 61) #[] #[])) :
    Calls Try.prog 96 #[.slice A n c, .func (.func 85) #[] #[.pointer (some ⟨b, 0, none⟩)]] w (Lw.IdxP xs w) := by
  have R := Lib.hid R
  have l1 : xs.length = n := by have := R.out.1; simpa [Lw.intsV] using this
  have L := Lib.hid l1
  clear l1
  go_enter Try.func96, Try.ntmps96
  go_wp2
  go_loop [5, 8] (fun x i => ∃ k : Nat, i = .int .i64 (k : Int) ∧ k ≤ n ∧ Hid ((xs.take k).all (· == 0) = true)) (fun _ i => n - (intOf i).toNat)
  case atStart => exact ⟨0, rfl, by omega, rfl⟩
  case round =>
    obtain ⟨k, rfl, k1, T⟩ := hrel
    by_cases hlt : k < n
    · have hl : k < xs.length := by rw [L.out]; exact hlt
      obtain ⟨ad, rfl, had, hcell⟩ := R.out.at1 hlt (Lw.intsV_get hl)
      have N := Lib.hid (Lw.all_take hl T.out)
      have D := Lib.hid (Lw.all_not hl)
      obtain ⟨x, hx⟩ : ∃ x, xs[k] = x := ⟨_, rfl⟩
      rw [hx] at hcell N D
      clear hx
      by_cases h0 : x = 0
      · have N1 := Lib.hid (N.out h0)
        have h1 : (x == 0) = true := by simpa using h0
        clear N D h0
        go_wp2
        go_round
        case rel => exact ⟨k + 1, by go_num, by omega, N1⟩
        case measure => simp [intOf]; omega
      · have D1 := Lib.hid (D.out h0)
        have h1 : (x == 0) = false := by simpa using h0
        clear N D h0
        go_wp2
        go_ret
        exact ⟨_, rfl, rfl, .inr ⟨D1.out, by omega⟩⟩
    · have hk : xs.take k = xs := List.take_of_length_le (by rw [L.out]; omega)
      have E : Hid (xs.all (· == 0) = true) := by have := T.out; rwa [hk] at this
      clear hk
      go_wp2
      go_ret
      exact ⟨_, rfl, rfl, .inl ⟨E.out, rfl⟩⟩
theorem cell_all (A : Option Addr) (n c : Nat) (xs : List Int) (w : World) (R : Lw.Rd w 1 A n (Lw.intsV .u8 xs)) (hn : n ≤ 1048576) :
    Calls Try.prog 62 #[.slice A n c, .func (.func 61) #[] #[]] w fun e w' => e = .returned (.bool (xs.all (· == 0))) ∧ Below w.heap.size w w' := by
  have R := Lib.hid R
  go_enter Try.func62, Try.ntmps62
  go_wp2_with (first | (go_at_call 84; go_in) | (go_at_call 96; (with_reducible refine (read_index _ _ _ _ xs _ (R.out.alloc _) hn (by simp)).mono ?_); rintro e w1 ⟨r, rfl, rfl, hr⟩))
  go_ret
  refine ⟨Lw.ret_bool ?_, by (repeat (first | exact Below.refl _ _ | refine Lw.bt ?_ (by assumption) | refine Lw.balloc ?_ _ | refine Lw.bdrewN ?_ _ | refine Below.drew ?_ | refine Lw.bset ?_ (by first | (simp; done) | (simp; omega) | omega) _))⟩
  rcases hr with ⟨h1, rfl⟩ | ⟨h1, h2⟩
  · rw [h1]; rfl
  · rw [h1]; simp [h2]
end Go.Proofs.Ytdibbdlpnfcmiaa
