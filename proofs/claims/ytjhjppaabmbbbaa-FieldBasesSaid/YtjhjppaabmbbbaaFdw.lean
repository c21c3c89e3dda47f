/- Fields: the walks of digits, sizes, products and splits. -/
import Derived.Test.YtjhjppaabmbbbaaFdp
namespace Lw
open Go Go.RowKit
theorem set3' {W : World} {b : Nat} {c0 c1 c2 x y z : Value} {t : TypeId} (h : W.heap[b]? = some (.cells #[c0, c1, c2] t (0, 0))) :
    (((W.setCell ⟨b, 0, none⟩ x).setCell ⟨b, 1, none⟩ y).setCell ⟨b, 2, none⟩ z).heap[b]? = some (.cells #[x, y, z] t (0, 0)) := by
  have h1 := blk_set_same h 0 x
  have h2 := blk_set_same h1 1 y
  have h3 := blk_set_same h2 2 z
  simpa using h3
theorem set3c' {W : World} {b : Nat} {c0 c1 c2 x y z : Value} {t : TypeId} (h : W.heap[b]? = some (.cells #[c0, c1, c2] t (0, 0))) :
    (((W.setCell ⟨b, 0, none⟩ x).setCell ⟨b, 1, none⟩ y).setCell ⟨b, 2, none⟩ z).cell? ⟨b, 0, none⟩ = some x ∧ (((W.setCell ⟨b, 0, none⟩ x).setCell ⟨b, 1, none⟩ y).setCell ⟨b, 2, none⟩ z).cell? ⟨b, 1, none⟩ = some y ∧ (((W.setCell ⟨b, 0, none⟩ x).setCell ⟨b, 1, none⟩ y).setCell ⟨b, 2, none⟩ z).cell? ⟨b, 2, none⟩ = some z := by
  have h3 := set3' (x := x) (y := y) (z := z) h
  exact ⟨by have := blk_cell h3 0; simpa using this, by have := blk_cell h3 1; simpa using this, by have := blk_cell h3 2; simpa using this⟩
theorem bset3' {w W : World} {b : Nat} (h : Below w.heap.size w W) (hb : w.heap.size ≤ b) (x y z : Value) : Below w.heap.size w (((W.setCell ⟨b, 0, none⟩ x).setCell ⟨b, 1, none⟩ y).setCell ⟨b, 2, none⟩ z) := bset (bset (bset h hb _) hb _) hb _
theorem digs_len13 {p a : Int} (hp : 2 ≤ p) (h0 : 0 ≤ a) (h1 : a < 8192) : (digs p a).length ≤ 13 := by
  have : digs p a = digF p 13 a := digF_stable hp 13 a h0 (by omega)
  rw [this]; exact digF_len 13 a
theorem digs_good {p a : Int} (hp : 2 ≤ p) (h0 : 0 ≤ a) (h1 : a < 8192) : goodL p (digs p a) := ⟨digs_bd (by omega) a, digF_end hp 14 a h0 (by omega), digs_len13 hp h0 h1⟩
theorem digs_in {p a : Int} (hp : 2 ≤ p) (h0 : 0 < a) : 0 ≤ a / p ∧ a / p < a := ⟨Int.ediv_nonneg (by omega) (by omega), Int.ediv_lt_self_of_pos_of_ne_one h0 (by omega) |> fun h => h⟩
/-- the size as the reference has it -/
def sizL (p : Int) (n : Nat) : Int := if 4096 < p ^ (n - 1) then 0 else p ^ (n - 1)
end Lw
set_option linter.unusedVariables false
set_option linter.unusedSimpArgs false
namespace Go.Proofs.Ytjhjppaabmbbbaa
open Go.RowKit
set_option maxHeartbeats 2000000 in
theorem ref_digits (p a : Int) (w : World) (p1 : 2 ≤ p) (p2 : p ≤ 251) (a0 : 0 ≤ a) (a1 : a < 8192) :
    Calls Try.prog 98 #[.int .i64 p, .int .i64 a] w (Lw.RetL (Lw.digs p a) w) := by
  have p0 : ¬ p = 0 := by omega
  have DS := Lib.hid (fun a (h0 : 0 < a) (h1 : a < 8192) => Lw.digs_step (p := p) (a := a) p1 h0 (by omega))
  have DI := Lib.hid (fun a (h0 : 0 < a) => Lw.digs_in (p := p) (a := a) p1 h0)
  have DL := Lib.hid (Lw.digs_len (p := p) (a := a))
  have DZ := Lib.hid (Lw.digs_zero (p := p))
  obtain ⟨L, hL⟩ : ∃ L, Lw.digs p a = L := ⟨_, rfl⟩
  rw [hL] at DL ⊢
  have HL := Lib.hid hL
  clear hL
  go_enter Try.func98, Try.ntmps98
  go_wp2
  go_loopw [1, 5] (fun av l wr => ∃ (y : Int) (xs : List Int), av = .int .i64 y ∧ 0 ≤ y ∧ y < 8192 ∧ Hid (xs ++ Lw.digs p y = L) ∧ wr.ownsRow w.heap.size 2 1 l xs.length (Lw.intsV .i64 xs) ∧ Below w.heap.size w wr) (fun av _ _ => (intOf av).toNat)
  case atStart => exact ⟨a, [], rfl, a0, a1, by rw [HL.out]; rfl, World.ownsRow_nil _ _ _ _, Below.refl _ _⟩
  case round =>
    obtain ⟨y, xs, rfl, y0, y1, XE, own, hB⟩ := hrel
    have hszr := hB.size
    have hxl : xs.length ≤ 14 := by have h1 := XE.out; have h2 := DL.out; rw [← h1, List.length_append] at h2; omega
    rcases (by omega : y = 0 ∨ 0 < y) with h | h
    · subst h
      have XE1 := XE.out
      rw [DZ.out, List.append_nil] at XE1
      subst XE1
      obtain ⟨C, g, rfl, hg, _⟩ := Lw.ownsForm own
      have RR := Lib.hid (Lw.Rd.of_own own)
      clear own
      go_wp2
      go_ret
      exact ⟨C, xs.length, g, rfl, RR.out, hg, hB⟩
    · have S := DS.out y h y1
      obtain ⟨q1, q2⟩ := DI.out y h
      have r1 : 0 ≤ y % p := Int.emod_nonneg _ (by omega)
      have r2 : y % p < p := Int.emod_lt_of_pos _ (by omega)
      have T1 : y.tmod p = y % p := Int.tmod_eq_emod_of_nonneg y0
      have T2 : y.tdiv p = y / p := Int.tdiv_eq_ediv_of_nonneg y0
      obtain ⟨r, hr⟩ : ∃ z, y % p = z := ⟨_, rfl⟩
      obtain ⟨q, hq⟩ : ∃ z, y / p = z := ⟨_, rfl⟩
      rw [hr] at S r1 r2 T1
      rw [hq] at S q1 q2 T2
      have XE2 : Hid ((xs ++ [r]) ++ Lw.digs p q = L) := by have h1 := XE.out; rw [S] at h1; unfold Hid; rw [List.append_assoc]; exact h1
      have OWN := Lib.hid own
      have hyp : 0 < y := h
      clear own hr hq S XE
      go_wp2_with (at_builtin; refine Lw.wpList_app elPly rfl _ _ rfl rfl (OWN.out.alloc _) rfl (by first | exact Lw.Rd.nil _ _ _ | exact Lw.Rd.lit (Lw.blk_new' (by simp) _ _) rfl rfl | exact Lw.Rd.lit (Lw.blk_alloc (Lw.blk_new' (by simp) _ _) _) rfl rfl) (Lw.one1 _ _) (by omega) (Lw.balloc hB _) (Nat.le_refl _) (by simp; omega) ?_; intro v2 w2 own2 hb2 _ _)
      have O2 := Lib.hid own2
      clear own2
      go_wp2
      go_roundw
      case rel => exact ⟨q, xs ++ [r], by first | rfl | simp [T2], q1, by omega, XE2, by rw [Lw.intsV_snoc, List.length_append]; exact O2.out, hb2⟩
      case measure => simp [intOf, T2]; omega
set_option maxHeartbeats 2000000 in
theorem field_poly (p sz a : Int) (A : Option Addr) (n c : Nat) (w : World) (p1 : 2 ≤ p) (p2 : p ≤ 251) (a0 : 0 ≤ a) (a1 : a < 8192) :
    Calls Try.prog 149 #[.agg #[.int .i64 p, .int .i64 sz, .slice A n c], .int .i64 a] w (Lw.RetL (Lw.digs p a) w) := by
  have p0 : ¬ p = 0 := by omega
  have DS := Lib.hid (fun a (h0 : 0 < a) (h1 : a < 8192) => Lw.digs_step (p := p) (a := a) p1 h0 (by omega))
  have DI := Lib.hid (fun a (h0 : 0 < a) => Lw.digs_in (p := p) (a := a) p1 h0)
  have DL := Lib.hid (Lw.digs_len (p := p) (a := a))
  have DZ := Lib.hid (Lw.digs_zero (p := p))
  obtain ⟨L, hL⟩ : ∃ L, Lw.digs p a = L := ⟨_, rfl⟩
  rw [hL] at DL ⊢
  have HL := Lib.hid hL
  clear hL
  obtain ⟨W, hW⟩ : ∃ W, w.alloc (.cells #[.int .i64 p, .int .i64 sz, .slice A n c] 130) = W := ⟨_, rfl⟩
  have B0 := Lib.hid (show W.heap[w.heap.size]? = some (.cells #[.int .i64 p, .int .i64 sz, .slice A n c] 130 (0, 0)) from hW ▸ Lw.blk_new _ _ _)
  have hBW : Below w.heap.size w W := by rw [← hW]; exact Lw.balloc (Below.refl _ _) _
  have hWs : w.heap.size < W.heap.size := by rw [← hW]; simp
  have l0 := Lw.blk_cell B0.out 0
  simp at l0
  have HW := Lib.hid hW
  clear hW
  go_enter Try.func149, Try.ntmps149
  go_wp2
  rw [HW.out]
  go_loopw [1, 5] (fun av l wr => ∃ (y : Int) (xs : List Int), av = .int .i64 y ∧ 0 ≤ y ∧ y < 8192 ∧ Hid (xs ++ Lw.digs p y = L) ∧ wr.ownsRow W.heap.size 2 1 l xs.length (Lw.intsV .i64 xs) ∧ Below W.heap.size W wr) (fun av _ _ => (intOf av).toNat)
  case atStart => exact ⟨a, [], rfl, a0, a1, by rw [HL.out]; rfl, World.ownsRow_nil _ _ _ _, Below.refl _ _⟩
  case round =>
    obtain ⟨y, xs, rfl, y0, y1, XE, own, hB⟩ := hrel
    have hszr := hB.size
    have hBr : Below w.heap.size w wr := hBW.trans (hB.mono hBW.size)
    have hxl : xs.length ≤ 14 := by have h1 := XE.out; have h2 := DL.out; rw [← h1, List.length_append] at h2; omega
    rcases (by omega : y = 0 ∨ 0 < y) with h | h
    · subst h
      have XE1 := XE.out
      rw [DZ.out, List.append_nil] at XE1
      subst XE1
      obtain ⟨C, g, rfl, hg, _⟩ := Lw.ownsForm own
      have RR := Lib.hid (Lw.Rd.of_own own)
      clear own
      go_wp2
      go_ret
      exact ⟨C, xs.length, g, rfl, RR.out, hg, hBr⟩
    · have S := DS.out y h y1
      obtain ⟨q1, q2⟩ := DI.out y h
      have r1 : 0 ≤ y % p := Int.emod_nonneg _ (by omega)
      have r2 : y % p < p := Int.emod_lt_of_pos _ (by omega)
      have T1 : y.tmod p = y % p := Int.tmod_eq_emod_of_nonneg y0
      have T2 : y.tdiv p = y / p := Int.tdiv_eq_ediv_of_nonneg y0
      obtain ⟨r, hr⟩ : ∃ z, y % p = z := ⟨_, rfl⟩
      obtain ⟨q, hq⟩ : ∃ z, y / p = z := ⟨_, rfl⟩
      rw [hr] at S r1 r2 T1
      rw [hq] at S q1 q2 T2
      have XE2 : Hid ((xs ++ [r]) ++ Lw.digs p q = L) := by have h1 := XE.out; rw [S] at h1; unfold Hid; rw [List.append_assoc]; exact h1
      have OWN := Lib.hid own
      have hyp : 0 < y := h
      have m0 : wr.cell? ⟨w.heap.size, 0, none⟩ = some (.int .i64 p) := (hB.cell hWs).trans l0
      clear own hr hq S XE
      go_wp2_with (at_builtin; refine Lw.wpList_app elPly rfl _ _ rfl rfl (OWN.out.alloc _) rfl (by first | exact Lw.Rd.nil _ _ _ | exact Lw.Rd.lit (Lw.blk_new' (by simp) _ _) rfl rfl | exact Lw.Rd.lit (Lw.blk_alloc (Lw.blk_new' (by simp) _ _) _) rfl rfl) (Lw.one1 _ _) (by omega) (Lw.balloc hB _) (Nat.le_refl _) (by simp; omega) ?_; intro v2 w2 own2 hb2 _ _; have m2 : w2.cell? ⟨w.heap.size, 0, none⟩ = some (.int .i64 p) := (hb2.cell hWs).trans l0)
      have O2 := Lib.hid own2
      clear own2
      go_wp2
      go_roundw
      case rel => exact ⟨q, xs ++ [r], by first | rfl | simp [T2], q1, by omega, XE2, by rw [Lw.intsV_snoc, List.length_append]; exact O2.out, hb2⟩
      case measure => simp [intOf, T2]; omega
set_option maxHeartbeats 1000000 in
theorem ref_FieldSize (p : Int) (A : Option Addr) (n c : Nat) (w : World) (p1 : 2 ≤ p) (p2 : p ≤ 251) (n1 : 1 ≤ n) (n2 : n ≤ 13) :
    Calls Try.prog 95 #[.int .i64 p, .slice A n c] w fun e w' => e = .returned (.int .i64 (Lw.sizL p n)) ∧ w = w' := by
  have PS : Hid (∀ k, p ^ (k + 1) = p ^ k * p) := fun k => Int.pow_succ ..
  have PP : Hid (∀ k, 0 < p ^ k) := fun k => Int.pow_pos (by omega)
  have PL := Lib.hid (fun a b (h : a ≤ b) => Lw.ipow_le p1 (a := a) (b := b) h)
  have P0 : Hid (p ^ 0 = 1) := Int.pow_zero _
  have SZ : Hid (Lw.sizL p n = if 4096 < p ^ (n - 1) then 0 else p ^ (n - 1)) := rfl
  generalize Lw.sizL p n = V at *
  go_enter Try.func95, Try.ntmps95
  go_wp2
  go_loop [5, 6] (fun s k => ∃ j : Nat, k = .int .i64 ((j : Int) + 1) ∧ j + 1 ≤ n ∧ s = .int .i64 (p ^ j) ∧ Hid (p ^ j ≤ 4096)) (fun _ k => n - (intOf k).toNat)
  case atStart => exact ⟨0, rfl, by omega, by rw [P0.out], by rw [P0.out]; unfold Hid; omega⟩
  case round =>
    obtain ⟨j, rfl, hj, rfl, HL⟩ := hrel
    have h1 := PS.out j
    have h2 := PP.out j
    have h3 := HL.out
    have h4 := PP.out (j + 1)
    have h6 := fun h => PL.out (j + 1) (n - 1) h
    have h7 : j + 1 = n → Hid (V = p ^ j) := fun e => by
      have e2 : n - 1 = j := by omega
      have h8 := SZ.out
      rw [e2, if_neg (by omega)] at h8
      exact h8
    have h9 : ∀ z, j + 1 < n → p ^ (j + 1) = z → 4096 < z → Hid (V = 0) := fun z e ez hz => by
      have h8 := SZ.out
      rw [if_pos (by have := h6 (by omega); omega)] at h8
      exact h8
    obtain ⟨t, ht⟩ : ∃ z, p ^ j = z := ⟨_, rfl⟩
    obtain ⟨t', ht'⟩ : ∃ z, p ^ (j + 1) = z := ⟨_, rfl⟩
    rw [ht] at h1 h2 h3 h7
    rw [ht] 
    rw [ht'] at h1 h4
    have h9 := fun e => h9 t' e ht'
    have m2 : t * p ≤ 4096 * 251 := Int.mul_le_mul h3 p2 (by omega) (by omega)
    rw [← h1] at m2
    have E : t * p = t' := h1.symm
    have HT := Lib.hid ht'
    clear ht ht' h6 HL SZ PP PS PL h1
    by_cases hlt : j + 1 < n
    · have hlt' : (j : Int) + 1 < (n : Int) := by omega
      by_cases hbig : 4096 < t'
      · have V0 := h9 hlt hbig
        clear h7 h9
        go_wp2
        go_ret
        exact ⟨Lw.ret_int V0.out.symm, rfl⟩
      · clear h7 h9
        have HS : Hid (p ^ (j + 1) ≤ 4096) := by rw [HT.out]; unfold Hid; omega
        go_wp2
        go_round
        case rel => exact ⟨j + 1, by go_num, by omega, by rw [HT.out], HS⟩
        case measure => simp [intOf]; omega
    · have V0 := h7 (by omega)
      clear h7 h9
      have hge : ¬ (j : Int) + 1 < (n : Int) := by omega
      go_wp2
      go_ret
      exact ⟨Lw.ret_int V0.out.symm, rfl⟩
end Go.Proofs.Ytjhjppaabmbbbaa
