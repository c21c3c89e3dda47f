/- share.Explain: points for another secret (plain, and walked). -/
import Derived.Test.YtjhjppaabmbbbaaShu
import Derived.Test.YtjhjppaabmbbbaaApz
import Derived.Test.YtjhjppaabmbbbaaRegS
namespace Lw
open Go Go.RowKit
def expP (p s : Int) (r : PtT) : PtT := (r.1, (r.2 - s) % p * invR r.1 p % p)
def expL (p s : Int) (L : List PtT) : List PtT := L.map (expP p s)
theorem expL_len {p s : Int} {L : List PtT} : (expL p s L).length = L.length := by simp [expL]
theorem expL_at {p s : Int} {L : List PtT} {k : Nat} (h : k < L.length) : ptG (expL p s L) k = expP p s (ptG L k) := by
  rw [ptG_at h, ptG_at (by rw [expL_len]; exact h)]; simp [expL]
theorem expL_fst {p s : Int} {L : List PtT} : (expL p s L).map Prod.fst = L.map Prod.fst := by
  unfold expL; rw [List.map_map]; rfl
theorem expL_take {p s : Int} {L : List PtT} {k : Nat} (h : k < L.length) : expL p s (L.take (k + 1)) = expL p s (L.take k) ++ [expP p s (ptG L k)] := by
  unfold expL; rw [List.take_succ_eq_append_getElem h, List.map_append, ptG_at h]; rfl
theorem exp_pts {p s : Int} {L : List PtT} (h : ptsE p L = 0) : ptsE p (expL p s L) = 0 := by
  obtain ⟨hp, h13, hL⟩ := pts_ok h
  obtain ⟨p1, p2, pp⟩ := ppr_ok hp
  refine pts_zero hp (by rw [expL_len]; omega) (fun k hk => ?_) ?_
  · have hk' : k < L.length := by rw [expL_len] at hk; exact hk
    have e := expL_at (p := p) (s := s) hk'
    rw [ptG_at hk] at e
    rw [e]
    obtain ⟨⟨x0, x1⟩, _⟩ := hL.bd hk'
    have y0 := Int.emod_nonneg (((ptG L k).2 - s) % p * invR (ptG L k).1 p) (by omega : p ≠ 0)
    have y1 := Int.emod_lt_of_pos (((ptG L k).2 - s) % p * invR (ptG L k).1 p) (by omega : 0 < p)
    unfold outP expP; simp; omega
  · rw [expL_fst, expL_len]
    rintro ⟨i, j, hj, hi, e⟩
    rw [fst_getD, fst_getD] at e
    exact hL.2 j i hj hi e.symm
theorem exp_at {p A M i X Y s : Int} (h1 : A % p = M) (h2 : M = (Y - s) % p * i % p) (h3 : i * X % p = 1 % p) : (A * X + s) % p = Y % p := by
  rw [h2] at h1
  obtain ⟨a, ha⟩ := Int.dvd_of_emod_eq_zero (Int.emod_eq_emod_iff_emod_sub_eq_zero.1 (h1.trans (show (Y - s) % p * i % p = ((Y - s) % p * i) % p from rfl)))
  obtain ⟨b, hb⟩ := Int.dvd_of_emod_eq_zero (Int.emod_eq_emod_iff_emod_sub_eq_zero.1 h3)
  obtain ⟨c, hc⟩ : ∃ c, (Y - s) % p = (Y - s) - p * c := ⟨(Y - s) / p, Int.emod_def ..⟩
  have e1 : A = (Y - s) % p * i + p * a := by omega
  have e2 : i * X = p * b + 1 := by omega
  refine Int.emod_eq_emod_iff_emod_sub_eq_zero.2 (Int.emod_eq_zero_of_dvd ⟨(Y - s) * b - c * (p * b + 1) + a * X, ?_⟩)
  have e3 : A * X + s - Y = ((Y - s) - p * c) * (i * X) + p * a * X + s - Y := by rw [e1, hc]; grind
  rw [e3, e2]; grind
theorem eval_zeros (x : Int) : ∀ (a : List Int) (k : Nat), evalI (a ++ List.replicate k 0) x = evalI a x
  | [], 0 => rfl
  | [], k + 1 => by
    show evalI (0 :: List.replicate k 0) x = 0
    have := eval_zeros x [] k
    rw [List.nil_append] at this
    rw [eval_cons, this]; show (0 : Int) * x + 0 = 0; omega
  | z :: a, k => by
    show evalI (z :: (a ++ List.replicate k 0)) x = _
    rw [eval_cons, eval_cons, eval_zeros x a k]
/-- the numbers that explain -/
def expA (p s : Int) (L : List PtT) : List Int := (nst p (expL p s L) L.length).1 ++ List.replicate (L.length - (nst p (expL p s L) L.length).1.length) 0
theorem expA_spec {p s : Int} {L : List PtT} (h : ptsE p L = 0) (hz : zeroX L = false) (s0 : 0 ≤ s) (s1 : s < p) :
    (∀ x ∈ expA p s L, 0 ≤ x ∧ x < p) ∧ (expA p s L).length = L.length ∧ ∀ k, k < L.length → hornV p (s :: expA p s L) (ptG L k).1 = (ptG L k).2 := by
  have he := exp_pts (s := s) h
  obtain ⟨hp, h13, hL⟩ := pts_ok h
  obtain ⟨_, _, hE⟩ := pts_ok he
  obtain ⟨p1, p2, pp⟩ := ppr_ok hp
  obtain ⟨n1, _, n3, _, _, n6, _⟩ := new_all p1 p2 pp hE L.length (by rw [expL_len]; exact Nat.le_refl _)
  unfold expA
  refine ⟨fun x hx => ?_, ?_, fun k hk => ?_⟩
  · rcases List.mem_append.1 hx with h1 | h1
    · exact n1 x h1
    · rw [List.eq_of_mem_replicate h1]; omega
  · rw [List.length_append, List.length_replicate]; omega
  · obtain ⟨⟨x0, x1⟩, y0, y1⟩ := hL.bd hk
    have xz : (ptG L k).1 ≠ 0 := fun e => by
      have : zeroX L = true := List.any_eq_true.2 ⟨L[k], List.getElem_mem hk, by rw [← ptG_at hk]; simpa using e⟩
      rw [hz] at this; cases this
    have hi := (inv_prime pp (by omega) (by omega : 0 < (ptG L k).1) x1).1
    have e6 := n6 k hk
    rw [expL_at hk] at e6
    simp only [expP] at e6
    rw [horn_at x0 x1, eval_cons, eval_zeros, exp_at e6 rfl hi]
    exact Int.emod_eq_of_lt y0 y1
/-- two cells of a box, and what stands below -/
def Sc (b : Nat) (x y : Value) (w1 w' : World) : Prop := w'.cell? ⟨b, 0, none⟩ = some x ∧ w'.cell? ⟨b, 1, none⟩ = some y ∧ True ∧ Below w1.heap.size w1 w'
theorem Sc.mk' {b : Nat} {x y : Value} {w1 w w' : World} (h : Sc b x y w1 w) (hb : Below w.heap.size w w') (hl : b < w.heap.size) (h1 : w1.heap.size ≤ w.heap.size) : Sc b x y w1 w' :=
  ⟨(hb.cell (p := ⟨b, 0, none⟩) hl).trans h.1, (hb.cell (p := ⟨b, 1, none⟩) hl).trans h.2.1, trivial, bt h.2.2.2 hb⟩
end Lw
set_option linter.unusedVariables false
set_option linter.unusedSimpArgs false
namespace Go.Proofs.Ytjhjppaabmbbbaa
open Go.RowKit
theorem elPnx : Lw.El Try.prog 68 81 (.agg #[.int .i64 0, .int .i64 0]) 2 16 := Lw.El.mk' Try.underlying68 (by kernel_rfl) rfl (by decide) (by decide)
set_option maxRecDepth 100000 in
set_option maxHeartbeats 1000000 in
theorem longs_clonex (A : Option Addr) (n c : Nat) (xs : List Value) (w : World) (R : Lw.Rd w 1 A n xs) (o1 : ∀ u ∈ xs, u.oneCell' = true) (hn : n ≤ 16777216) :
    Calls Try.prog 91 #[.slice A n c] w (Lw.OwnRes 2 1 xs n w) := by
  have q := fun (w : World) (a : Option Addr) (n c n' c' : Nat) => Lib.run_eql_slice_nil (P := Try.prog) w 69 2 a n c n' c' Try.underlying69
  rcases A with _ | ad
  · have hn0 : n = 0 := by
      rcases Nat.eq_zero_or_pos n with h | h
      · exact h
      · obtain ⟨_, h2, _⟩ := R.2 h; cases h2
    subst hn0
    have hx : xs = [] := List.eq_nil_of_length_eq_zero (by simpa using R.1)
    subst hx
    clear R o1
    go_enter Try.func91, Try.ntmps91
    go_wp2
    go_ret
    exact ⟨_, _, rfl, World.ownsRow_nil _ _ _ _, Below.refl _ _⟩
  · have R := Lib.hid R
    go_enter Try.func91, Try.ntmps91
    go_wp2_with (at_builtin; refine Lw.wpList_app elPly rfl _ _ rfl rfl (Lw.own_lit w (xs := []) rfl rfl (by decide) (Nat.le_refl _)) rfl (R.out.alloc _) o1 (by omega) (Lw.balloc (Below.refl _ _) _) (Nat.le_refl _) (by simp) ?_; intro v1 w1 own1 hb1 _ _)
    go_ret
    obtain ⟨B, c', rfl, _⟩ := Lw.ownsForm own1
    exact ⟨B, c', by simp, by simpa using own1, hb1⟩

theorem share_Explain_bad (p s : Int) (A : Option Addr) (n c : Nat) (L : List Lw.PtT) (w : World) (R : Lw.Rd w 2 A n (Lw.pairsV .i64 .i64 L)) (hw : ∀ r ∈ L, (Lit.int .i64 r.1).wf = true) (h0 : ¬ Lw.joinE p L = 0) :
    Calls Try.prog 44 #[.int .i64 p, .slice A n c, .int .i64 s] w fun e w' => e = .returned (.tuple #[.slice none 0 0, .int .i64 (Lw.joinE p L)]) ∧ Below w.heap.size w w' := by
  have X := Lib.hid (share_Join p A n c L w R hw)
  have z : (Lw.joinE p L != 0) = true := by simpa using h0
  have H0 := Lib.hid h0
  clear R hw h0
  generalize Lw.joinE p L = E at *
  go_enter Try.func44, Try.ntmps44
  go_wp2_with fail
  refine X.out.mono ?_
  rintro e w1 ⟨_, X2, hb1⟩
  replace X2 := X2 H0.out
  subst X2
  clear X
  go_wp2_with fail
  go_ret2
  exact ⟨rfl, hb1⟩
theorem share_Explain_out (p s : Int) (A : Option Addr) (n c : Nat) (L : List Lw.PtT) (w : World) (R : Lw.Rd w 2 A n (Lw.pairsV .i64 .i64 L)) (hw : ∀ r ∈ L, (Lit.int .i64 r.1).wf = true) (h0 : Lw.joinE p L = 0) (h1 : s < 0 ∨ p ≤ s) :
    Calls Try.prog 44 #[.int .i64 p, .slice A n c, .int .i64 s] w fun e w' => e = .returned (.tuple #[.slice none 0 0, .int .i64 2]) ∧ Below w.heap.size w w' := by
  have X := Lib.hid (share_Join p A n c L w R hw)
  have H0 := Lib.hid h0
  clear R hw h0
  generalize Lw.joinE p L = E at *
  have key : s < 0 ∨ (¬ s < 0 ∧ p ≤ s) := by omega
  clear h1
  rcases key with k1 | ⟨k1, k2⟩
  all_goals
    go_enter Try.func44, Try.ntmps44
    go_wp2_with fail
    refine X.out.mono ?_
    rintro e w1 ⟨X1, _, hb1⟩
    replace X1 := X1 H0.out
    subst X1
    clear X
    go_wp2_with fail
    go_ret2
    exact ⟨rfl, hb1⟩
theorem share_Explain_long (p s : Int) (A : Option Addr) (n c : Nat) (L : List Lw.PtT) (w : World) (R : Lw.Rd w 2 A n (Lw.pairsV .i64 .i64 L)) (hw : ∀ r ∈ L, (Lit.int .i64 r.1).wf = true) (h0 : Lw.joinE p L = 0) (k1 : ¬ s < 0) (k2 : ¬ p ≤ s) (h2 : 12 < n) :
    Calls Try.prog 44 #[.int .i64 p, .slice A n c, .int .i64 s] w fun e w' => e = .returned (.tuple #[.slice none 0 0, .int .i64 1]) ∧ Below w.heap.size w w' := by
  have X := Lib.hid (share_Join p A n c L w R hw)
  have H0 := Lib.hid h0
  clear R hw h0
  generalize Lw.joinE p L = E at *
  have i1 : (12 : Int) < (n : Int) := by omega
  go_enter Try.func44, Try.ntmps44
  go_wp2_with fail
  refine X.out.mono ?_
  rintro e w1 ⟨X1, _, hb1⟩
  replace X1 := X1 H0.out
  subst X1
  clear X
  go_wp2_with fail
  go_ret2
  exact ⟨rfl, hb1⟩
set_option maxRecDepth 100000 in
set_option maxHeartbeats 4000000 in
theorem share_Explain_ok (p s : Int) (A : Option Addr) (n c : Nat) (L : List Lw.PtT) (w : World) (R : Lw.Rd w 2 A n (Lw.pairsV .i64 .i64 L)) (hw : ∀ r ∈ L, (Lit.int .i64 r.1).wf = true) (h0 : Lw.joinE p L = 0) (k1 : ¬ s < 0) (k2 : ¬ p ≤ s) (h2 : ¬ 12 < n) :
    Calls Try.prog 44 #[.int .i64 p, .slice A n c, .int .i64 s] w fun e w' => ∃ C g, e = .returned (.tuple #[.slice C n g, .int .i64 0]) ∧ Lw.Rd w' 1 C n (Lw.intsV .i64 (Lw.expA p s L)) ∧ Below w.heap.size w w' := by
  have X := Lib.hid (share_Join p A n c L w R hw)
  have H0 := Lib.hid h0
  obtain ⟨h3, h4⟩ := Lw.join_0 h0
  have lL := Lw.pairsV_len R
  obtain ⟨hp, h13, hL⟩ := Lw.pts_ok h3
  obtain ⟨p1, p2, pp⟩ := Lw.ppr_ok hp
  have he := Lw.exp_pts (s := s) h3
  have BD := Lib.hid (fun k hk => hL.bd (k := k) hk)
  have IB := Lib.hid (fun a (h1 : 0 < a) (h2 : a < p) => (Lw.inv_prime (p := p) (b := a) pp (by omega) h1 h2).2)
  have XZ : Hid (∀ k, k < L.length → (Lw.ptG L k).1 ≠ 0) := Lib.hid (fun k hk e => by
    have : Lw.zeroX L = true := List.any_eq_true.2 ⟨L[k], List.getElem_mem hk, by rw [← Lw.ptG_at hk]; simpa using e⟩
    rw [h4] at this; cases this)
  have TH := Lib.hid (fun D g W (RD : Lw.Rd W 2 D n (Lw.pairsV .i64 .i64 (Lw.expL p s L))) => poly_Through_ok p D n g (Lw.expL p s L) W RD (by
    intro r hr
    obtain ⟨q, hq, rfl⟩ := List.mem_map.1 hr
    exact hw q hq) he)
  have EQ : Hid (Lw.expA p s L = (Lw.nst p (Lw.expL p s L) L.length).1 ++ List.replicate (n - (Lw.nst p (Lw.expL p s L) L.length).1.length) 0) := Lib.hid (by rw [← lL]; rfl)
  obtain ⟨_, _, le, _⟩ := Lw.new_all p1 p2 pp (Lw.pts_ok he).2.2 L.length (by rw [Lw.expL_len]; exact Nat.le_refl _)
  rw [Lw.expL_len] at TH
  have LE := Lib.hid le
  have TK := Lib.hid (fun k (hk : k < L.length) => Lw.expL_take (p := p) (s := s) hk)
  have LL := Lib.hid lL
  have R := Lib.hid R
  have hp0 : ¬ p = 0 := by omega
  have i1 : ¬ (12 : Int) < (n : Int) := by omega
  clear hw h0 hp hL pp lL h13 he le h3 h4
  generalize Lw.joinE p L = E at *
  go_enter Try.func44, Try.ntmps44
  go_wp2_with fail
  refine X.out.mono ?_
  rintro e w1 ⟨X1, _, hb1⟩
  replace X1 := X1 H0.out
  subst X1
  clear X
  go_wp2_with fail
  go_loopw [10, 12, 13, 14, 38] (fun mv vv kv ev i wr => ∃ k : Nat, i = .int .i64 (k : Int) ∧ k ≤ n ∧ wr.ownsRow w1.heap.size 81 2 mv k (Lw.pairsV .i64 .i64 (Lw.expL p s (L.take k))) ∧ Below w1.heap.size w1 wr) (fun _ _ _ _ i _ => n - (intOf i).toNat)
  case atStart => exact ⟨0, rfl, by omega, World.ownsRow_nil _ _ _ _, Below.refl _ _⟩
  case round =>
    obtain ⟨k, rfl, hk, own, hB⟩ := hrel
    by_cases hlt : k < n
    · have hl : k < L.length := by rw [LL.out]; exact hlt
      obtain ⟨g0, g1⟩ := Lw.pairsV_get (k := .i64) (l := .i64) hl
      obtain ⟨ad, rfl, had, d0, d1⟩ := (R.out.below (Nat.le_refl _) (Lw.bt hb1 hB)).at2 hlt g0 g1
      have TKK := TK.out k hl
      have xz := XZ.out k hl
      obtain ⟨⟨x0, x1⟩, y0, y1⟩ := BD.out k hl
      rw [← Lw.ptG_at hl] at d0 d1
      obtain ⟨⟨x, y⟩, hx⟩ : ∃ z, Lw.ptG L k = z := ⟨_, rfl⟩
      rw [hx] at d0 d1 x0 x1 y0 y1 xz TKK
      simp only at d0 d1 x0 x1 y0 y1 xz
      obtain ⟨v0, v1⟩ := IB.out x (by omega) x1
      have q0 := Int.emod_nonneg (y - s) hp0
      have q1 := Int.emod_lt_of_pos (y - s) (by omega : 0 < p)
      have EP : Hid (Lw.expP p s (x, y) = (x, (y - s) % p * Lw.invR x p % p)) := Lib.hid rfl
      have MD := Lib.hid (fun w => euclid_Mod (y - s) p w (by omega) (by omega))
      have IV := Lib.hid (fun w => euclid_Inverse x p w)
      have w1' : IntKind.i64.wrap (y - s) = y - s := by rw [IntKind.wrap_i64]; omega
      generalize Lw.invR x p = ii at *
      generalize Lw.invE x p = ie at *
      generalize (y - s) % p = qq at *
      obtain ⟨m0, m1⟩ := Lw.mul_bd' qq ii 251 q0 (by omega) v0 (by omega)
      have e1 : IntKind.i64.wrap (qq * ii) = qq * ii := by rw [IntKind.wrap_i64]; omega
      have e2 : (qq * ii).tmod p = qq * ii % p := Int.tmod_eq_emod_of_nonneg m0
      obtain ⟨W, hW⟩ : ∃ W, wr.alloc (.cells #[.int .i64 x, .int .i64 y] 81) = W := ⟨_, rfl⟩
      have B0 := show W.heap[wr.heap.size]? = some (.cells #[.int .i64 x, .int .i64 y] 81 (0, 0)) from hW ▸ Lw.blk_new _ _ _
      have l0 := Lw.blk_cell B0 0; have l1 := Lw.blk_cell B0 1
      simp at l0 l1
      have hBW : Below wr.heap.size wr W := by rw [← hW]; exact Lw.balloc (Below.refl _ _) _
      have hWs : wr.heap.size < W.heap.size := by rw [← hW]; simp
      have HW := Lib.hid hW
      have TKK := Lib.hid TKK
      have OWN := Lib.hid own
      have hlt' : (k : Int) < (n : Int) := by omega
      clear hW B0 hx g0 g1 hl had BD IB XZ xz q0 q1 m0 m1 x0 x1 y0 y1 own v0 v1
      go_wp2_with fail
      rw [HW.out]
      go_wp2_with fail
      refine (IV.out _).mono ?_
      rintro e w3 ⟨rfl, hb3⟩
      have hBx := Lw.bt hBW hb3
      have O3 := Lib.hid (Lw.ownsBelow OWN.out (Nat.le_refl _) hBx)
      have hB3 := Lw.bt hB hBx
      have k0 := (hb3.cell (p := ⟨wr.heap.size, 0, none⟩) hWs).trans l0
      have k1' := (hb3.cell (p := ⟨wr.heap.size, 1, none⟩) hWs).trans l1
      have z3 := hb3.size
      have z4 := hB3.size
      have SC : Lw.Sc wr.heap.size (.int .i64 x) (.int .i64 y) w1 w3.drew := ⟨k0, k1', trivial, Below.drew hB3⟩
      clear l0 l1
      go_wp2_with fail
      refine wp_region_held_drew (S := Lw.Sc wr.heap.size (.int .i64 x) (.int .i64 y) w1) (by kernel_rfl) SC (fun hHeld => ?_)
      (refine Lw.take1 (i := 0) (v := ?_) rfl (by kernel_rfl) (by kernel_rfl) (by kernel_rfl) (fun _ _ _ h => h) (Or.inl ⟨by rfl, ?_⟩) (by assumption) ?_; rotate_left 1; (focus (intro wS hSw; obtain ⟨hS1, hS2, hS3, hS4⟩ := hSw; go_simp <;> with_reducible rfl)); (try simp only [Act.put, List.setIfInBounds_toArray, List.set_cons_zero, List.set_cons_succ]))
      (refine Lw.take1 (i := 1) (v := ?_) rfl (by kernel_rfl) (by kernel_rfl) (by kernel_rfl) (fun _ _ _ h => h) (Or.inl ⟨by rfl, ?_⟩) (by assumption) ?_; rotate_left 1; (focus (intro wS hSw; obtain ⟨hS1, hS2, hS3, hS4⟩ := hSw; go_simp <;> with_reducible rfl)); (try simp only [Act.put, List.setIfInBounds_toArray, List.set_cons_zero, List.set_cons_succ]))
      (refine Lw.take1 (i := 2) (v := ?_) rfl (by kernel_rfl) (by kernel_rfl) (by kernel_rfl) (fun _ _ _ h => h) (Or.inl ⟨by rfl, ?_⟩) (by assumption) ?_; rotate_left 1; (focus (intro wS hSw; obtain ⟨hS1, hS2, hS3, hS4⟩ := hSw; go_simp <;> with_reducible rfl)); (try simp only [Act.put, List.setIfInBounds_toArray, List.set_cons_zero, List.set_cons_succ]))
      (refine Lw.take1 (i := 3) (v := ?_) rfl (by kernel_rfl) (by kernel_rfl) (by kernel_rfl) (fun _ _ _ h => h) (Or.inl ⟨by rfl, ?_⟩) (by assumption) ?_; rotate_left 1; (focus (intro wS hSw; obtain ⟨hS1, hS2, hS3, hS4⟩ := hSw; go_simp <;> with_reducible rfl)); (try simp only [Act.put, List.setIfInBounds_toArray, List.set_cons_zero, List.set_cons_succ]))
      (refine Lw.take1 (i := 4) (v := ?_) rfl (by kernel_rfl) (by kernel_rfl) (by kernel_rfl) (fun _ _ _ h => h) (Or.inl ⟨by rfl, ?_⟩) (by assumption) ?_; rotate_left 1; (focus (intro wS hSw; obtain ⟨hS1, hS2, hS3, hS4⟩ := hSw; go_simp <;> with_reducible rfl)); (try simp only [Act.put, List.setIfInBounds_toArray, List.set_cons_zero, List.set_cons_succ]))
      (refine Lw.take1 (i := 5) (v := ?_) rfl (by kernel_rfl) (by kernel_rfl) (by kernel_rfl) (fun _ _ _ h => h) (Or.inl ⟨by rfl, ?_⟩) (by assumption) ?_; rotate_left 1; (focus (intro wS hSw; obtain ⟨hS1, hS2, hS3, hS4⟩ := hSw; go_simp <;> with_reducible rfl)); (try simp only [Act.put, List.setIfInBounds_toArray, List.set_cons_zero, List.set_cons_succ]))
      (refine Lw.take1 (i := 6) (v := ?_) rfl (by kernel_rfl) (by kernel_rfl) (by kernel_rfl) (fun _ _ _ h => h) (Or.inl ⟨by rfl, ?_⟩) (by assumption) ?_; rotate_left 1; (focus (intro wS hSw; obtain ⟨hS1, hS2, hS3, hS4⟩ := hSw; go_simp <;> with_reducible rfl)); (try simp only [Act.put, List.setIfInBounds_toArray, List.set_cons_zero, List.set_cons_succ]))
      (refine Lw.take1 (i := 7) (v := ?_) rfl (by kernel_rfl) (by kernel_rfl) (by kernel_rfl) (fun _ _ _ h => h) (Or.inl ⟨by rfl, ?_⟩) (by assumption) ?_; rotate_left 1; (focus (intro wS hSw; obtain ⟨hS1, hS2, hS3, hS4⟩ := hSw; go_simp <;> with_reducible rfl)); (try simp only [Act.put, List.setIfInBounds_toArray, List.set_cons_zero, List.set_cons_succ]))
      (refine Lw.take1 (i := 9) (v := ?_) rfl (by kernel_rfl) (by kernel_rfl) (by kernel_rfl) (fun _ _ _ h => h) (Or.inl ⟨by rfl, ?_⟩) (by assumption) ?_; rotate_left 1; (focus (intro wS hSw; obtain ⟨hS1, hS2, hS3, hS4⟩ := hSw; go_simp <;> with_reducible rfl)); (try simp only [Act.put, List.setIfInBounds_toArray, List.set_cons_zero, List.set_cons_succ]))
      (refine Lw.take1 (i := 11) (v := ?_) rfl (by kernel_rfl) (by kernel_rfl) (by kernel_rfl) (fun _ _ _ h => h) (Or.inl ⟨by rfl, ?_⟩) (by assumption) ?_; rotate_left 1; (focus (intro wS hSw; obtain ⟨hS1, hS2, hS3, hS4⟩ := hSw; go_simp <;> with_reducible rfl)); (try simp only [Act.put, List.setIfInBounds_toArray, List.set_cons_zero, List.set_cons_succ]))
      (refine wpAnyH_ready (rs := [8]) (by kernel_rfl) (by simp) ?_; refine Lw.cons1 (i := 8) rfl (fun K hK => ?_) AllReadyH.nil; go_simp; go_at_call 77; (with_reducible refine (MD.out _).mono ?_); rintro e w' ⟨rfl, rfl⟩; refine hK.out _ _ ?_ (fun hHeld => ?_); (focus exact SC); clear hK K; (try simp only [Act.put, List.setIfInBounds_toArray, List.set_cons_zero, List.set_cons_succ]))
      (refine Lw.take1 (i := 10) (v := ?_) rfl (by kernel_rfl) (by kernel_rfl) (by kernel_rfl) (fun _ _ _ h => h) (Or.inl ⟨by rfl, ?_⟩) (by assumption) ?_; rotate_left 1; (focus (intro wS hSw; obtain ⟨hS1, hS2, hS3, hS4⟩ := hSw; go_simp <;> with_reducible rfl)); (try simp only [Act.put, List.setIfInBounds_toArray, List.set_cons_zero, List.set_cons_succ]))
      (refine Lw.take1 (i := 12) (v := ?_) rfl (by kernel_rfl) (by kernel_rfl) (by kernel_rfl) (fun _ _ _ h => h) (Or.inl ⟨by rfl, ?_⟩) (by assumption) ?_; rotate_left 1; (focus (intro wS hSw; obtain ⟨hS1, hS2, hS3, hS4⟩ := hSw; go_simp <;> with_reducible rfl)); (try simp only [Act.put, List.setIfInBounds_toArray, List.set_cons_zero, List.set_cons_succ]))
      (refine Lw.take1 (i := 13) (v := ?_) rfl (by kernel_rfl) (by kernel_rfl) (by kernel_rfl) (fun _ _ _ h => h) (Or.inl ⟨by rfl, ?_⟩) (by assumption) ?_; rotate_left 1; (focus (intro wS hSw; obtain ⟨hS1, hS2, hS3, hS4⟩ := hSw; go_simp <;> with_reducible rfl)); (try simp only [Act.put, List.setIfInBounds_toArray, List.set_cons_zero, List.set_cons_succ]))
      have SA : Lw.Sc wr.heap.size (.int .i64 x) (.int .i64 y) w1 (w3.drew.alloc (.cells #[.int .i64 x, .int .i64 (qq * ii % p)] 81)) := SC.mk' (Lw.balloc (Below.refl _ _) _) (show wr.heap.size < w3.heap.size by omega) (show w1.heap.size ≤ w3.heap.size by omega)
      (refine wpAnyH_ready (rs := [14]) (by kernel_rfl) (by simp) ?_; refine Lw.cons1 (i := 14) rfl (fun K hK => ?_) AllReadyH.nil; go_simp; refine hK.out _ _ ?_ (fun hHeld => ?_); (focus exact SA); clear hK K; (try simp only [Act.put, List.setIfInBounds_toArray, List.set_cons_zero, List.set_cons_succ]))
      (refine wpAnyH_ready (rs := [15]) (by kernel_rfl) (by simp) ?_; refine Lw.cons1 (i := 15) rfl (fun K hK => ?_) AllReadyH.nil; refine Lw.step_app elPnx rfl _ _ rfl rfl ((Lw.own_drew O3.out).alloc _) rfl (by exact Lw.Rd.lit (Lw.blk_new' (by simp) _ _) rfl rfl) (Lw.one2 .i64 .i64 _ _) (by omega) SA.2.2.2 (Nat.le_refl _) (by simp; omega) ?_; intro v2 w5 own5 hb5 hg5 _; refine hK.out _ _ ?_ (fun hHeld => ?_); (focus exact ⟨hg5.cell SA.1 (fun h => absurd (OWN.out.lt _ h.symm).2 (Nat.lt_irrefl _)), hg5.cell SA.2.1 (fun h => absurd (OWN.out.lt _ h.symm).2 (Nat.lt_irrefl _)), trivial, hb5⟩); clear hK K; (try simp only [Act.put, List.setIfInBounds_toArray, List.set_cons_zero, List.set_cons_succ]))
      have O5 := Lib.hid own5
      clear own5
      (refine Lw.take1 (i := 16) (v := ?_) rfl (by kernel_rfl) (by kernel_rfl) (by kernel_rfl) (fun _ _ _ h => h) (Or.inl ⟨by rfl, ?_⟩) (by assumption) ?_; rotate_left 1; (focus (intro wS hSw; obtain ⟨hS1, hS2, hS3, hS4⟩ := hSw; go_simp <;> with_reducible rfl)); (try simp only [Act.put, List.setIfInBounds_toArray, List.set_cons_zero, List.set_cons_succ]))
      refine wpAnyH_done (by kernel_rfl) ?_ _
      go_wp2_with fail
      go_roundw
      case rel => exact ⟨k + 1, by go_num, by omega, by rw [TKK.out, EP.out, Lw.pairsV_append]; exact O5.out, hb5⟩
      case measure => simp [intOf]; omega
    · have hkn : k = n := by omega
      subst hkn
      rw [List.take_of_length_le (by rw [LL.out]; exact Nat.le_refl _)] at own
      obtain ⟨D, g, rfl, hg, _⟩ := Lw.ownsForm own
      have TX := Lib.hid (TH.out D g wr (Lw.Rd.of_own own))
      have hB := Lw.bt hb1 hB
      clear own TH
      generalize (Lw.nst p (Lw.expL p s L) L.length).1 = a at *
      go_wp2_with fail
      refine TX.out.mono ?_
      rintro e w5 ⟨C, m, d, rfl, RC, hb5⟩
      have la : a.length = m := by have := RC.1; simpa [Lw.intsV] using this
      have CL := Lib.hid (longs_clonex C m d _ w5 RC (Lw.intsV_one _ _) (by have := LE.out; have := LL.out; omega))
      have lm : m ≤ k := by have := LE.out; have := LL.out; omega
      have hB5 := Lw.bt hB hb5
      have em : ((k : Int) - (m : Int)) = ((k - m : Nat) : Int) := by omega
      have EQ2 : Hid (Lw.intsV .i64 (Lw.expA p s L) = Lw.intsV .i64 a ++ List.replicate (k - m) (.int .i64 0)) := Lib.hid (by rw [EQ.out, la]; simp [Lw.intsV])
      clear TX RC la
      go_wp2_with fail
      refine CL.out.mono ?_
      rintro e w6 ⟨D6, g6, rfl, own6, hb6⟩
      have O6 := Lib.hid own6
      have hB6 := Lw.bt hB5 hb6
      have z6 := hB6.size
      clear own6 CL
      go_wp2_with (at_builtin; refine Lw.wpList_app_z (k := .i64) (m := k - m) elPly Try.underlying3 rfl rfl rfl _ _ rfl rfl O6.out (by rw [← em]; rfl) (by omega) hB6 hB5.size hb6.size ?_; intro v7 w7 own7 hb7)
      have ek : m + (k - m) = k := by omega
      rw [ek] at own7
      obtain ⟨D7, g7, rfl, _⟩ := Lw.ownsForm own7
      have R7 := Lib.hid (Lw.Rd.of_own own7)
      clear own7
      go_wp2_with fail
      go_ret2
      exact ⟨D7, g7, rfl, by rw [EQ2.out]; exact R7.out, hb7⟩
end Go.Proofs.Ytjhjppaabmbbbaa
