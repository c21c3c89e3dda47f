/- parts.Play: gates in shares. -/
import Derived.Test.YtfocpbknckmmaaaKPartsPlays7
namespace Lw
open Go Go.RowKit
theorem prG_in (p : Int) (t : Nat) (ins random : List Int) (T : List (List Int)) (used : Nat) (A B N : Int) : prG p t ins random T used ⟨1, A, B, N⟩ = (shrL p (ins.getD A.toNat 0) (takR random used t) (2 * t + 1), used + t) := by unfold prG; rw [if_pos (show (1 : Int) = 1 from rfl)]
theorem prG_const (p : Int) (t : Nat) (ins random : List Int) (T : List (List Int)) (used : Nat) (A B N : Int) : prG p t ins random T used ⟨2, A, B, N⟩ = (List.replicate (2 * t + 1) N, used) := by unfold prG; rw [if_neg (show ¬ (2 : Int) = 1 by decide), if_pos (show (2 : Int) = 2 from rfl)]
theorem prG_add (p : Int) (t : Nat) (ins random : List Int) (T : List (List Int)) (used : Nat) (A B N : Int) : prG p t ins random T used ⟨3, A, B, N⟩ = (eaL p (fun x y => x + y) (T.getD A.toNat []) (T.getD B.toNat []), used) := by unfold prG; rw [if_neg (show ¬ (3 : Int) = 1 by decide), if_neg (show ¬ (3 : Int) = 2 by decide), if_pos (show (3 : Int) = 3 from rfl)]
theorem prG_mul (p : Int) (t : Nat) (ins random : List Int) (T : List (List Int)) (used : Nat) (A B N : Int) : prG p t ins random T used ⟨4, A, B, N⟩ = (mulS p (2 * t + 1) t random (eaL p (fun x y => x * y) (T.getD A.toNat []) (T.getD B.toNat [])) used (2 * t + 1), used + (2 * t + 1) * t) := by unfold prG; rw [if_neg (show ¬ (4 : Int) = 1 by decide), if_neg (show ¬ (4 : Int) = 2 by decide), if_neg (show ¬ (4 : Int) = 3 by decide)]
theorem getD_at'' {α : Type} {l : List α} {i : Nat} {d : α} (h : i < l.length) : l.getD i d = l[i] := by rw [List.getD_eq_getElem?_getD, List.getElem?_eq_getElem h]; rfl
theorem own_lt' {w : World} {base e s n q : Nat} {v : Value} {xs : List Value} (h : w.ownsRow base e s v n xs) (hq : v.ownBlock = some q) : q < w.heap.size := by
  rcases h.2 with ⟨h0, _⟩ | ⟨g, cap, cur, hu, _, hh, _⟩
  · subst h0; cases hq
  · subst hu
    have : g = q := by injection hq
    subst this
    exact (Array.getElem?_eq_some_iff.1 hh).1
end Lw
set_option linter.unusedVariables false
set_option linter.unusedSimpArgs false
namespace Go.Proofs.Ytfocpbknckmmaaa
open Go.RowKit
set_option maxRecDepth 100000 in
set_option maxHeartbeats 8000000 in
theorem parts_Play_ok (p : Int) (t : Nat) (A : Option Addr) (n c : Nat) (gs : List Lw.GateT) (B : Option Addr) (m d : Nat) (ins : List Int) (C : Option Addr) (k f : Nat) (rs : List Int) (w : World) (RA : Lw.Rd w 4 A n (Lw.gatesV gs)) (RB : Lw.Rd w 1 B m (Lw.intsV .i64 ins)) (RC : Lw.Rd w 1 C k (Lw.intsV .i64 rs)) (hk : k ≤ 9223372036854775807) (hkf : k ≤ f) (h : Lw.clrE p gs ins = 0) (h2 : Lw.ParP p t) (h3 : Lw.outR p rs = false) :
    Calls Try.prog 5 #[.int .i64 p, .int .i64 (t : Int), .slice A n c, .slice B m d, .slice C k f] w fun e w' => ∃ wc b l, e = .returned (.tuple #[l, .int .i64 0]) ∧ PlS wc b p t (2 * t + 1) ins rs gs n l w' ∧ Below w.heap.size w w' := by
  have la : gs.length = n := by have := RA.1; rw [Lw.gatesV_length] at this; omega
  have lb : ins.length = m := by have := RB.1; simpa [Lw.intsV] using this
  obtain ⟨q1, q2, q3, q4, q5⟩ := Lw.clr_zero h
  obtain ⟨p1, p2, pp⟩ := Lw.ppr_ok q1
  obtain ⟨t1, t2, t3⟩ := h2
  have PT := Lib.hid (fun w => parts_parties p t w)
  rw [decide_eq_true (show Lw.ParP p t from ⟨t1, t2, t3⟩)] at PT
  have PO := fun W (hb : Below w.heap.size w W) => parts_out p C k f rs W (RC.below (Nat.le_refl _) hb) hk
  rw [h3] at PO
  replace PO := Lib.hid PO
  have X := parts_wrong p A n c gs B m d ins w RA RB
  rw [h] at X
  replace X := Lib.hid X
  have GA := Lw.gsE_all q5
  have IB := Lib.hid (Lw.outR_in' q4)
  have RSB := Lw.outR_in' h3
  have GK := Lib.hid (fun k hk => (GA k hk).2)
  have PR := Lib.hid (fun k (hk : k ≤ gs.length) => Lw.prT_rows (p := p) p1 (t := t) (ins := ins) (random := rs) (gs := gs) (fun k hk => (GA k hk).2) k hk)
  have PN := Lib.hid (fun k (hk : k < gs.length) => Lw.prT_next (p := p) (t := t) (ins := ins) (random := rs) hk)
  have PL := Lib.hid (fun k => Lw.prT_len p t ins rs gs k)
  have SH := Lib.hid (fun b used x W (hW : CrwR b p t ((2 * t + 1 : Nat) : Int) (rs.drop used) W) x0 x1 => share_at p x t (2 * t + 1) b used rs W hW q1 (by omega) (by omega) x0 x1 RSB)
  have MU := Lib.hid (fun b used As Av cs cv xs ys W (hW : CrwR b p t ((2 * t + 1 : Nat) : Int) (rs.drop used) W) R1 R2 h1 h2 => crowd_mul p t (2 * t + 1) b used rs As Av cs cv xs ys W hW R1 R2 q1 (by omega) (by omega) (by omega) RSB h1 h2)
  rw [lb] at GK
  have RA := Lib.hid RA
  have RB := Lib.hid RB
  have RC := Lib.hid RC
  have LA := Lib.hid la
  have LB := Lib.hid lb
  have n60 : n ≤ 60 := by omega
  have m60 : m ≤ 60 := by omega
  have t4 : t ≤ 4 := by omega
  have ew1 : IntKind.i64.wrap (2 * (t : Int)) = 2 * (t : Int) := by rw [IntKind.wrap_i64]; omega
  have ew2 : IntKind.i64.wrap (2 * (t : Int) + 1) = ((2 * t + 1 : Nat) : Int) := by rw [IntKind.wrap_i64]; omega
  clear h h3 q1 q4 q5 pp GA la lb RSB t1 t2
  go_enter Try.func5, Try.ntmps5
  go_wp2_with (first | (go_at_call 15; (with_reducible refine (X.out).mono ?_); rintro e w1 ⟨rfl, hb1⟩) | (go_at_call 16; (with_reducible refine (PT.out _).mono ?_); rintro e w' ⟨rfl, rfl⟩) | (go_at_call 17; (with_reducible refine (PO.out _ hb1).mono ?_); rintro e w2 ⟨rfl, hb2⟩))
  refine Lw.at_world (fun wc hwc => ?_)
  have hB2 : Below w.heap.size w w2 := Lw.bt hb1 hb2
  have hB2s := hB2.size
  have hBwc : Below w.heap.size w wc := by rw [hwc.out]; exact Lw.balloc hB2 _
  have hbc : w2.heap.size < wc.heap.size := by rw [hwc.out]; simp
  have hC0 : CrwR w2.heap.size p t ((2 * t + 1 : Nat) : Int) rs wc := by
    have e : ((2 * t + 1 : Nat) : Int) = 2 * (t : Int) + 1 := by omega
    rw [e]
    refine ⟨C, k, f, by rw [hwc.out]; exact Lw.blk_new _ _ _, RC.out.below (Nat.le_refl _) hBwc, hkf, fun ad e0 h0 => ?_⟩
    obtain ⟨ad', e1, h1, _⟩ := RC.out.2 h0
    rw [e0] at e1
    injection e1 with e1
    subst e1
    omega
  have hC0 := Lib.hid hC0
  clear hwc RC hkf hk X PT PO hb1 hb2
  obtain ⟨b, hb⟩ : ∃ b, w2.heap.size = b := ⟨_, rfl⟩
  rw [hb] at hC0 hbc hB2s ⊢
  clear hB2
  go_loopw [14, 16, 43] (fun l _ i wr => ∃ k : Nat, i = .int .i64 (k : Int) ∧ k ≤ n ∧ PlS wc b p t (2 * t + 1) ins rs gs k l wr) (fun _ _ i _ => n - (intOf i).toNat)
  case atStart => exact ⟨0, rfl, by omega, [], rfl, World.ownsRow_nil _ _ _ _, fun j h => absurd h (Nat.not_lt_zero _), hC0.out, Lw.Tn.refl _ _⟩
  case round =>
    obtain ⟨k, rfl, hk, hP⟩ := hrel
    by_cases hlt : k < n
    · obtain ⟨T, tl, own, rows, hC, hT⟩ := hP
      have hB : Below w.heap.size w wr := Below.trans hBwc (hT.below hB2s hBwc.size)
      have hszr := hT.size
      have hkl : k < gs.length := by rw [LA.out]; exact hlt
      have hlt' : (k : Int) < (n : Int) := by omega
      obtain ⟨g0, g1, g2, g3⟩ := Lw.gatesV_get hkl
      obtain ⟨ad, rfl, had, c0, c1, c2, c3⟩ := (RA.out.below (Nat.le_refl _) hB).at4 hlt g0 g1 g2 g3
      have NX := PN.out k hkl
      have GO := GK.out k hkl
      have PRk := PR.out k (by omega)
      have PLk := PL.out k
      obtain ⟨⟨K, a, bb, N⟩, hg⟩ : ∃ z, gs[k] = z := ⟨_, rfl⟩
      rw [hg] at c0 c1 c2 c3 NX GO
      simp only at c0 c1 c2 c3
      clear g0 g1 g2 g3 hg hkl had
      rcases Lw.gate_ok GO with ⟨e, h1, h2⟩ | ⟨e, h1, h2⟩ | ⟨e, ⟨h1, h2⟩, h3, h4⟩ | ⟨e, ⟨h1, h2⟩, h3, h4⟩
      · subst e
        rw [Lw.prG_in] at NX
        obtain ⟨s, rfl⟩ := Int.eq_ofNat_of_zero_le h1
        have sl : s < ins.length := by have := LB.out; omega
        have hBa := Lw.balloc hB (.cells #[.int .i64 1, .int .i64 (s : Int), .int .i64 bb, .int .i64 N] 46)
        obtain ⟨bd, rfl, hbd, bc⟩ := (RB.out.below (Nat.le_refl _) hBa).at1 (by omega : s < m) (Lw.intsV_get sl)
        rw [Int.toNat_natCast, Lw.getD_at' sl] at NX
        obtain ⟨x0, x1⟩ := IB.out _ (List.getElem_mem sl)
        obtain ⟨x, hx⟩ : ∃ z, ins[s] = z := ⟨_, rfl⟩
        rw [hx] at NX bc x0 x1
        have SK := Lib.hid (SH.out b (Lw.prT p t ins rs gs k).2 x _ (hC.below (Lw.balloc (Below.refl _ _) (.cells #[.int .i64 1, .int .i64 (s : Int), .int .i64 bb, .int .i64 N] 46))) x0 x1)
        have sm : (s : Int) < (m : Int) := by omega
        have NX := Lib.hid NX
        have OWN := Lib.hid own
        have ROWS := Lib.hid rows
        have HC := Lib.hid hC
        clear own rows hC hx sl hbd PRk
        have hTa : Lw.Tn b wr (wr.alloc (.cells #[.int .i64 1, .int .i64 (s : Int), .int .i64 bb, .int .i64 N] 46)) := Lw.Tn.of (Lw.balloc (Below.refl _ _) _)
        have hwr : w.heap.size ≤ wr.heap.size := hB.size
        have hnl : u14.ownBlock ≠ some b := fun e => by have := (OWN.out.lt _ e).1; omega
        go_wp2_with (first | (go_at_call 18; (with_reducible refine (SK.out).mono ?_); rintro e w3 ⟨C3, g3, rfl, own3, hC3, hT3⟩; have hT4 := hTa.trans hT3; have O3 := Lib.hid (Lw.own_tn OWN.out hT4 hnl); have hB3 : Below w.heap.size w w3 := Below.trans hB (hT4.below hB2s hwr); have z3 := hT4.size; have R3 := Lib.hid (Lw.ownsBase own3 (base' := wc.heap.size) (by simp; omega)); have HC3 := Lib.hid hC3; clear own3 hC3) | (at_builtin; go_loud (refine Lw.wpList_app elRow rfl _ _ rfl rfl (O3.out.alloc _) rfl (by first | exact Lw.Rd.nil _ _ _ | exact Lw.Rd.lit (Lw.blk_new' (by simp) _ _) rfl rfl | exact Lw.Rd.lit (Lw.blk_alloc (Lw.blk_new' (by simp) _ _) _) rfl rfl) (Lw.row_one _ _ _) (by omega) (Lw.balloc hB3 _) hBwc.size (by simp; omega) ?_); intro v4 w4 own4 hb4 hg4 _))
        have FIN := Lib.hid (pl_next hbc tl OWN.out ROWS.out hT hT4 R3.out HC3.out NX.out PLk own4 hg4)
        clear own4 hg4
        go_wp2
        go_roundw
        case rel => exact ⟨k + 1, by go_num, by omega, FIN.out⟩
        case measure => simp [intOf]; omega
      · subst e
        rw [Lw.prG_const] at NX
        obtain ⟨mm, hmm⟩ : ∃ z, 2 * t + 1 = z := ⟨_, rfl⟩
        have c2' := hC.c2
        have hltb := hC.lt
        rw [hmm] at c2' NX
        have hwr : w.heap.size ≤ wr.heap.size := hB.size
        have hnl : u14.ownBlock ≠ some b := fun e => by have := (own.lt _ e).1; omega
        have NX := Lib.hid NX
        have OWN := Lib.hid own
        have ROWS := Lib.hid rows
        have HC := Lib.hid hC
        have m1 : 1 ≤ mm := by omega
        have m9 : mm ≤ 9 := by omega
        clear own rows hC PRk
        go_wp2_with fail
        refine Lw.at_world (fun W4 hW4 => ?_)
        have hB4 : Below wr.heap.size wr W4 := by rw [hW4.out]; exact Lw.balloc (Below.refl _ _) _
        have GB : W4.heap[wr.heap.size]? = some (.cells #[.int .i64 2, .int .i64 a, .int .i64 bb, .int .i64 N] 46 (0, 0)) := by rw [hW4.out]; exact Lw.blk_new _ _ _
        have s3 := Lw.blk_cell GB 3
        simp at s3
        have s2 := (hB4.cell (p := ⟨b, 2, none⟩) hltb).trans c2'
        have hl4 : wr.heap.size < W4.heap.size := Lw.blk_lt GB
        have hlb4 : b < W4.heap.size := by omega
        have SS := Lib.hid (fun w' (h : Below W4.heap.size W4 w') => show w'.cell? ⟨wr.heap.size, 3, none⟩ = some (.int .i64 N) ∧ w'.cell? ⟨b, 2, none⟩ = some (.int .i64 (mm : Int)) ∧ True ∧ True from ⟨(h.cell (p := ⟨wr.heap.size, 3, none⟩) hl4).trans s3, (h.cell (p := ⟨b, 2, none⟩) hlb4).trans s2, trivial, trivial⟩)
        refine wp_region_held_drew (S := fun w' => w'.cell? ⟨wr.heap.size, 3, none⟩ = some (.int .i64 N) ∧ w'.cell? ⟨b, 2, none⟩ = some (.int .i64 (mm : Int)) ∧ True ∧ True) (by kernel_rfl) (by exact ⟨s3, s2, trivial, trivial⟩) (fun hHeld => ?_)
        (refine Lw.take1 (i := 0) (v := ?_) rfl (by kernel_rfl) (by kernel_rfl) (by kernel_rfl) (fun _ _ _ h => h) (Or.inl ⟨by rfl, ?_⟩) (by assumption) ?_; rotate_left 1; (focus (intro wS hSw; obtain ⟨hS1, hS2, hS3, hS4⟩ := hSw; go_simp <;> with_reducible rfl)); (try simp only [Act.put, List.setIfInBounds_toArray, List.set_cons_zero, List.set_cons_succ]))
        (refine Lw.take1 (i := 1) (v := ?_) rfl (by kernel_rfl) (by kernel_rfl) (by kernel_rfl) (fun _ _ _ h => h) (Or.inl ⟨by rfl, ?_⟩) (by assumption) ?_; rotate_left 1; (focus (intro wS hSw; obtain ⟨hS1, hS2, hS3, hS4⟩ := hSw; go_simp <;> with_reducible rfl)); (try simp only [Act.put, List.setIfInBounds_toArray, List.set_cons_zero, List.set_cons_succ]))
        (refine Lw.take1 (i := 2) (v := ?_) rfl (by kernel_rfl) (by kernel_rfl) (by kernel_rfl) (fun _ _ _ h => h) (Or.inl ⟨by rfl, ?_⟩) (by assumption) ?_; rotate_left 1; (focus (intro wS hSw; obtain ⟨hS1, hS2, hS3, hS4⟩ := hSw; go_simp <;> with_reducible rfl)); (try simp only [Act.put, List.setIfInBounds_toArray, List.set_cons_zero, List.set_cons_succ]))
        (refine Lw.take1 (i := 4) (v := ?_) rfl (by kernel_rfl) (by kernel_rfl) (by kernel_rfl) (fun _ _ _ h => h) (Or.inl ⟨by rfl, ?_⟩) (by assumption) ?_; rotate_left 1; (focus (intro wS hSw; obtain ⟨hS1, hS2, hS3, hS4⟩ := hSw; go_simp <;> with_reducible rfl)); (try simp only [Act.put, List.setIfInBounds_toArray, List.set_cons_zero, List.set_cons_succ]))
        (refine Lw.take1 (i := 5) (v := ?_) rfl (by kernel_rfl) (by kernel_rfl) (by kernel_rfl) (fun _ _ _ h => h) (Or.inl ⟨by rfl, ?_⟩) (by assumption) ?_; rotate_left 1; (focus (intro wS hSw; obtain ⟨hS1, hS2, hS3, hS4⟩ := hSw; go_simp <;> with_reducible rfl)); (try simp only [Act.put, List.setIfInBounds_toArray, List.set_cons_zero, List.set_cons_succ]))
        (refine Lw.take1 (i := 6) (v := ?_) rfl (by kernel_rfl) (by kernel_rfl) (by kernel_rfl) (fun _ _ _ h => h) (Or.inl ⟨by rfl, ?_⟩) (by assumption) ?_; rotate_left 1; (focus (intro wS hSw; obtain ⟨hS1, hS2, hS3, hS4⟩ := hSw; go_simp <;> with_reducible rfl)); (try simp only [Act.put, List.setIfInBounds_toArray, List.set_cons_zero, List.set_cons_succ]))
        (refine Lw.take1 (i := 7) (v := ?_) rfl (by kernel_rfl) (by kernel_rfl) (by kernel_rfl) (fun _ _ _ h => h) (Or.inl ⟨by rfl, ?_⟩) (by assumption) ?_; rotate_left 1; (focus (intro wS hSw; obtain ⟨hS1, hS2, hS3, hS4⟩ := hSw; go_simp <;> with_reducible rfl)); (try simp only [Act.put, List.setIfInBounds_toArray, List.set_cons_zero, List.set_cons_succ]))
        have hb5 : Below W4.heap.size W4 (W4.alloc (.cells #[.int .i64 N] 2)).drew := Below.drew (Lw.balloc (Below.refl _ _) _)
        have RN : Lw.Rd (W4.alloc (.cells #[.int .i64 N] 2)).drew 1 (some ⟨W4.heap.size, 0, none⟩) 1 (Lw.intsV .i64 [N]) := Lw.Rd.drew (Lw.Rd.lit (Lw.blk_new W4 #[.int .i64 N] 2) rfl rfl)
        (refine wpAnyH_ready (rs := [3]) (by kernel_rfl) (by simp) ?_; refine Lw.cons1 (i := 3) rfl (fun K hK => ?_) AllReadyH.nil; go_simp; refine hK.out _ _ ?_ (fun hHeld => ?_); (focus exact SS.out _ hb5); clear hK K; (try simp only [Act.put, List.setIfInBounds_toArray, List.set_cons_zero, List.set_cons_succ]))
        (refine wpAnyH_ready (rs := [8]) (by kernel_rfl) (by simp) ?_; refine Lw.cons1 (i := 8) rfl (fun K hK => ?_) AllReadyH.nil; go_simp; go_at_call 19; (with_reducible refine (rep_one N mm _ 1 _ RN m1 m9).mono ?_); rintro e w6 ⟨C6, g6, rfl, own6, hb6⟩; refine hK.out _ _ ?_ (fun hHeld => ?_); (focus exact SS.out _ (Lw.bt hb5 hb6)); clear hK K; (try simp only [Act.put, List.setIfInBounds_toArray, List.set_cons_zero, List.set_cons_succ]))
        have hb46 := Lw.bt hb5 hb6
        have hT6 : Lw.Tn b wr w6 := Lw.Tn.of (Lw.bt hB4 hb46)
        have O6 := Lib.hid (Lw.own_tn OWN.out hT6 hnl)
        have hB6 : Below w.heap.size w w6 := Below.trans hB (hT6.below hB2s hwr)
        have z6 := hT6.size
        have R6 := Lib.hid (Lw.ownsBase own6 (base' := wc.heap.size) (by simp; omega))
        clear own6
        (refine wpAnyH_ready (rs := [9]) (by kernel_rfl) (by simp) ?_; refine Lw.cons1 (i := 9) rfl (fun K hK => ?_) AllReadyH.nil; go_simp; refine hK.out _ _ ?_ (fun hHeld => ?_); (focus exact SS.out _ (Lw.balloc hb46 _)); clear hK K; (try simp only [Act.put, List.setIfInBounds_toArray, List.set_cons_zero, List.set_cons_succ]))
        have c6 := SS.out _ (Lw.balloc hb46 (.cells #[.slice C6 mm g6] 23))
        have hlo := O6.out.alloc (.cells #[.slice C6 mm g6] 23)
        have RL : Lw.Rd (w6.alloc (.cells #[.slice C6 mm g6] 23)) 1 (some ⟨w6.heap.size, 0, none⟩) 1 [.slice C6 mm g6] := Lw.Rd.lit (Lw.blk_new w6 _ _) rfl rfl
        have hng : u14.ownBlock ≠ some wr.heap.size := fun e => by have := Lw.own_lt' OWN.out e; omega
        (refine wpAnyH_ready (rs := [10]) (by kernel_rfl) (by simp) ?_; refine Lw.cons1 (i := 10) rfl (fun K hK => ?_) AllReadyH.nil; refine Lw.step_app elRow rfl _ _ rfl rfl (O6.out.alloc _) rfl RL (Lw.row_one _ _ _) (by omega) (Lw.balloc hB6 _) hBwc.size (by simp; omega) ?_; intro v7 w7 own7 hb7 hg7 _; refine hK.out _ _ ?_ (fun hHeld => ?_); (focus exact ⟨(Lw.cell_of_blk ⟨wr.heap.size, 3, none⟩ (hg7.block wr.heap.size (by simp; omega) (fun e => hng e.symm))).trans c6.1, (Lw.cell_of_blk ⟨b, 2, none⟩ (hg7.block b (by simp; omega) (fun e => hnl e.symm))).trans c6.2.1, trivial, trivial⟩); clear hK K; (try simp only [Act.put, List.setIfInBounds_toArray, List.set_cons_zero, List.set_cons_succ]))
        have FIN : Hid (PlS wc b p t (2 * t + 1) ins rs gs (k + 1) v7 w7) := by subst hmm; exact pl_next hbc tl OWN.out ROWS.out hT hT6 R6.out (HC.out.below (Lw.bt hB4 hb46)) NX.out PLk own7 hg7
        clear own7 hg7 c6 hlo
        (refine Lw.take1 (i := 11) (v := ?_) rfl (by kernel_rfl) (by kernel_rfl) (by kernel_rfl) (fun _ _ _ h => h) (Or.inl ⟨by rfl, ?_⟩) (by assumption) ?_; rotate_left 1; (focus (intro wS hSw; obtain ⟨hS1, hS2, hS3, hS4⟩ := hSw; go_simp <;> with_reducible rfl)); (try simp only [Act.put, List.setIfInBounds_toArray, List.set_cons_zero, List.set_cons_succ]))
        refine wpAnyH_done (by kernel_rfl) ?_ _
        go_wp2
        go_roundw
        case rel => exact ⟨k + 1, by go_num, by omega, FIN.out⟩
        case measure => simp [intOf]; omega
      · subst e
        rw [Lw.prG_add] at NX
        obtain ⟨s, rfl⟩ := Int.eq_ofNat_of_zero_le h1
        obtain ⟨v, rfl⟩ := Int.eq_ofNat_of_zero_le h3
        have sl : s < T.length := by omega
        have vl : v < T.length := by omega
        obtain ⟨CL, gL, rfl, hg, _, _⟩ := Lw.ownsForm own
        obtain ⟨g0, rfl⟩ : ∃ g0, CL = some ⟨g0, 0, none⟩ := by
          rcases own.2 with ⟨h0, h0'⟩ | ⟨g0, cap, cur, hv, _⟩
          · omega
          · injection hv with e1; exact ⟨g0, e1⟩
        have hg0 : wc.heap.size ≤ g0 := (own.lt g0 rfl).1
        have hg1 : g0 < wr.heap.size := Lw.own_lt' own rfl
        have gs' : (T.map (Lw.rowV (2 * t + 1)))[s]? = some (Lw.rowV (2 * t + 1) T[s]) := by rw [List.getElem?_map, List.getElem?_eq_getElem sl]; rfl
        have gv' : (T.map (Lw.rowV (2 * t + 1)))[v]? = some (Lw.rowV (2 * t + 1) T[v]) := by rw [List.getElem?_map, List.getElem?_eq_getElem vl]; rfl
        obtain ⟨c4, _, _, _⟩ := Lw.own_cell (i := s) own gs'
        obtain ⟨c5, _, _, _⟩ := Lw.own_cell (i := v) own gv'
        have rs1 := rows s sl
        have rv1 := rows v vl
        rw [Int.toNat_natCast, Int.toNat_natCast] at NX
        have RS1 := PRk ((Lw.prT p t ins rs gs k).1.getD s []) (by rw [Lw.getD_at'' (by omega)]; exact List.getElem_mem _)
        have RV1 := PRk ((Lw.prT p t ins rs gs k).1.getD v []) (by rw [Lw.getD_at'' (by omega)]; exact List.getElem_mem _)
        obtain ⟨xs, hxs⟩ : ∃ z, (Lw.prT p t ins rs gs k).1.getD s [] = z := ⟨_, rfl⟩
        obtain ⟨ys, hys⟩ : ∃ z, (Lw.prT p t ins rs gs k).1.getD v [] = z := ⟨_, rfl⟩
        obtain ⟨⟨As, cs⟩, hTs⟩ : ∃ z, T[s] = z := ⟨_, rfl⟩
        obtain ⟨⟨Av, cv⟩, hTv⟩ : ∃ z, T[v] = z := ⟨_, rfl⟩
        simp only [hxs, hys, hTs, hTv, Lw.rowV] at c4 c5 rs1 rv1 RS1 RV1 NX
        have hltb := hC.lt
        have hwr : w.heap.size ≤ wr.heap.size := hB.size
        have hnl : (Value.slice (some ⟨g0, 0, none⟩) k gL).ownBlock ≠ some b := fun e => by have := (own.lt _ e).1; omega
        have NX := Lib.hid NX
        have OWN := Lib.hid own
        have ROWS := Lib.hid rows
        have HC := Lib.hid hC
        have RSX := Lib.hid (Lw.Rd.of_own rs1)
        have RVX := Lib.hid (Lw.Rd.of_own rv1)
        have sk : (s : Int) < (k : Int) := by omega
        have vk : (v : Int) < (k : Int) := by omega
        clear own rows hC PRk rs1 rv1 gs' gv' hxs hys hTs hTv sl vl
        go_wp2_with fail
        refine Lw.at_world (fun W4 hW4 => ?_)
        have hB4 : Below wr.heap.size wr W4 := by rw [hW4.out]; exact Lw.balloc (Below.refl _ _) _
        have GB : W4.heap[wr.heap.size]? = some (.cells #[.int .i64 3, .int .i64 (s : Int), .int .i64 (v : Int), .int .i64 N] 46 (0, 0)) := by rw [hW4.out]; exact Lw.blk_new _ _ _
        have s1 := Lw.blk_cell GB 1
        have s2 := Lw.blk_cell GB 2
        simp at s1 s2
        have s4 := (hB4.cell (p := ⟨g0, s, none⟩) hg1).trans c4
        have s5 := (hB4.cell (p := ⟨g0, v, none⟩) hg1).trans c5
        have hl4 : wr.heap.size < W4.heap.size := Lw.blk_lt GB
        have dr4 : Below wr.heap.size wr W4.drew := Below.drew hB4
        have SS := Lib.hid (fun w' (h : Below W4.heap.size W4 w') => show w'.cell? ⟨wr.heap.size, 1, none⟩ = some (.int .i64 (s : Int)) ∧ w'.cell? ⟨wr.heap.size, 2, none⟩ = some (.int .i64 (v : Int)) ∧ True ∧ True from ⟨(h.cell (p := ⟨wr.heap.size, 1, none⟩) hl4).trans s1, (h.cell (p := ⟨wr.heap.size, 2, none⟩) hl4).trans s2, trivial, trivial⟩)
        have EA := Lib.hid (each_add p As Av (2 * t + 1) cs (2 * t + 1) cv xs ys _ (RSX.out.below (Nat.le_refl _) dr4) (RVX.out.below (Nat.le_refl _) dr4) p1 p2 RS1.2 RV1.2 (by omega) (Nat.le_refl _))
        have s4' : W4.drew.cell? ⟨g0, s, none⟩ = some (.slice As (2 * t + 1) cs) := s4
        have s5' : W4.drew.cell? ⟨g0, v, none⟩ = some (.slice Av (2 * t + 1) cv) := s5
        have s1' : W4.drew.cell? ⟨wr.heap.size, 1, none⟩ = some (.int .i64 (s : Int)) := s1
        refine wp_region_held_drew (S := fun w' => w'.cell? ⟨wr.heap.size, 1, none⟩ = some (.int .i64 (s : Int)) ∧ w'.cell? ⟨wr.heap.size, 2, none⟩ = some (.int .i64 (v : Int)) ∧ True ∧ True) (by kernel_rfl) (by exact ⟨s1, s2, trivial, trivial⟩) (fun hHeld => ?_)
        (refine Lw.take1 (i := 0) (v := ?_) rfl (by kernel_rfl) (by kernel_rfl) (by kernel_rfl) (fun _ _ _ h => h) (Or.inl ⟨by rfl, ?_⟩) (by assumption) ?_; rotate_left 1; (focus (intro wS hSw; obtain ⟨hS1, hS2, hS3, hS4⟩ := hSw; go_simp <;> with_reducible rfl)); (try simp only [Act.put, List.setIfInBounds_toArray, List.set_cons_zero, List.set_cons_succ]))
        (refine Lw.take1 (i := 1) (v := ?_) rfl (by kernel_rfl) (by kernel_rfl) (by kernel_rfl) (fun _ _ _ h => h) (Or.inl ⟨by rfl, ?_⟩) (by assumption) ?_; rotate_left 1; (focus (intro wS hSw; obtain ⟨hS1, hS2, hS3, hS4⟩ := hSw; go_simp <;> with_reducible rfl)); (try simp only [Act.put, List.setIfInBounds_toArray, List.set_cons_zero, List.set_cons_succ]))
        (refine Lw.take1 (i := 2) (v := ?_) rfl (by kernel_rfl) (by kernel_rfl) (by kernel_rfl) (fun _ _ _ h => h) (Or.inl ⟨by rfl, ?_⟩) (by assumption) ?_; rotate_left 1; (focus (intro wS hSw; obtain ⟨hS1, hS2, hS3, hS4⟩ := hSw; go_simp <;> with_reducible rfl)); (try simp only [Act.put, List.setIfInBounds_toArray, List.set_cons_zero, List.set_cons_succ]))
        (refine Lw.take1 (i := 3) (v := ?_) rfl (by kernel_rfl) (by kernel_rfl) (by kernel_rfl) (fun _ _ _ h => h) (Or.inl ⟨by rfl, ?_⟩) (by assumption) ?_; rotate_left 1; (focus (intro wS hSw; obtain ⟨hS1, hS2, hS3, hS4⟩ := hSw; go_simp <;> with_reducible rfl)); (try simp only [Act.put, List.setIfInBounds_toArray, List.set_cons_zero, List.set_cons_succ]))
        (refine Lw.take1 (i := 4) (v := ?_) rfl (by kernel_rfl) (by kernel_rfl) (by kernel_rfl) (fun _ _ _ h => h) (Or.inl ⟨by rfl, ?_⟩) (by assumption) ?_; rotate_left 1; (focus (intro wS hSw; obtain ⟨hS1, hS2, hS3, hS4⟩ := hSw; go_simp <;> with_reducible rfl)); (try simp only [Act.put, List.setIfInBounds_toArray, List.set_cons_zero, List.set_cons_succ]))
        (refine Lw.take1 (i := 6) (v := ?_) rfl (by kernel_rfl) (by kernel_rfl) (by kernel_rfl) (fun _ _ _ h => h) (Or.inl ⟨by rfl, ?_⟩) (by assumption) ?_; rotate_left 1; (focus (intro wS hSw; obtain ⟨hS1, hS2, hS3, hS4⟩ := hSw; go_simp <;> with_reducible rfl)); (try simp only [Act.put, List.setIfInBounds_toArray, List.set_cons_zero, List.set_cons_succ]))
        (refine Lw.take1 (i := 7) (v := ?_) rfl (by kernel_rfl) (by kernel_rfl) (by kernel_rfl) (fun _ _ _ h => h) (Or.inl ⟨by rfl, ?_⟩) (by assumption) ?_; rotate_left 1; (focus (intro wS hSw; obtain ⟨hS1, hS2, hS3, hS4⟩ := hSw; go_simp <;> with_reducible rfl)); (try simp only [Act.put, List.setIfInBounds_toArray, List.set_cons_zero, List.set_cons_succ]))
        (refine Lw.take1 (i := 8) (v := ?_) rfl (by kernel_rfl) (by kernel_rfl) (by kernel_rfl) (fun _ _ _ h => h) (Or.inl ⟨by rfl, ?_⟩) (by assumption) ?_; rotate_left 1; (focus (intro wS hSw; obtain ⟨hS1, hS2, hS3, hS4⟩ := hSw; go_simp <;> with_reducible rfl)); (try simp only [Act.put, List.setIfInBounds_toArray, List.set_cons_zero, List.set_cons_succ]))
        (refine Lw.take1 (i := 9) (v := ?_) rfl (by kernel_rfl) (by kernel_rfl) (by kernel_rfl) (fun _ _ _ h => h) (Or.inl ⟨by rfl, ?_⟩) (by assumption) ?_; rotate_left 1; (focus (intro wS hSw; obtain ⟨hS1, hS2, hS3, hS4⟩ := hSw; go_simp <;> with_reducible rfl)); (try simp only [Act.put, List.setIfInBounds_toArray, List.set_cons_zero, List.set_cons_succ]))
        (refine Lw.take1 (i := 11) (v := ?_) rfl (by kernel_rfl) (by kernel_rfl) (by kernel_rfl) (fun _ _ _ h => h) (Or.inl ⟨by rfl, ?_⟩) (by assumption) ?_; rotate_left 1; (focus (intro wS hSw; obtain ⟨hS1, hS2, hS3, hS4⟩ := hSw; go_simp <;> with_reducible rfl)); (try simp only [Act.put, List.setIfInBounds_toArray, List.set_cons_zero, List.set_cons_succ]))
        refine wpAnyH_ready (rs := [5, 10]) (by kernel_rfl) (by simp) ?_
        refine Lw.cons1 (i := 5) rfl (fun K hK => ?_) (Lw.cons1 (i := 10) rfl (fun K hK => ?_) AllReadyH.nil)
        · go_simp; refine hK.out _ _ (by exact ⟨s1, s2, trivial, trivial⟩) (fun hHeld => ?_); clear hK K; (try simp only [Act.put, List.setIfInBounds_toArray, List.set_cons_zero, List.set_cons_succ])
          (refine wpAnyH_ready (rs := [10]) (by kernel_rfl) (by simp) ?_; refine Lw.cons1 (i := 10) rfl (fun K hK => ?_) AllReadyH.nil; go_simp; refine hK.out _ _ ?_ (fun hHeld => ?_); (focus exact ⟨s1, s2, trivial, trivial⟩); clear hK K; (try simp only [Act.put, List.setIfInBounds_toArray, List.set_cons_zero, List.set_cons_succ]))
          (refine wpAnyH_ready (rs := [12]) (by kernel_rfl) (by simp) ?_; refine Lw.cons1 (i := 12) rfl (fun K hK => ?_) AllReadyH.nil; go_simp; go_at_call 20; (with_reducible refine (EA.out).mono ?_); rintro e w6 ⟨C6, g6, rfl, own6, hb6⟩; refine hK.out _ _ ?_ (fun hHeld => ?_); (focus exact SS.out _ (Lw.bt (Below.drew (Below.refl _ _)) hb6)); clear hK K; (try simp only [Act.put, List.setIfInBounds_toArray, List.set_cons_zero, List.set_cons_succ]))
          have hb46 : Below W4.heap.size W4 w6 := Lw.bt (Below.drew (Below.refl _ _)) hb6
          have hT6 : Lw.Tn b wr w6 := Lw.Tn.of (Lw.bt hB4 hb46)
          have O6 := Lib.hid (Lw.own_tn OWN.out hT6 hnl)
          have hB6 : Below w.heap.size w w6 := Below.trans hB (hT6.below hB2s hwr)
          have z6 := hT6.size
          have R6 := Lib.hid (Lw.ownsBase own6 (base' := wc.heap.size) (show wc.heap.size ≤ W4.heap.size by omega))
          clear own6
          (refine wpAnyH_ready (rs := [13]) (by kernel_rfl) (by simp) ?_; refine Lw.cons1 (i := 13) rfl (fun K hK => ?_) AllReadyH.nil; go_simp; refine hK.out _ _ ?_ (fun hHeld => ?_); (focus exact SS.out _ (Lw.balloc hb46 _)); clear hK K; (try simp only [Act.put, List.setIfInBounds_toArray, List.set_cons_zero, List.set_cons_succ]))
          have c6 := SS.out _ (Lw.balloc hb46 (.cells #[.slice C6 (2 * t + 1) g6] 23))
          have RL : Lw.Rd (w6.alloc (.cells #[.slice C6 (2 * t + 1) g6] 23)) 1 (some ⟨w6.heap.size, 0, none⟩) 1 [.slice C6 (2 * t + 1) g6] := Lw.Rd.lit (Lw.blk_new w6 _ _) rfl rfl
          have hng : (Value.slice (some ⟨g0, 0, none⟩) k gL).ownBlock ≠ some wr.heap.size := fun e => by have := Lw.own_lt' OWN.out e; omega
          (refine wpAnyH_ready (rs := [14]) (by kernel_rfl) (by simp) ?_; refine Lw.cons1 (i := 14) rfl (fun K hK => ?_) AllReadyH.nil; refine Lw.step_app elRow rfl _ _ rfl rfl (O6.out.alloc _) rfl RL (Lw.row_one _ _ _) (by omega) (Lw.balloc hB6 _) hBwc.size (by simp; omega) ?_; intro v7 w7 own7 hb7 hg7 _; refine hK.out _ _ ?_ (fun hHeld => ?_); (focus exact ⟨(Lw.cell_of_blk ⟨wr.heap.size, 1, none⟩ (hg7.block wr.heap.size (by simp; omega) (fun e => hng e.symm))).trans c6.1, (Lw.cell_of_blk ⟨wr.heap.size, 2, none⟩ (hg7.block wr.heap.size (by simp; omega) (fun e => hng e.symm))).trans c6.2.1, trivial, trivial⟩); clear hK K; (try simp only [Act.put, List.setIfInBounds_toArray, List.set_cons_zero, List.set_cons_succ]))
          have FIN : Hid (PlS wc b p t (2 * t + 1) ins rs gs (k + 1) v7 w7) := pl_next hbc tl OWN.out ROWS.out hT hT6 R6.out (HC.out.below (Lw.bt hB4 hb46)) NX.out PLk own7 hg7
          clear own7 hg7 c6
          (refine Lw.take1 (i := 15) (v := ?_) rfl (by kernel_rfl) (by kernel_rfl) (by kernel_rfl) (fun _ _ _ h => h) (Or.inl ⟨by rfl, ?_⟩) (by assumption) ?_; rotate_left 1; (focus (intro wS hSw; obtain ⟨hS1, hS2, hS3, hS4⟩ := hSw; go_simp <;> with_reducible rfl)); (try simp only [Act.put, List.setIfInBounds_toArray, List.set_cons_zero, List.set_cons_succ]))
          refine wpAnyH_done (by kernel_rfl) ?_ _
          go_wp2
          go_roundw
          case rel => exact ⟨k + 1, by go_num, by omega, FIN.out⟩
          case measure => simp [intOf]; omega

        · go_simp; refine hK.out _ _ (by exact ⟨s1, s2, trivial, trivial⟩) (fun hHeld => ?_); clear hK K; (try simp only [Act.put, List.setIfInBounds_toArray, List.set_cons_zero, List.set_cons_succ])
          (refine wpAnyH_ready (rs := [5]) (by kernel_rfl) (by simp) ?_; refine Lw.cons1 (i := 5) rfl (fun K hK => ?_) AllReadyH.nil; go_simp; refine hK.out _ _ ?_ (fun hHeld => ?_); (focus exact ⟨s1, s2, trivial, trivial⟩); clear hK K; (try simp only [Act.put, List.setIfInBounds_toArray, List.set_cons_zero, List.set_cons_succ]))
          (refine wpAnyH_ready (rs := [12]) (by kernel_rfl) (by simp) ?_; refine Lw.cons1 (i := 12) rfl (fun K hK => ?_) AllReadyH.nil; go_simp; go_at_call 20; (with_reducible refine (EA.out).mono ?_); rintro e w6 ⟨C6, g6, rfl, own6, hb6⟩; refine hK.out _ _ ?_ (fun hHeld => ?_); (focus exact SS.out _ (Lw.bt (Below.drew (Below.refl _ _)) hb6)); clear hK K; (try simp only [Act.put, List.setIfInBounds_toArray, List.set_cons_zero, List.set_cons_succ]))
          have hb46 : Below W4.heap.size W4 w6 := Lw.bt (Below.drew (Below.refl _ _)) hb6
          have hT6 : Lw.Tn b wr w6 := Lw.Tn.of (Lw.bt hB4 hb46)
          have O6 := Lib.hid (Lw.own_tn OWN.out hT6 hnl)
          have hB6 : Below w.heap.size w w6 := Below.trans hB (hT6.below hB2s hwr)
          have z6 := hT6.size
          have R6 := Lib.hid (Lw.ownsBase own6 (base' := wc.heap.size) (show wc.heap.size ≤ W4.heap.size by omega))
          clear own6
          (refine wpAnyH_ready (rs := [13]) (by kernel_rfl) (by simp) ?_; refine Lw.cons1 (i := 13) rfl (fun K hK => ?_) AllReadyH.nil; go_simp; refine hK.out _ _ ?_ (fun hHeld => ?_); (focus exact SS.out _ (Lw.balloc hb46 _)); clear hK K; (try simp only [Act.put, List.setIfInBounds_toArray, List.set_cons_zero, List.set_cons_succ]))
          have c6 := SS.out _ (Lw.balloc hb46 (.cells #[.slice C6 (2 * t + 1) g6] 23))
          have RL : Lw.Rd (w6.alloc (.cells #[.slice C6 (2 * t + 1) g6] 23)) 1 (some ⟨w6.heap.size, 0, none⟩) 1 [.slice C6 (2 * t + 1) g6] := Lw.Rd.lit (Lw.blk_new w6 _ _) rfl rfl
          have hng : (Value.slice (some ⟨g0, 0, none⟩) k gL).ownBlock ≠ some wr.heap.size := fun e => by have := Lw.own_lt' OWN.out e; omega
          (refine wpAnyH_ready (rs := [14]) (by kernel_rfl) (by simp) ?_; refine Lw.cons1 (i := 14) rfl (fun K hK => ?_) AllReadyH.nil; refine Lw.step_app elRow rfl _ _ rfl rfl (O6.out.alloc _) rfl RL (Lw.row_one _ _ _) (by omega) (Lw.balloc hB6 _) hBwc.size (by simp; omega) ?_; intro v7 w7 own7 hb7 hg7 _; refine hK.out _ _ ?_ (fun hHeld => ?_); (focus exact ⟨(Lw.cell_of_blk ⟨wr.heap.size, 1, none⟩ (hg7.block wr.heap.size (by simp; omega) (fun e => hng e.symm))).trans c6.1, (Lw.cell_of_blk ⟨wr.heap.size, 2, none⟩ (hg7.block wr.heap.size (by simp; omega) (fun e => hng e.symm))).trans c6.2.1, trivial, trivial⟩); clear hK K; (try simp only [Act.put, List.setIfInBounds_toArray, List.set_cons_zero, List.set_cons_succ]))
          have FIN : Hid (PlS wc b p t (2 * t + 1) ins rs gs (k + 1) v7 w7) := pl_next hbc tl OWN.out ROWS.out hT hT6 R6.out (HC.out.below (Lw.bt hB4 hb46)) NX.out PLk own7 hg7
          clear own7 hg7 c6
          (refine Lw.take1 (i := 15) (v := ?_) rfl (by kernel_rfl) (by kernel_rfl) (by kernel_rfl) (fun _ _ _ h => h) (Or.inl ⟨by rfl, ?_⟩) (by assumption) ?_; rotate_left 1; (focus (intro wS hSw; obtain ⟨hS1, hS2, hS3, hS4⟩ := hSw; go_simp <;> with_reducible rfl)); (try simp only [Act.put, List.setIfInBounds_toArray, List.set_cons_zero, List.set_cons_succ]))
          refine wpAnyH_done (by kernel_rfl) ?_ _
          go_wp2
          go_roundw
          case rel => exact ⟨k + 1, by go_num, by omega, FIN.out⟩
          case measure => simp [intOf]; omega

      · subst e
        rw [Lw.prG_mul] at NX
        obtain ⟨s, rfl⟩ := Int.eq_ofNat_of_zero_le h1
        obtain ⟨v, rfl⟩ := Int.eq_ofNat_of_zero_le h3
        have sl : s < T.length := by omega
        have vl : v < T.length := by omega
        obtain ⟨CL, gL, rfl, hg, _, _⟩ := Lw.ownsForm own
        obtain ⟨g0, rfl⟩ : ∃ g0, CL = some ⟨g0, 0, none⟩ := by
          rcases own.2 with ⟨h0, h0'⟩ | ⟨g0, cap, cur, hv, _⟩
          · omega
          · injection hv with e1; exact ⟨g0, e1⟩
        have hg0 : wc.heap.size ≤ g0 := (own.lt g0 rfl).1
        have hg1 : g0 < wr.heap.size := Lw.own_lt' own rfl
        have gs' : (T.map (Lw.rowV (2 * t + 1)))[s]? = some (Lw.rowV (2 * t + 1) T[s]) := by rw [List.getElem?_map, List.getElem?_eq_getElem sl]; rfl
        have gv' : (T.map (Lw.rowV (2 * t + 1)))[v]? = some (Lw.rowV (2 * t + 1) T[v]) := by rw [List.getElem?_map, List.getElem?_eq_getElem vl]; rfl
        obtain ⟨c4, _, _, _⟩ := Lw.own_cell (i := s) own gs'
        obtain ⟨c5, _, _, _⟩ := Lw.own_cell (i := v) own gv'
        have rs1 := rows s sl
        have rv1 := rows v vl
        rw [Int.toNat_natCast, Int.toNat_natCast] at NX
        have RS1 := PRk ((Lw.prT p t ins rs gs k).1.getD s []) (by rw [Lw.getD_at'' (by omega)]; exact List.getElem_mem _)
        have RV1 := PRk ((Lw.prT p t ins rs gs k).1.getD v []) (by rw [Lw.getD_at'' (by omega)]; exact List.getElem_mem _)
        obtain ⟨xs, hxs⟩ : ∃ z, (Lw.prT p t ins rs gs k).1.getD s [] = z := ⟨_, rfl⟩
        obtain ⟨ys, hys⟩ : ∃ z, (Lw.prT p t ins rs gs k).1.getD v [] = z := ⟨_, rfl⟩
        obtain ⟨⟨As, cs⟩, hTs⟩ : ∃ z, T[s] = z := ⟨_, rfl⟩
        obtain ⟨⟨Av, cv⟩, hTv⟩ : ∃ z, T[v] = z := ⟨_, rfl⟩
        simp only [hxs, hys, hTs, hTv, Lw.rowV] at c4 c5 rs1 rv1 RS1 RV1 NX
        have hltb := hC.lt
        have hwr : w.heap.size ≤ wr.heap.size := hB.size
        have hnl : (Value.slice (some ⟨g0, 0, none⟩) k gL).ownBlock ≠ some b := fun e => by have := (own.lt _ e).1; omega
        have NX := Lib.hid NX
        have OWN := Lib.hid own
        have ROWS := Lib.hid rows
        have HC := Lib.hid hC
        have RSX := Lib.hid (Lw.Rd.of_own rs1)
        have RVX := Lib.hid (Lw.Rd.of_own rv1)
        have sk : (s : Int) < (k : Int) := by omega
        have vk : (v : Int) < (k : Int) := by omega
        clear own rows hC PRk rs1 rv1 gs' gv' hxs hys hTs hTv sl vl
        go_wp2_with fail
        refine Lw.at_world (fun W4 hW4 => ?_)
        have hB4 : Below wr.heap.size wr W4 := by rw [hW4.out]; exact Lw.balloc (Below.refl _ _) _
        have GB : W4.heap[wr.heap.size]? = some (.cells #[.int .i64 4, .int .i64 (s : Int), .int .i64 (v : Int), .int .i64 N] 46 (0, 0)) := by rw [hW4.out]; exact Lw.blk_new _ _ _
        have s1 := Lw.blk_cell GB 1
        have s2 := Lw.blk_cell GB 2
        simp at s1 s2
        have s4 := (hB4.cell (p := ⟨g0, s, none⟩) hg1).trans c4
        have s5 := (hB4.cell (p := ⟨g0, v, none⟩) hg1).trans c5
        have hl4 : wr.heap.size < W4.heap.size := Lw.blk_lt GB
        have dr4 : Below wr.heap.size wr W4.drew := Below.drew hB4
        have SS := Lib.hid (fun w' (h : Below W4.heap.size W4 w') => show w'.cell? ⟨wr.heap.size, 1, none⟩ = some (.int .i64 (s : Int)) ∧ w'.cell? ⟨wr.heap.size, 2, none⟩ = some (.int .i64 (v : Int)) ∧ True ∧ True from ⟨(h.cell (p := ⟨wr.heap.size, 1, none⟩) hl4).trans s1, (h.cell (p := ⟨wr.heap.size, 2, none⟩) hl4).trans s2, trivial, trivial⟩)
        have EA := Lib.hid (MU.out b _ As Av cs cv xs ys _ ((HC.out.below hB4).below (Below.drew (Below.refl _ _))) (RSX.out.below (Nat.le_refl _) dr4) (RVX.out.below (Nat.le_refl _) dr4) RS1.2 RV1.2)
        have s4' : W4.drew.cell? ⟨g0, s, none⟩ = some (.slice As (2 * t + 1) cs) := s4
        have s5' : W4.drew.cell? ⟨g0, v, none⟩ = some (.slice Av (2 * t + 1) cv) := s5
        have s1' : W4.drew.cell? ⟨wr.heap.size, 1, none⟩ = some (.int .i64 (s : Int)) := s1
        refine wp_region_held_drew (S := fun w' => w'.cell? ⟨wr.heap.size, 1, none⟩ = some (.int .i64 (s : Int)) ∧ w'.cell? ⟨wr.heap.size, 2, none⟩ = some (.int .i64 (v : Int)) ∧ True ∧ True) (by kernel_rfl) (by exact ⟨s1, s2, trivial, trivial⟩) (fun hHeld => ?_)
        (refine Lw.take1 (i := 0) (v := ?_) rfl (by kernel_rfl) (by kernel_rfl) (by kernel_rfl) (fun _ _ _ h => h) (Or.inl ⟨by rfl, ?_⟩) (by assumption) ?_; rotate_left 1; (focus (intro wS hSw; obtain ⟨hS1, hS2, hS3, hS4⟩ := hSw; go_simp <;> with_reducible rfl)); (try simp only [Act.put, List.setIfInBounds_toArray, List.set_cons_zero, List.set_cons_succ]))
        (refine Lw.take1 (i := 1) (v := ?_) rfl (by kernel_rfl) (by kernel_rfl) (by kernel_rfl) (fun _ _ _ h => h) (Or.inl ⟨by rfl, ?_⟩) (by assumption) ?_; rotate_left 1; (focus (intro wS hSw; obtain ⟨hS1, hS2, hS3, hS4⟩ := hSw; go_simp <;> with_reducible rfl)); (try simp only [Act.put, List.setIfInBounds_toArray, List.set_cons_zero, List.set_cons_succ]))
        (refine Lw.take1 (i := 2) (v := ?_) rfl (by kernel_rfl) (by kernel_rfl) (by kernel_rfl) (fun _ _ _ h => h) (Or.inl ⟨by rfl, ?_⟩) (by assumption) ?_; rotate_left 1; (focus (intro wS hSw; obtain ⟨hS1, hS2, hS3, hS4⟩ := hSw; go_simp <;> with_reducible rfl)); (try simp only [Act.put, List.setIfInBounds_toArray, List.set_cons_zero, List.set_cons_succ]))
        (refine Lw.take1 (i := 3) (v := ?_) rfl (by kernel_rfl) (by kernel_rfl) (by kernel_rfl) (fun _ _ _ h => h) (Or.inl ⟨by rfl, ?_⟩) (by assumption) ?_; rotate_left 1; (focus (intro wS hSw; obtain ⟨hS1, hS2, hS3, hS4⟩ := hSw; go_simp <;> with_reducible rfl)); (try simp only [Act.put, List.setIfInBounds_toArray, List.set_cons_zero, List.set_cons_succ]))
        (refine Lw.take1 (i := 4) (v := ?_) rfl (by kernel_rfl) (by kernel_rfl) (by kernel_rfl) (fun _ _ _ h => h) (Or.inl ⟨by rfl, ?_⟩) (by assumption) ?_; rotate_left 1; (focus (intro wS hSw; obtain ⟨hS1, hS2, hS3, hS4⟩ := hSw; go_simp <;> with_reducible rfl)); (try simp only [Act.put, List.setIfInBounds_toArray, List.set_cons_zero, List.set_cons_succ]))
        (refine Lw.take1 (i := 5) (v := ?_) rfl (by kernel_rfl) (by kernel_rfl) (by kernel_rfl) (fun _ _ _ h => h) (Or.inl ⟨by rfl, ?_⟩) (by assumption) ?_; rotate_left 1; (focus (intro wS hSw; obtain ⟨hS1, hS2, hS3, hS4⟩ := hSw; go_simp <;> with_reducible rfl)); (try simp only [Act.put, List.setIfInBounds_toArray, List.set_cons_zero, List.set_cons_succ]))
        (refine Lw.take1 (i := 7) (v := ?_) rfl (by kernel_rfl) (by kernel_rfl) (by kernel_rfl) (fun _ _ _ h => h) (Or.inl ⟨by rfl, ?_⟩) (by assumption) ?_; rotate_left 1; (focus (intro wS hSw; obtain ⟨hS1, hS2, hS3, hS4⟩ := hSw; go_simp <;> with_reducible rfl)); (try simp only [Act.put, List.setIfInBounds_toArray, List.set_cons_zero, List.set_cons_succ]))
        (refine Lw.take1 (i := 8) (v := ?_) rfl (by kernel_rfl) (by kernel_rfl) (by kernel_rfl) (fun _ _ _ h => h) (Or.inl ⟨by rfl, ?_⟩) (by assumption) ?_; rotate_left 1; (focus (intro wS hSw; obtain ⟨hS1, hS2, hS3, hS4⟩ := hSw; go_simp <;> with_reducible rfl)); (try simp only [Act.put, List.setIfInBounds_toArray, List.set_cons_zero, List.set_cons_succ]))
        (refine Lw.take1 (i := 9) (v := ?_) rfl (by kernel_rfl) (by kernel_rfl) (by kernel_rfl) (fun _ _ _ h => h) (Or.inl ⟨by rfl, ?_⟩) (by assumption) ?_; rotate_left 1; (focus (intro wS hSw; obtain ⟨hS1, hS2, hS3, hS4⟩ := hSw; go_simp <;> with_reducible rfl)); (try simp only [Act.put, List.setIfInBounds_toArray, List.set_cons_zero, List.set_cons_succ]))
        (refine Lw.take1 (i := 10) (v := ?_) rfl (by kernel_rfl) (by kernel_rfl) (by kernel_rfl) (fun _ _ _ h => h) (Or.inl ⟨by rfl, ?_⟩) (by assumption) ?_; rotate_left 1; (focus (intro wS hSw; obtain ⟨hS1, hS2, hS3, hS4⟩ := hSw; go_simp <;> with_reducible rfl)); (try simp only [Act.put, List.setIfInBounds_toArray, List.set_cons_zero, List.set_cons_succ]))
        refine wpAnyH_ready (rs := [6, 11]) (by kernel_rfl) (by simp) ?_
        refine Lw.cons1 (i := 6) rfl (fun K hK => ?_) (Lw.cons1 (i := 11) rfl (fun K hK => ?_) AllReadyH.nil)
        · go_simp; refine hK.out _ _ (by exact ⟨s1, s2, trivial, trivial⟩) (fun hHeld => ?_); clear hK K; (try simp only [Act.put, List.setIfInBounds_toArray, List.set_cons_zero, List.set_cons_succ])
          (refine wpAnyH_ready (rs := [11]) (by kernel_rfl) (by simp) ?_; refine Lw.cons1 (i := 11) rfl (fun K hK => ?_) AllReadyH.nil; go_simp; refine hK.out _ _ ?_ (fun hHeld => ?_); (focus exact ⟨s1, s2, trivial, trivial⟩); clear hK K; (try simp only [Act.put, List.setIfInBounds_toArray, List.set_cons_zero, List.set_cons_succ]))
          (refine wpAnyH_ready (rs := [12]) (by kernel_rfl) (by simp) ?_; refine Lw.cons1 (i := 12) rfl (fun K hK => ?_) AllReadyH.nil; go_simp; go_at_call 22; (with_reducible refine (EA.out).mono ?_); rintro e w6 ⟨C6, g6, rfl, own6, hC6, hT46⟩; refine hK.out _ _ ?_ (fun hHeld => ?_); (focus exact ⟨(Lw.cell_of_blk ⟨wr.heap.size, 1, none⟩ (hT46.block wr.heap.size hl4 (by omega))).trans s1, (Lw.cell_of_blk ⟨wr.heap.size, 2, none⟩ (hT46.block wr.heap.size hl4 (by omega))).trans s2, trivial, trivial⟩); clear hK K; (try simp only [Act.put, List.setIfInBounds_toArray, List.set_cons_zero, List.set_cons_succ]))
          have y1 := (Lw.cell_of_blk ⟨wr.heap.size, 1, none⟩ (hT46.block wr.heap.size hl4 (by omega))).trans s1
          have y2 := (Lw.cell_of_blk ⟨wr.heap.size, 2, none⟩ (hT46.block wr.heap.size hl4 (by omega))).trans s2
          have hT6 : Lw.Tn b wr w6 := (Lw.Tn.of dr4).trans hT46
          have HC6 := Lib.hid hC6
          clear hC6
          have O6 := Lib.hid (Lw.own_tn OWN.out hT6 hnl)
          have hB6 : Below w.heap.size w w6 := Below.trans hB (hT6.below hB2s hwr)
          have z6 := hT6.size
          have z46 : W4.heap.size ≤ w6.heap.size := hT46.size
          have R6 := Lib.hid (Lw.ownsBase own6 (base' := wc.heap.size) (show wc.heap.size ≤ W4.heap.size by omega))
          clear own6
          have c6 : (w6.alloc (.cells #[.slice C6 (2 * t + 1) g6] 23)).cell? ⟨wr.heap.size, 1, none⟩ = some (.int .i64 (s : Int)) ∧ (w6.alloc (.cells #[.slice C6 (2 * t + 1) g6] 23)).cell? ⟨wr.heap.size, 2, none⟩ = some (.int .i64 (v : Int)) ∧ True ∧ True := ⟨((Lw.balloc (Below.refl w6.heap.size w6) _).cell (p := ⟨wr.heap.size, 1, none⟩) (show wr.heap.size < w6.heap.size by omega)).trans y1, ((Lw.balloc (Below.refl w6.heap.size w6) _).cell (p := ⟨wr.heap.size, 2, none⟩) (show wr.heap.size < w6.heap.size by omega)).trans y2, trivial, trivial⟩
          (refine wpAnyH_ready (rs := [13]) (by kernel_rfl) (by simp) ?_; refine Lw.cons1 (i := 13) rfl (fun K hK => ?_) AllReadyH.nil; go_simp; refine hK.out _ _ ?_ (fun hHeld => ?_); (focus exact c6); clear hK K; (try simp only [Act.put, List.setIfInBounds_toArray, List.set_cons_zero, List.set_cons_succ]))
          have RL : Lw.Rd (w6.alloc (.cells #[.slice C6 (2 * t + 1) g6] 23)) 1 (some ⟨w6.heap.size, 0, none⟩) 1 [.slice C6 (2 * t + 1) g6] := Lw.Rd.lit (Lw.blk_new w6 _ _) rfl rfl
          have hng : (Value.slice (some ⟨g0, 0, none⟩) k gL).ownBlock ≠ some wr.heap.size := fun e => by have := Lw.own_lt' OWN.out e; omega
          (refine wpAnyH_ready (rs := [14]) (by kernel_rfl) (by simp) ?_; refine Lw.cons1 (i := 14) rfl (fun K hK => ?_) AllReadyH.nil; refine Lw.step_app elRow rfl _ _ rfl rfl (O6.out.alloc _) rfl RL (Lw.row_one _ _ _) (by omega) (Lw.balloc hB6 _) hBwc.size (by simp; omega) ?_; intro v7 w7 own7 hb7 hg7 _; refine hK.out _ _ ?_ (fun hHeld => ?_); (focus exact ⟨(Lw.cell_of_blk ⟨wr.heap.size, 1, none⟩ (hg7.block wr.heap.size (by simp; omega) (fun e => hng e.symm))).trans c6.1, (Lw.cell_of_blk ⟨wr.heap.size, 2, none⟩ (hg7.block wr.heap.size (by simp; omega) (fun e => hng e.symm))).trans c6.2.1, trivial, trivial⟩); clear hK K; (try simp only [Act.put, List.setIfInBounds_toArray, List.set_cons_zero, List.set_cons_succ]))
          have FIN : Hid (PlS wc b p t (2 * t + 1) ins rs gs (k + 1) v7 w7) := pl_next hbc tl OWN.out ROWS.out hT hT6 R6.out HC6.out NX.out PLk own7 hg7
          clear own7 hg7 c6
          (refine Lw.take1 (i := 15) (v := ?_) rfl (by kernel_rfl) (by kernel_rfl) (by kernel_rfl) (fun _ _ _ h => h) (Or.inl ⟨by rfl, ?_⟩) (by assumption) ?_; rotate_left 1; (focus (intro wS hSw; obtain ⟨hS1, hS2, hS3, hS4⟩ := hSw; go_simp <;> with_reducible rfl)); (try simp only [Act.put, List.setIfInBounds_toArray, List.set_cons_zero, List.set_cons_succ]))
          refine wpAnyH_done (by kernel_rfl) ?_ _
          go_wp2
          go_roundw
          case rel => exact ⟨k + 1, by go_num, by omega, FIN.out⟩
          case measure => simp [intOf]; omega

        · go_simp; refine hK.out _ _ (by exact ⟨s1, s2, trivial, trivial⟩) (fun hHeld => ?_); clear hK K; (try simp only [Act.put, List.setIfInBounds_toArray, List.set_cons_zero, List.set_cons_succ])
          (refine wpAnyH_ready (rs := [6]) (by kernel_rfl) (by simp) ?_; refine Lw.cons1 (i := 6) rfl (fun K hK => ?_) AllReadyH.nil; go_simp; refine hK.out _ _ ?_ (fun hHeld => ?_); (focus exact ⟨s1, s2, trivial, trivial⟩); clear hK K; (try simp only [Act.put, List.setIfInBounds_toArray, List.set_cons_zero, List.set_cons_succ]))
          (refine wpAnyH_ready (rs := [12]) (by kernel_rfl) (by simp) ?_; refine Lw.cons1 (i := 12) rfl (fun K hK => ?_) AllReadyH.nil; go_simp; go_at_call 22; (with_reducible refine (EA.out).mono ?_); rintro e w6 ⟨C6, g6, rfl, own6, hC6, hT46⟩; refine hK.out _ _ ?_ (fun hHeld => ?_); (focus exact ⟨(Lw.cell_of_blk ⟨wr.heap.size, 1, none⟩ (hT46.block wr.heap.size hl4 (by omega))).trans s1, (Lw.cell_of_blk ⟨wr.heap.size, 2, none⟩ (hT46.block wr.heap.size hl4 (by omega))).trans s2, trivial, trivial⟩); clear hK K; (try simp only [Act.put, List.setIfInBounds_toArray, List.set_cons_zero, List.set_cons_succ]))
          have y1 := (Lw.cell_of_blk ⟨wr.heap.size, 1, none⟩ (hT46.block wr.heap.size hl4 (by omega))).trans s1
          have y2 := (Lw.cell_of_blk ⟨wr.heap.size, 2, none⟩ (hT46.block wr.heap.size hl4 (by omega))).trans s2
          have hT6 : Lw.Tn b wr w6 := (Lw.Tn.of dr4).trans hT46
          have HC6 := Lib.hid hC6
          clear hC6
          have O6 := Lib.hid (Lw.own_tn OWN.out hT6 hnl)
          have hB6 : Below w.heap.size w w6 := Below.trans hB (hT6.below hB2s hwr)
          have z6 := hT6.size
          have z46 : W4.heap.size ≤ w6.heap.size := hT46.size
          have R6 := Lib.hid (Lw.ownsBase own6 (base' := wc.heap.size) (show wc.heap.size ≤ W4.heap.size by omega))
          clear own6
          have c6 : (w6.alloc (.cells #[.slice C6 (2 * t + 1) g6] 23)).cell? ⟨wr.heap.size, 1, none⟩ = some (.int .i64 (s : Int)) ∧ (w6.alloc (.cells #[.slice C6 (2 * t + 1) g6] 23)).cell? ⟨wr.heap.size, 2, none⟩ = some (.int .i64 (v : Int)) ∧ True ∧ True := ⟨((Lw.balloc (Below.refl w6.heap.size w6) _).cell (p := ⟨wr.heap.size, 1, none⟩) (show wr.heap.size < w6.heap.size by omega)).trans y1, ((Lw.balloc (Below.refl w6.heap.size w6) _).cell (p := ⟨wr.heap.size, 2, none⟩) (show wr.heap.size < w6.heap.size by omega)).trans y2, trivial, trivial⟩
          (refine wpAnyH_ready (rs := [13]) (by kernel_rfl) (by simp) ?_; refine Lw.cons1 (i := 13) rfl (fun K hK => ?_) AllReadyH.nil; go_simp; refine hK.out _ _ ?_ (fun hHeld => ?_); (focus exact c6); clear hK K; (try simp only [Act.put, List.setIfInBounds_toArray, List.set_cons_zero, List.set_cons_succ]))
          have RL : Lw.Rd (w6.alloc (.cells #[.slice C6 (2 * t + 1) g6] 23)) 1 (some ⟨w6.heap.size, 0, none⟩) 1 [.slice C6 (2 * t + 1) g6] := Lw.Rd.lit (Lw.blk_new w6 _ _) rfl rfl
          have hng : (Value.slice (some ⟨g0, 0, none⟩) k gL).ownBlock ≠ some wr.heap.size := fun e => by have := Lw.own_lt' OWN.out e; omega
          (refine wpAnyH_ready (rs := [14]) (by kernel_rfl) (by simp) ?_; refine Lw.cons1 (i := 14) rfl (fun K hK => ?_) AllReadyH.nil; refine Lw.step_app elRow rfl _ _ rfl rfl (O6.out.alloc _) rfl RL (Lw.row_one _ _ _) (by omega) (Lw.balloc hB6 _) hBwc.size (by simp; omega) ?_; intro v7 w7 own7 hb7 hg7 _; refine hK.out _ _ ?_ (fun hHeld => ?_); (focus exact ⟨(Lw.cell_of_blk ⟨wr.heap.size, 1, none⟩ (hg7.block wr.heap.size (by simp; omega) (fun e => hng e.symm))).trans c6.1, (Lw.cell_of_blk ⟨wr.heap.size, 2, none⟩ (hg7.block wr.heap.size (by simp; omega) (fun e => hng e.symm))).trans c6.2.1, trivial, trivial⟩); clear hK K; (try simp only [Act.put, List.setIfInBounds_toArray, List.set_cons_zero, List.set_cons_succ]))
          have FIN : Hid (PlS wc b p t (2 * t + 1) ins rs gs (k + 1) v7 w7) := pl_next hbc tl OWN.out ROWS.out hT hT6 R6.out HC6.out NX.out PLk own7 hg7
          clear own7 hg7 c6
          (refine Lw.take1 (i := 15) (v := ?_) rfl (by kernel_rfl) (by kernel_rfl) (by kernel_rfl) (fun _ _ _ h => h) (Or.inl ⟨by rfl, ?_⟩) (by assumption) ?_; rotate_left 1; (focus (intro wS hSw; obtain ⟨hS1, hS2, hS3, hS4⟩ := hSw; go_simp <;> with_reducible rfl)); (try simp only [Act.put, List.setIfInBounds_toArray, List.set_cons_zero, List.set_cons_succ]))
          refine wpAnyH_done (by kernel_rfl) ?_ _
          go_wp2
          go_roundw
          case rel => exact ⟨k + 1, by go_num, by omega, FIN.out⟩
          case measure => simp [intOf]; omega

    · have hkn : k = n := by omega
      subst hkn
      have HP := Lib.hid hP
      obtain ⟨T, tl, own, rows, hC, hT⟩ := hP
      have hB : Below w.heap.size w wr := Below.trans hBwc (hT.below hB2s hBwc.size)
      clear own rows hC
      go_wp2
      go_ret2
      exact ⟨wc, b, _, rfl, HP.out, hB⟩
end Go.Proofs.Ytfocpbknckmmaaa
