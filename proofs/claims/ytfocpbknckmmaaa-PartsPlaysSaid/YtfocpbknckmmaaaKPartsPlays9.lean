/-
  The reference's taken and Table.
  The reference's Parts: what its rounds keep.
-/
import Derived.Test.YtfocpbknckmmaaaKPartsPlays8
import Derived.Test.YtfocpbknckmmaaaKPartsPlays4
import Derived.Test.YtfocpbknckmmaaaKPartsPlays5
namespace Lw
open Go Go.RowKit
/-- rows of m numbers each -/
def RowsR (w : World) (A : Option Addr) (n m : Nat) (rows : List (List Int)) : Prop := ∃ T : List (Option Addr × Nat), T.length = n ∧ Rd w 1 A n (T.map (rowV m)) ∧ ∀ j (h : j < T.length), Rd w 1 T[j].1 m (intsV .i64 (rows.getD j []))
theorem RowsR.below {w w' : World} {A : Option Addr} {n m : Nat} {rows : List (List Int)} (h : RowsR w A n m rows) (hb : Below w.heap.size w w') : RowsR w' A n m rows := by
  obtain ⟨T, h1, h2, h3⟩ := h
  exact ⟨T, h1, h2.below (Nat.le_refl _) hb, fun j hj => (h3 j hj).below (Nat.le_refl _) hb⟩
end Lw
set_option linter.unusedVariables false
set_option linter.unusedSimpArgs false
namespace Go.Proofs.Ytfocpbknckmmaaa
open Go.RowKit
set_option maxHeartbeats 2000000 in
theorem ref_taken (A : Option Addr) (n c used t : Nat) (rs : List Int) (w : World) (R : Lw.Rd w 1 A n (Lw.intsV .i64 rs)) (hu : used ≤ 1000000) (ht : t ≤ 1000) :
    Calls Try.prog 25 #[.slice A n c, .int .i64 (used : Int), .int .i64 (t : Int)] w (Lw.OwF 2 (Lw.takR rs used t) t w) := by
  have lr : rs.length = n := by have := R.1; simpa [Lw.intsV] using this
  have LR := Lib.hid lr
  have R := Lib.hid R
  have TS := Lib.hid (fun k => Lw.takR_succ rs used k)
  have T0 : Hid (Lw.takR rs used 0 = []) := rfl
  have e0 : IntKind.i64.wrap ((used : Int) + (t : Int)) = (used : Int) + (t : Int) := by rw [IntKind.wrap_i64]; omega
  clear lr
  go_enter Try.func25, Try.ntmps25
  go_wp2
  go_loopw [7, 8] (fun l x wr => ∃ k q : Nat, x = .int .i64 (q : Int) ∧ q = used + k ∧ k ≤ t ∧ wr.ownsRow w.heap.size 2 1 l k (Lw.intsV .i64 (Lw.takR rs used k)) ∧ Below w.heap.size w wr) (fun _ x _ => used + t - (intOf x).toNat)
  case atStart => exact ⟨0, used, rfl, rfl, by omega, by rw [T0.out]; exact World.ownsRow_nil _ _ _ _, Below.refl _ _⟩
  case round =>
    obtain ⟨k, q, rfl, hq, hk, own, hB⟩ := hrel
    have hszr := hB.size
    by_cases hlt : k < t
    · have hlt' : (q : Int) < (used : Int) + (t : Int) := by omega
      have e1 : IntKind.i64.wrap ((q : Int) + 1) = (q : Int) + 1 := by rw [IntKind.wrap_i64]; omega
      have TK := TS.out k
      rw [← hq] at TK
      by_cases hn : q < n
      · have hl : q < rs.length := by rw [LR.out]; exact hn
        obtain ⟨ad, rfl, had, c0⟩ := (R.out.below (Nat.le_refl _) hB).at1 hn (Lw.intsV_get hl)
        rw [Lw.getD_at' hl] at TK
        obtain ⟨x, hx⟩ : ∃ z, rs[q] = z := ⟨_, rfl⟩
        rw [hx] at TK c0
        have hn' : (q : Int) < (n : Int) := by omega
        have TK := Lib.hid TK
        have OWN := Lib.hid own
        have HQ := Lib.hid hq
        clear own hx hl had hq
        go_wp2_with (at_builtin; go_loud (refine Lw.wpList_app elLng rfl _ _ rfl rfl (OWN.out.alloc _) rfl (by first | exact Lw.Rd.nil _ _ _ | exact Lw.Rd.lit (Lw.blk_new' (by simp) _ _) rfl rfl | exact Lw.Rd.lit (Lw.blk_alloc (Lw.blk_new' (by simp) _ _) _) rfl rfl) (Lw.one1 _ _) (by omega) (Lw.balloc hB _) (Nat.le_refl _) (by simp; omega) ?_); intro v2 w2 own2 hb2 _ _)
        have O2 := Lib.hid own2
        clear own2
        go_wp2
        go_roundw
        case rel => exact ⟨k + 1, q + 1, by go_num, by have := HQ.out; omega, by omega, by rw [TK.out, Lw.intsV_snoc'']; exact O2.out, hb2⟩
        case measure => have := HQ.out; simp [intOf]; omega
      · have e : rs.getD q 0 = 0 := by rw [List.getD_eq_getElem?_getD, List.getElem?_eq_none (by rw [LR.out]; omega)]; rfl
        rw [e] at TK
        have hn' : ¬ (q : Int) < (n : Int) := by omega
        have TK := Lib.hid TK
        have OWN := Lib.hid own
        have HQ := Lib.hid hq
        clear own hq e
        go_wp2_with (at_builtin; go_loud (refine Lw.wpList_app elLng rfl _ _ rfl rfl (OWN.out.alloc _) rfl (by first | exact Lw.Rd.nil _ _ _ | exact Lw.Rd.lit (Lw.blk_new' (by simp) _ _) rfl rfl | exact Lw.Rd.lit (Lw.blk_alloc (Lw.blk_new' (by simp) _ _) _) rfl rfl) (Lw.one1 _ _) (by omega) (Lw.balloc hB _) (Nat.le_refl _) (by simp; omega) ?_); intro v2 w2 own2 hb2 _ _)
        have O2 := Lib.hid own2
        clear own2
        go_wp2
        go_roundw
        case rel => exact ⟨k + 1, q + 1, by go_num, by have := HQ.out; omega, by omega, by rw [TK.out, Lw.intsV_snoc'']; exact O2.out, hb2⟩
        case measure => have := HQ.out; simp [intOf]; omega
    · have hkn : k = t := by omega
      subst hkn
      have hge : ¬ (q : Int) < (used : Int) + (k : Int) := by omega
      obtain ⟨D, e, rfl, hg, _⟩ := Lw.ownsForm own
      have RR := Lib.hid own
      clear own
      go_wp2
      go_ret
      exact ⟨D, e, rfl, RR.out, hB⟩
set_option maxHeartbeats 2000000 in
theorem ref_Table (A B : Option Addr) (n c d m : Nat) (rows : List (List Int)) (w : World) (h1 : Lw.RowsR w A n m rows) (h2 : Lw.RowsR w B n m rows) (hn : n ≤ 1000) (hm : m ≤ 1000) :
    Calls Try.prog 8 #[.slice A n c, .slice B n d] w fun e w' => e = .returned (.bool true) ∧ Below w.heap.size w w' := by
  obtain ⟨T, tl, RA, RT⟩ := h1
  obtain ⟨U, ul, RB, RU⟩ := h2
  have LG := Lib.hid (fun j (h : j < T.length) (h' : j < U.length) W (hb : Below w.heap.size w W) => ref_Longs m T[j].2 U[j].2 T[j].1 U[j].1 (rows.getD j []) W ((RT j h).below (Nat.le_refl _) hb) ((RU j h').below (Nat.le_refl _) hb) (by omega))
  have RA := Lib.hid RA
  have RB := Lib.hid RB
  clear RT RU
  go_enter Try.func8, Try.ntmps8
  go_wp2
  go_loopw [5] (fun x wr => ∃ k : Nat, x = .int .i64 (k : Int) ∧ k ≤ n ∧ Below w.heap.size w wr) (fun x _ => n - (intOf x).toNat)
  case atStart => exact ⟨0, rfl, by omega, Below.refl _ _⟩
  case round =>
    obtain ⟨k, rfl, hk, hB⟩ := hrel
    by_cases hlt : k < n
    · have hT : k < T.length := by omega
      have hU : k < U.length := by omega
      have hlt' : (k : Int) < (n : Int) := by omega
      obtain ⟨ad, rfl, had, c0⟩ := (RA.out.below (Nat.le_refl _) hB).at1 hlt (show (T.map (Lw.rowV m))[k]? = some (Lw.rowV m T[k]) by rw [List.getElem?_map, List.getElem?_eq_getElem hT]; rfl)
      obtain ⟨bd, rfl, hbd, d0⟩ := (RB.out.below (Nat.le_refl _) hB).at1 hlt (show (U.map (Lw.rowV m))[k]? = some (Lw.rowV m U[k]) by rw [List.getElem?_map, List.getElem?_eq_getElem hU]; rfl)
      have LK := Lib.hid (LG.out k hT hU)
      obtain ⟨⟨T1, T2⟩, hTk⟩ : ∃ z, T[k] = z := ⟨_, rfl⟩
      obtain ⟨⟨U1, U2⟩, hUk⟩ : ∃ z, U[k] = z := ⟨_, rfl⟩
      rw [hTk] at c0
      rw [hUk] at d0
      have LK : Hid (∀ W, Below w.heap.size w W → Calls Try.prog 24 #[.slice T1 m T2, .slice U1 m U2] W fun e w' => e = .returned (.bool true) ∧ ∃ d, w' = W.drewN d) := fun W hb => by
        have h := LK.out W hb
        rw [hTk, hUk] at h
        exact h
      simp only [Lw.rowV] at c0 d0
      have hl1 : ad.block < wr.heap.size := had
      clear hTk hUk had hbd
      go_wp2_with fail
      refine wp_region_held_drew (S := fun w' => w'.cell? (ad.add k) = some (.slice T1 m T2) ∧ w'.cell? (bd.add k) = some (.slice U1 m U2) ∧ True ∧ True) (by kernel_rfl) (by exact ⟨c0, d0, trivial, trivial⟩) (fun hHeld => ?_)
      (refine Lw.take1 (i := 0) (v := ?_) rfl (by kernel_rfl) (by kernel_rfl) (by kernel_rfl) (fun _ _ _ h => h) (Or.inl ⟨by rfl, ?_⟩) (by assumption) ?_; rotate_left 1; (focus (intro wS hSw; obtain ⟨hS1, hS2, hS3, hS4⟩ := hSw; go_simp <;> with_reducible rfl)); (try simp only [Act.put, List.setIfInBounds_toArray, List.set_cons_zero, List.set_cons_succ]))
      (refine Lw.take1 (i := 1) (v := ?_) rfl (by kernel_rfl) (by kernel_rfl) (by kernel_rfl) (fun _ _ _ h => h) (Or.inl ⟨by rfl, ?_⟩) (by assumption) ?_; rotate_left 1; (focus (intro wS hSw; obtain ⟨hS1, hS2, hS3, hS4⟩ := hSw; go_simp <;> with_reducible rfl)); (try simp only [Act.put, List.setIfInBounds_toArray, List.set_cons_zero, List.set_cons_succ]))
      (refine Lw.take1 (i := 2) (v := ?_) rfl (by kernel_rfl) (by kernel_rfl) (by kernel_rfl) (fun _ _ _ h => h) (Or.inl ⟨by rfl, ?_⟩) (by assumption) ?_; rotate_left 1; (focus (intro wS hSw; obtain ⟨hS1, hS2, hS3, hS4⟩ := hSw; go_simp <;> with_reducible rfl)); (try simp only [Act.put, List.setIfInBounds_toArray, List.set_cons_zero, List.set_cons_succ]))
      (refine Lw.take1 (i := 3) (v := ?_) rfl (by kernel_rfl) (by kernel_rfl) (by kernel_rfl) (fun _ _ _ h => h) (Or.inl ⟨by rfl, ?_⟩) (by assumption) ?_; rotate_left 1; (focus (intro wS hSw; obtain ⟨hS1, hS2, hS3, hS4⟩ := hSw; go_simp <;> with_reducible rfl)); (try simp only [Act.put, List.setIfInBounds_toArray, List.set_cons_zero, List.set_cons_succ]))
      (refine Lw.take1 (i := 4) (v := ?_) rfl (by kernel_rfl) (by kernel_rfl) (by kernel_rfl) (fun _ _ _ h => h) (Or.inl ⟨by rfl, ?_⟩) (by assumption) ?_; rotate_left 1; (focus (intro wS hSw; obtain ⟨hS1, hS2, hS3, hS4⟩ := hSw; go_simp <;> with_reducible rfl)); (try simp only [Act.put, List.setIfInBounds_toArray, List.set_cons_zero, List.set_cons_succ]))
      (refine Lw.take1 (i := 5) (v := ?_) rfl (by kernel_rfl) (by kernel_rfl) (by kernel_rfl) (fun _ _ _ h => h) (Or.inl ⟨by rfl, ?_⟩) (by assumption) ?_; rotate_left 1; (focus (intro wS hSw; obtain ⟨hS1, hS2, hS3, hS4⟩ := hSw; go_simp <;> with_reducible rfl)); (try simp only [Act.put, List.setIfInBounds_toArray, List.set_cons_zero, List.set_cons_succ]))
      (refine Lw.take1 (i := 6) (v := ?_) rfl (by kernel_rfl) (by kernel_rfl) (by kernel_rfl) (fun _ _ _ h => h) (Or.inl ⟨by rfl, ?_⟩) (by assumption) ?_; rotate_left 1; (focus (intro wS hSw; obtain ⟨hS1, hS2, hS3, hS4⟩ := hSw; go_simp <;> with_reducible rfl)); (try simp only [Act.put, List.setIfInBounds_toArray, List.set_cons_zero, List.set_cons_succ]))
      (refine Lw.take1 (i := 7) (v := ?_) rfl (by kernel_rfl) (by kernel_rfl) (by kernel_rfl) (fun _ _ _ h => h) (Or.inl ⟨by rfl, ?_⟩) (by assumption) ?_; rotate_left 1; (focus (intro wS hSw; obtain ⟨hS1, hS2, hS3, hS4⟩ := hSw; go_simp <;> with_reducible rfl)); (try simp only [Act.put, List.setIfInBounds_toArray, List.set_cons_zero, List.set_cons_succ]))
      (refine wpAnyH_ready (rs := [8]) (by kernel_rfl) (by simp) ?_; refine Lw.cons1 (i := 8) rfl (fun K hK => ?_) AllReadyH.nil; go_simp; go_at_call 24; (with_reducible refine (LK.out _ (Below.drew hB)).mono ?_); rintro e w4 ⟨rfl, dd, rfl⟩; refine hK.out _ _ ?_ (fun hHeld => ?_); (focus exact ⟨c0, d0, trivial, trivial⟩); clear hK K; (try simp only [Act.put, List.setIfInBounds_toArray, List.set_cons_zero, List.set_cons_succ]))
      (refine Lw.take1 (i := 9) (v := ?_) rfl (by kernel_rfl) (by kernel_rfl) (by kernel_rfl) (fun _ _ _ h => h) (Or.inl ⟨by rfl, ?_⟩) (by assumption) ?_; rotate_left 1; (focus (intro wS hSw; obtain ⟨hS1, hS2, hS3, hS4⟩ := hSw; go_simp <;> with_reducible rfl)); (try simp only [Act.put, List.setIfInBounds_toArray, List.set_cons_zero, List.set_cons_succ]))
      refine wpAnyH_done (by kernel_rfl) ?_ _
      go_wp2
      go_roundw
      case rel => exact ⟨k + 1, by go_num, by omega, by (repeat (first | exact Below.refl _ _ | refine Lw.bt ?_ (by assumption) | refine Lw.balloc ?_ _ | refine Lw.bdrewN ?_ _ | refine Below.drew ?_ | refine Lw.bset ?_ (by first | (simp; done) | (simp; omega) | omega) _))⟩
      case measure => simp [intOf]; omega
    · have hkn : k = n := by omega
      subst hkn
      go_wp2
      go_ret
      exact ⟨rfl, hB⟩
end Go.Proofs.Ytfocpbknckmmaaa
namespace Lw
open Go Go.RowKit
/-- the first i of one list, and what follows in another -/
def mixL (a b : List Int) (i : Nat) : List Int := a.take i ++ b.drop i
theorem mix_zero (a b : List Int) : mixL a b 0 = b := by simp [mixL]
theorem mix_all {a b : List Int} {n : Nat} (ha : a.length = n) (hb : b.length = n) : mixL a b n = a := by
  unfold mixL; rw [List.take_of_length_le (by omega), List.drop_eq_nil_of_le (by omega), List.append_nil]
theorem mix_get {a b : List Int} {i : Nat} (h : i < b.length) (hl : a.length = b.length) : (intsV .i64 (mixL a b i))[i]? = some (.int .i64 b[i]) := by
  have h2 : (a.take i).length = i := by simp; omega
  simp only [intsV, List.getElem?_map, mixL]
  rw [List.getElem?_append_right (by omega), h2, Nat.sub_self, List.getElem?_drop, Nat.add_zero, List.getElem?_eq_getElem h]; rfl
theorem mix_set {a b : List Int} {i : Nat} (h : i < a.length) (hl : a.length = b.length) : (intsV .i64 (mixL a b i)).set i (.int .i64 a[i]) = intsV .i64 (mixL a b (i + 1)) := by
  have h2 : (a.take i).length = i := by simp; omega
  have e : (mixL a b i).set i a[i] = mixL a b (i + 1) := by
    unfold mixL
    rw [List.set_append_right _ _ (by omega), h2, Nat.sub_self, List.drop_eq_getElem_cons (by omega : i < b.length), List.set_cons_zero, List.take_succ_eq_append_getElem h, List.append_assoc]; rfl
  rw [← e, intsV, intsV, List.map_set]
theorem mix_getD {a b : List Int} {i : Nat} (h : i < b.length) (hl : a.length = b.length) : (intsV .i64 (mixL a b i))[i]? = some (.int .i64 (b.getD i 0)) := by rw [getD_at' h]; exact mix_get h hl
theorem mix_setD {a b : List Int} {i : Nat} (h : i < a.length) (hl : a.length = b.length) : (intsV .i64 (mixL a b i)).set i (.int .i64 (a.getD i 0)) = intsV .i64 (mixL a b (i + 1)) := by rw [getD_at' h]; exact mix_set h hl
theorem eaL_getD {p : Int} {f : Int → Int → Int} {a b : List Int} {i : Nat} (h : i < a.length) : (eaL p f a b).getD i 0 = f (a.getD i 0) (b.getD i 0) % p := by rw [getD_at' (by rw [eaL_len]; exact h)]; exact eaL_get h
theorem mulS_get {p : Int} {n t : Nat} {random prod : List Int} {used i q : Nat} (h : q < n) : (mulS p n t random prod used (i + 1)).getD q 0 = ((mulS p n t random prod used i).getD q 0 + wgt p n ((i : Int) + 1) * hornV p (prod.getD i 0 :: takR random (used + i * t) t) ((q : Int) + 1)) % p := by
  have e : (shrL p (prod.getD i 0) (takR random (used + i * t) t) n).getD q 0 = hornV p (prod.getD i 0 :: takR random (used + i * t) t) ((q : Int) + 1) := by rw [getD_at' (by rw [shrL_len]; exact h), shrL_get h]
  rw [mulS_next, eaL_getD (by rw [mulS_len]; exact h), e]
theorem mulS_bdD {p : Int} (hp : 0 < p) {n t : Nat} {random prod : List Int} {used i q : Nat} (h : q < n) : 0 ≤ (mulS p n t random prod used i).getD q 0 ∧ (mulS p n t random prod used i).getD q 0 < p := by
  rw [getD_at' (by rw [mulS_len]; exact h)]; exact mulS_bd hp n t random prod used i _ (List.getElem_mem _)
theorem dlL_succ (j i : Nat) : dlL (j + 1) i = dlL j i ++ [((j : Int) + 1, if j = i then 1 else 0)] := by unfold dlL; rw [List.range_succ, List.map_append]; rfl
theorem prT_used {p : Int} {t : Nat} {ins random : List Int} {gs : List GateT} (ht : t ≤ 4) : ∀ k, (prT p t ins random gs k).2 ≤ k * 36
  | 0 => by simp [prT]
  | k + 1 => by
    have ih := prT_used (p := p) (ins := ins) (random := random) (gs := gs) ht k
    have hm : (2 * t + 1) * t ≤ 9 * 4 := Nat.mul_le_mul (by omega) ht
    rw [prT]
    simp only
    generalize (prT p t ins random gs k).1 = T
    generalize (prT p t ins random gs k).2 = u at *
    unfold prG
    split
    · simp only; omega
    · split
      · simp only; omega
      · split <;> (simp only; omega)
end Lw
set_option linter.unusedVariables false
set_option linter.unusedSimpArgs false
namespace Go.Proofs.Ytfocpbknckmmaaa
open Go.RowKit
/-- k gates are done -/
def RfS (w : World) (p : Int) (t m : Nat) (ins random : List Int) (gs : List Lw.GateT) (k : Nat) (l : Value) (wr : World) : Prop :=
  ∃ T : List (Option Addr × Nat), T.length = k ∧ wr.ownsRow w.heap.size 23 1 l k (T.map (Lw.rowV m)) ∧ (∀ j (h : j < T.length), wr.ownsRow w.heap.size 2 1 (Lw.rowV m T[j]) m (Lw.intsV .i64 ((Lw.prT p t ins random gs k).1.getD j []))) ∧ Below w.heap.size w wr
theorem rf_next {w W W' W'' : World} {p : Int} {t m k : Nat} {ins random : List Int} {gs : List Lw.GateT} {l l' : Value} {T : List (Option Addr × Nat)} {C : Option Addr} {g u : Nat} {r : List Int} {o : Obj}
    (tl : T.length = k) (hl : W.ownsRow w.heap.size 23 1 l k (T.map (Lw.rowV m)))
    (hr : ∀ j (h : j < T.length), W.ownsRow w.heap.size 2 1 (Lw.rowV m T[j]) m (Lw.intsV .i64 ((Lw.prT p t ins random gs k).1.getD j [])))
    (hT : Below W.heap.size W W') (row : W'.ownsRow w.heap.size 2 1 (.slice C m g) m (Lw.intsV .i64 r))
    (hn : Lw.prT p t ins random gs (k + 1) = ((Lw.prT p t ins random gs k).1 ++ [r], u)) (hlen : (Lw.prT p t ins random gs k).1.length = k)
    (own : W''.ownsRow w.heap.size 23 1 l' (k + 1) (T.map (Lw.rowV m) ++ [.slice C m g])) (hg : (W'.alloc o).grownBy W'' l.ownBlock) (hb : Below w.heap.size w W'') : RfS w p t m ins random gs (k + 1) l' W'' := by
  have OL := (Lw.ownsBelow hl (Nat.le_refl _) hT).alloc o
  refine ⟨T ++ [(C, g)], by simp [tl], by simpa [Lw.rowV] using own, fun j hj => ?_, hb⟩
  rw [hn]
  simp only [List.length_append, List.length_singleton] at hj
  by_cases h : j < T.length
  · have e1 : ((Lw.prT p t ins random gs k).1 ++ [r]).getD j [] = (Lw.prT p t ins random gs k).1.getD j [] := by
      rw [List.getD_eq_getElem?_getD, List.getD_eq_getElem?_getD, List.getElem?_append_left (by omega)]
    simp only [e1, List.getElem_append_left h]
    exact Lw.own_keep' ((Lw.ownsBelow (hr j h) (Nat.le_refl _) hT).alloc o) OL (by decide) hg
  · have hjk : j = T.length := by omega
    subst hjk
    have e1 : ((Lw.prT p t ins random gs k).1 ++ [r]).getD T.length [] = r := by
      rw [List.getD_eq_getElem?_getD, List.getElem?_append_right (by omega), tl, hlen]; simp
    have e2 : (T ++ [(C, g)])[T.length] = (C, g) := by simp
    simp only [e1, e2]
    exact Lw.own_keep' (row.alloc o) OL (by decide) hg
end Go.Proofs.Ytfocpbknckmmaaa
