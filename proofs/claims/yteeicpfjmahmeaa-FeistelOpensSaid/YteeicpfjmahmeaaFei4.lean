/- feistel.Open. -/
import Derived.Test.YteeicpfjmahmeaaFei3
import Derived.Test.YteeicpfjmahmeaaBkw
import Derived.Test.YteeicpfjmahmeaaRnd
namespace Lw
open Go Go.RowKit
theorem fopen_drop {Z : List TRow} {k : Nat} (h : k < Z.length) (p : Nat × Nat) : fopen (Z.drop k) p = fback Z[k].zs (fopen (Z.drop (k + 1)) p) := by
  rw [List.drop_eq_getElem_cons h]; rfl
/-- a row that may be, as it lay when the call began -/
abbrev RowG (w : World) := { r : TRow // RowOk .i64 w r ∧ r.zs.length = 16 ∧ ∀ z ∈ r.zs, 0 ≤ z ∧ z < 16 }
def rowsG (w : World) (T : List TRow) (h : ∀ r ∈ T, RowOk .i64 w r ∧ r.zs.length = 16 ∧ ∀ z ∈ r.zs, 0 ≤ z ∧ z < 16) : List (RowG w) := T.pmap (fun r h => ⟨r, h⟩) h
theorem rowsG_map (w : World) (T : List TRow) (h) : (rowsG w T h).map (fun a => a.1) = T := by unfold rowsG; rw [List.map_pmap]; simp
def stO {w : World} (p : Nat × Nat) (pre : List (Nat × RowG w)) : Nat × Nat := pre.foldl (fun p x => fback x.2.1.zs p) p
theorem stO_snoc {w : World} (p : Nat × Nat) (pre : List (Nat × RowG w)) (x : Nat × RowG w) : stO p (pre ++ [x]) = fback x.2.1.zs (stO p pre) := by simp [stO]
theorem stO_half {w : World} {p : Nat × Nat} (hp : half p) : ∀ pre : List (Nat × RowG w), half (stO p pre) := by
  intro pre
  unfold stO
  have : ∀ (pre : List (Nat × RowG w)) (p : Nat × Nat), half p → half (pre.foldl (fun p x => fback x.2.1.zs p) p) := by
    intro pre
    induction pre with
    | nil => intro p hp; exact hp
    | cons x pre ih => intro p hp; exact ih _ (fback_half x.2.2.2.2 hp)
  exact this pre p hp
theorem stO_all {w : World} (p : Nat × Nat) (T : List TRow) (h) : stO p (bks (rowsG w T h) 0) = fopen T p := by
  have e : ∀ (l : List (Nat × RowG w)) (p : Nat × Nat), stO p l = (l.map (fun x => x.2.1)).foldl (fun p r => fback r.zs p) p := by
    intro l
    induction l with
    | nil => intro p; rfl
    | cons x l ih => intro p; show stO (fback x.2.1.zs p) l = _; rw [ih]; rfl
  rw [e]
  have e2 : (bks (rowsG w T h) 0).map (fun x => x.2.1) = T.reverse := by
    have := congrArg (List.map (fun a : RowG w => a.1)) (bks_snd (rowsG w T h))
    rw [List.map_map, List.map_reverse, rowsG_map] at this
    exact this
  rw [e2, List.foldl_reverse]
  rfl
end Lw
namespace Go.Proofs.Yteeicpfjmahmeaa
open Go.RowKit Go.Shelf
theorem feistel_Open_bad (A : Option Addr) (n c : Nat) (T : List Lw.TRow) (y : Int) (w : World) (h : Lw.Tab .i64 w A n T) (h0 : ¬ Lw.feiE T y = 0) :
    Calls Try.prog 25 #[.slice A n c, .int .i64 y] w fun e w' => e = .returned (.tuple #[.int .i64 0, .int .i64 (Lw.feiE T y)]) ∧ Below w.heap.size w w' := by
  have X := Lib.hid (feistel_wrong A n c T y w h)
  have h1 : (Lw.feiE T y == 0) = false := by simpa using h0
  clear h h0
  go_enter Try.func25, Try.ntmps25
  go_wp2_with (go_at_call 44; (with_reducible refine (X.out).mono ?_); rintro e w1 ⟨rfl, rfl⟩)
  go_ret2
  exact ⟨rfl, by (repeat (first | exact Below.refl _ _ | refine Lw.bt ?_ (by assumption) | refine Lw.balloc ?_ _ | refine Lw.bdrewN ?_ _ | refine Below.drew ?_ | refine Lw.bset ?_ (by first | (simp; done) | (simp; omega) | omega) _))⟩
attribute [local go_sem] Oper.semAt_some
set_option maxRecDepth 100000 in
set_option maxHeartbeats 4000000 in
theorem feistel_Open_ok (A : Option Addr) (n c : Nat) (T : List Lw.TRow) (y : Int) (w : World) (h : Lw.Tab .i64 w A n T) (h0 : Lw.feiE T y = 0) :
    Calls Try.prog 25 #[.slice A n c, .int .i64 y] w fun e w' => e = .returned (.tuple #[.int .i64 (Lw.num (Lw.fopen T (Lw.halves y))), .int .i64 0]) ∧ Below w.heap.size w w' := by
  have X := feistel_wrong A n c T y w h
  rw [h0] at X
  replace X := Lib.hid X
  obtain ⟨hR, hn, y0, y1⟩ := Lw.fei_ok h h0
  have H := Lib.hid h
  have RO := Lib.hid hR
  clear h h0 hR
  refine (callsIn_wide (n := 4)).1 ?_
  refine callsIn_of_wp_marks Try.func25 rfl trivial ?_ rfl
  simp only [Try.ntmps25, List.size_toArray, List.length_cons, List.length_nil, Nat.reduceAdd, Nat.reduceSub, Array.replicate_succ, Array.replicate_zero, List.push_toArray, List.append_toArray, List.nil_append, List.cons_append]
  gi_wp2_with (first | (refine ⟨trivial, ?_⟩; gi_at_call 44; refine (callsIn_wide.2 (X.out)).mono ?_; rintro e w' ⟨rfl, rfl⟩) | (refine ⟨trivial, ?_⟩; gi_at_call 48; refine (callsIn_wide.2 (bkw_rows _ _ _ _)).mono ?_; rintro e w' ⟨rfl, rfl⟩))
  have HH := Lib.hid (fun pre => Lw.stO_half (w := w) (Lw.halves_half (x := y) (by omega)) pre)
  have hG : ∀ r ∈ T, Lw.RowOk .i64 w r ∧ r.zs.length = 16 ∧ ∀ z ∈ r.zs, 0 ≤ z ∧ z < 16 := fun r hr => ⟨H.out.2 r hr, RO.out r hr⟩
  have hBW : Below w.heap.size w (((w.alloc (.cells #[.int .i64 (y / 16)] 3)).alloc (.cells #[.int .i64 (y % 16)] 3)).alloc (.cells #[.slice A n c] 32)) := Lw.balloc (Lw.balloc (Lw.balloc (Below.refl _ _) _) _) _
  obtain ⟨Ba, hBa, hA⟩ : ∃ Ba, Ba < w.heap.size + 3 ∧ (0 < n → ∀ ad, A = some ad → ad.block = Ba) ∧ (0 < n → Ba < w.heap.size) ∧ (n = 0 → Ba = w.heap.size + 2) := by
    rcases Nat.eq_zero_or_pos n with h0 | hp
    · exact ⟨w.heap.size + 2, by omega, fun h => by omega, fun h => by omega, fun _ => rfl⟩
    · obtain ⟨ad, rfl, hb, _⟩ := H.out.1.2 hp
      exact ⟨ad.block, by omega, fun _ ad' e => by injection e with e; rw [e], fun _ => hb, fun h => by omega⟩
  obtain ⟨hA, hBl, hB0⟩ := hA
  have bL := Boxed.new w 3 (.int .i64 (y / 16))
  have bR := Boxed.new (w.alloc (.cells #[.int .i64 (y / 16)] 3)) 3 (.int .i64 (y % 16))
  rw [World.size_alloc] at bR
  have hcS := Lw.blk_cell (Lw.blk_new ((w.alloc (.cells #[.int .i64 (y / 16)] 3)).alloc (.cells #[.int .i64 (y % 16)] 3)) #[.slice A n c] 32) 0
  simp at hcS
  have P0 : Value.int .i64 (y / 16) = .int .i64 ((Lw.halves y).1 : Int) ∧ Value.int .i64 (y % 16) = .int .i64 ((Lw.halves y).2 : Int) := by unfold Lw.halves; refine ⟨?_, ?_⟩ <;> congr 1 <;> simp <;> omega
  replace P0 := Lib.hid P0
  refine wpIn_rangeFunc_ownG rfl (by omega) (gf := 59) (lb := #[.pointer (some ⟨w.heap.size + 1 + 1, 0, none⟩)]) rfl trivial (enters_of Try.func59 (by kernel_rfl) rfl)
    (bkw_rows_stops (fun a : Lw.RowG w => a.1.v) (Lw.rowsG w T hG) (w.heap.size + 1 + 1) Ba n c A (by omega) _ (by omega) _ (by simp) (by simp; omega) hcS
      ((show Lw.Rd w 1 A n ((Lw.rowsG w T hG).map (fun a => a.1.v)) from by
        have e : (Lw.rowsG w T hG).map (fun a => a.1.v) = T.map Lw.TRow.v := by
          have := congrArg (List.map Lw.TRow.v) (Lw.rowsG_map w T hG)
          rw [List.map_map] at this; exact this
        rw [e]; exact H.out.1).below (Nat.le_refl _) hBW) hA) Lw.KB.trans (Lw.KB.put (by simp) (by simp; omega)) (Below.refl _ _) (fun _ => rfl)
    (fun pre W => (W.cell? ⟨w.heap.size, 0, none⟩ = some (.int .i64 ((Lw.stO (Lw.halves y) pre).1 : Int)) ∧ W.frozen? ⟨w.heap.size, 0, none⟩ = false ∧ W.cell? ⟨w.heap.size + 1, 0, none⟩ = some (.int .i64 ((Lw.stO (Lw.halves y) pre).2 : Int)) ∧ W.frozen? ⟨w.heap.size + 1, 0, none⟩ = false) ∧ Below w.heap.size w W)
    (fun _ _ _ => False)
    (OwnFrom.and (Own.from (fun s A B row hs hg hr => ⟨cell_kept hs.1 hg hr, (frozen_kept hs.1 hg hr).trans hs.2.1, cell_kept hs.2.2.1 hg hr, (frozen_kept hs.2.2.1 hg hr).trans hs.2.2.2⟩) _) (ownFrom_below (Nat.le_refl _) (by simp; omega)))
    (fun _ _ _ _ _ hs _ _ => hs)
    ⟨⟨by rw [((bL.alloc _).alloc _).cell]; exact congrArg some P0.out.1, ((bL.alloc _).alloc _).frozen, by rw [(bR.alloc _).cell]; exact congrArg some P0.out.2, (bR.alloc _).frozen⟩, hBW⟩
    (fun x => { tmps := #[.slice A n c, .int .i64 y, undef, undef, .int .i64 0, .int .i64 0, .int .i64 0, .pointer (some ⟨w.heap.size, 0, none⟩), .pointer (some ⟨w.heap.size + 1, 0, none⟩), undef, x.2.1.v, .slice A n c, .int .i64 y, .int .i64 0, .int .i64 0, .bool false, undef, .int .i64 y, .int .i64 (y / 16), .int .i64 y, .int .i64 (y % 16), .slice A n c, .func (.func 59) #[] #[.pointer (some ⟨w.heap.size + 1 + 1, 0, none⟩)], .int .i64 (x.1 : Int), x.2.1.v, undef, undef, undef, undef, undef, undef, undef, undef, undef, undef, undef], defers := [] }) ?assign ?body ?done ?stop
  case assign =>
    intro l x W K hK
    gi_wp2
    exact hK
  case body =>
    rintro l pre ⟨i, ⟨⟨qA, qn, qc, qzs⟩, ok, hq1, hq2⟩⟩ W ⟨⟨c1, f1, c2, f2⟩, hB⟩ hlen
    have hh := HH.out pre
    have F1 := Lw.stO_snoc (Lw.halves y) pre (i, (⟨⟨qA, qn, qc, qzs⟩, ok, hq1, hq2⟩ : Lw.RowG w))
    obtain ⟨⟨l, r⟩, hp⟩ : ∃ p, Lw.stO (Lw.halves y) pre = p := ⟨_, rfl⟩
    rw [hp] at F1 hh c1 c2
    obtain ⟨l1, r1⟩ := hh
    simp only at l1 r1 hq1 hq2 c1 c2 F1
    have hqn : qn = 16 := by have := ok.len; simp only at this; omega
    subst hqn
    have hrz : l < qzs.length := by omega
    obtain ⟨qd, rfl, hqdb, hrow⟩ := (show Lw.Rd w 1 qA 16 (Lw.intsV .i64 qzs) from ok.1).at1 l1 (Lw.intsV_get hrz)
    obtain ⟨qd', e', _, hqc⟩ := (show Lw.Rd W 1 (some qd) 16 (Lw.intsV .i64 qzs) from (ok.below (Nat.le_refl _) hB).1).at1 l1 (Lw.intsV_get hrz)
    injection e' with e'
    subst e'
    clear hrow
    have zb := hq2 _ (List.getElem_mem hrz)
    have fz : Lw.fAt qzs l = (qzs[l]).toNat := by unfold Lw.fAt; rw [List.getD_eq_getElem?_getD, List.getElem?_eq_getElem hrz]; rfl
    have F2 : Lw.fback qzs (l, r) = (r ^^^ (qzs[l]).toNat, l) := by show (r ^^^ Lw.fAt qzs l, l) = _; rw [fz]
    obtain ⟨z, hz⟩ : ∃ z, qzs[l] = z := ⟨_, rfl⟩
    rw [hz] at hqc zb F2
    obtain ⟨zn, rfl⟩ := Int.eq_ofNat_of_zero_le zb.1
    rw [Int.toNat_natCast] at F2
    rw [F2] at F1
    have F1 := Lib.hid F1
    have XO := Lw.i64_xor_nat r zn (by omega) (by omega)
    have hBD := hB.size
    have hd : (⟨w.heap.size, 0, none⟩ : Addr) ≠ ⟨w.heap.size + 1, 0, none⟩ := by simp
    simp only [Lw.TRow.v]
    clear hz fz F2 hrz hp
    refine wpIn_block ?_
    have hqb : qd.block < w.heap.size := hqdb
    have q0 : (W.drew.setCell ⟨w.heap.size, 0, none⟩ (.int .i64 ((r ^^^ zn : Nat) : Int))).cell? (qd.add l) = some (.int .i64 (zn : Int)) := by
      rw [World.cell?_setCell_far _ _ _ _ (by rw [Lw.add_block]; show w.heap.size ≠ qd.block; omega)]; exact hqc
    have q1 : ((W.drew.setCell ⟨w.heap.size, 0, none⟩ (.int .i64 ((r ^^^ zn : Nat) : Int))).setCell ⟨w.heap.size + 1, 0, none⟩ (.int .i64 (l : Int))).cell? (qd.add l) = some (.int .i64 (zn : Int)) := by
      rw [World.cell?_setCell_far _ _ _ _ (by rw [Lw.add_block]; show w.heap.size + 1 ≠ qd.block; omega)]; exact q0
    have SX : W.drew.cell? (qd.add l) = some (.int .i64 (zn : Int)) ∧ True ∧ True ∧ True := ⟨hqc, trivial, trivial, trivial⟩
    have SZ7 : (W.drew.setCell ⟨w.heap.size, 0, none⟩ (.int .i64 ((r ^^^ zn : Nat) : Int))).cell? (qd.add l) = some (.int .i64 (zn : Int)) ∧ True ∧ True ∧ True := ⟨q0, trivial, trivial, trivial⟩
    have SZ8 : ((W.drew.setCell ⟨w.heap.size, 0, none⟩ (.int .i64 ((r ^^^ zn : Nat) : Int))).setCell ⟨w.heap.size + 1, 0, none⟩ (.int .i64 (l : Int))).cell? (qd.add l) = some (.int .i64 (zn : Int)) ∧ True ∧ True ∧ True := ⟨q1, trivial, trivial, trivial⟩
    have hl16 : (l : Int) < 16 := by omega
    have hn0 : 0 < n := by omega
    have hbl := hBl hn0
    have cL : ((W.drew.setCell ⟨w.heap.size, 0, none⟩ (.int .i64 ((r ^^^ zn : Nat) : Int))).setCell ⟨w.heap.size + 1, 0, none⟩ (.int .i64 (l : Int))).cell? ⟨w.heap.size, 0, none⟩ = some (.int .i64 ((r ^^^ zn : Nat) : Int)) := by
      rw [World.cell?_setCell_far _ _ _ _ (by show w.heap.size + 1 ≠ w.heap.size; omega)]
      exact World.cell?_setCell_same' _ _ _ (by show (W.cell? _).isSome = true; rw [c1]; rfl)
    have cR : ((W.drew.setCell ⟨w.heap.size, 0, none⟩ (.int .i64 ((r ^^^ zn : Nat) : Int))).setCell ⟨w.heap.size + 1, 0, none⟩ (.int .i64 (l : Int))).cell? ⟨w.heap.size + 1, 0, none⟩ = some (.int .i64 (l : Int)) :=
      World.cell?_setCell_same' _ _ _ (by rw [World.cell?_setCell_far _ _ _ _ (by show w.heap.size ≠ w.heap.size + 1; omega)]; show (W.cell? _).isSome = true; rw [c2]; rfl)
    have FIN : Hid (KeepsFrom (w.heap.size + 1 + 1 + 1) W ((W.drew.setCell ⟨w.heap.size, 0, none⟩ (.int .i64 ((r ^^^ zn : Nat) : Int))).setCell ⟨w.heap.size + 1, 0, none⟩ (.int .i64 (l : Int))) ∧ Lw.KB (w.heap.size + 1 + 1) Ba W ((W.drew.setCell ⟨w.heap.size, 0, none⟩ (.int .i64 ((r ^^^ zn : Nat) : Int))).setCell ⟨w.heap.size + 1, 0, none⟩ (.int .i64 (l : Int))) ∧
        Below w.heap.size w ((W.drew.setCell ⟨w.heap.size, 0, none⟩ (.int .i64 ((r ^^^ zn : Nat) : Int))).setCell ⟨w.heap.size + 1, 0, none⟩ (.int .i64 (l : Int)))) :=
      ⟨((KeepsOthers.drew W).trans ((KeepsOthers.setCell _ _ _).trans (KeepsOthers.setCell _ _ _))).from _,
       ⟨(Below.heap_setCell _ _ _ _ (by show w.heap.size + 1 + 1 ≠ w.heap.size + 1; omega)).trans (Below.heap_setCell _ _ _ _ (by show w.heap.size + 1 + 1 ≠ w.heap.size; omega)), (Below.heap_setCell _ _ _ _ (by show Ba ≠ w.heap.size + 1; omega)).trans (Below.heap_setCell _ _ _ _ (by show Ba ≠ w.heap.size; omega))⟩,
       ((Below.drew hB).setCell (p := ⟨w.heap.size, 0, none⟩) (Nat.le_refl _) _).setCell (p := ⟨w.heap.size + 1, 0, none⟩) (by show w.heap.size ≤ w.heap.size + 1; omega) _⟩
    have CL := Lib.hid cL; have CR := Lib.hid cR
    have FR : Hid (((W.drew.setCell ⟨w.heap.size, 0, none⟩ (.int .i64 ((r ^^^ zn : Nat) : Int))).setCell ⟨w.heap.size + 1, 0, none⟩ (.int .i64 (l : Int))).frozen? ⟨w.heap.size, 0, none⟩ = false ∧ ((W.drew.setCell ⟨w.heap.size, 0, none⟩ (.int .i64 ((r ^^^ zn : Nat) : Int))).setCell ⟨w.heap.size + 1, 0, none⟩ (.int .i64 (l : Int))).frozen? ⟨w.heap.size + 1, 0, none⟩ = false) :=
      ⟨by rw [World.frozen?_setCell, World.frozen?_setCell]; exact f1, by rw [World.frozen?_setCell, World.frozen?_setCell]; exact f2⟩
    clear cL cR
    refine Lw.wpIn_region_held (S := fun w' => w'.cell? (qd.add l) = some (.int .i64 (zn : Int)) ∧ True ∧ True ∧ True) (by kernel_rfl) (fun ⟨_, _, h⟩ => h) (by kernel_rfl) SX (fun hHeld => ?_)
    (refine Lw.take1 (i := 1) (v := ?_) rfl (by kernel_rfl) (by kernel_rfl) (by kernel_rfl) (fun _ _ _ h => h) (Or.inl ⟨by rfl, ?_⟩) (by assumption) ?_; rotate_left 1; (focus (intro wS hSw; obtain ⟨hS1, hS2, hS3, hS4⟩ := hSw; go_simp <;> with_reducible rfl)); (try simp only [Act.put, List.setIfInBounds_toArray, List.set_cons_zero, List.set_cons_succ]))
    refine wpAnyH_ready (rs := [0, 2, 6]) (by kernel_rfl) (by simp) ?_
    refine Lw.cons1 (i := 0) rfl (fun K hK => ?_) (Lw.cons1 (i := 2) rfl (fun K hK => ?_) (Lw.cons1 (i := 6) rfl (fun K hK => ?_) AllReadyH.nil))
    · (go_simp; refine hK.out _ _ ?_ (fun hHeld => ?_); (focus exact SX); clear hK K; (try simp only [Act.put, List.setIfInBounds_toArray, List.set_cons_zero, List.set_cons_succ]))
      refine wpAnyH_ready (rs := [2, 6]) (by kernel_rfl) (by simp) ?_
      refine Lw.cons1 (i := 2) rfl (fun K hK => ?_) (Lw.cons1 (i := 6) rfl (fun K hK => ?_) AllReadyH.nil)
      · (go_simp; refine hK.out _ _ ?_ (fun hHeld => ?_); (focus exact SX); clear hK K; (try simp only [Act.put, List.setIfInBounds_toArray, List.set_cons_zero, List.set_cons_succ]))
        (refine Lw.take1 (i := 3) (v := ?_) rfl (by kernel_rfl) (by kernel_rfl) (by kernel_rfl) (fun _ _ _ h => h) (Or.inl ⟨by rfl, ?_⟩) (by assumption) ?_; rotate_left 1; (focus (intro wS hSw; obtain ⟨hS1, hS2, hS3, hS4⟩ := hSw; go_simp <;> with_reducible rfl)); (try simp only [Act.put, List.setIfInBounds_toArray, List.set_cons_zero, List.set_cons_succ]))
        (refine Lw.take1 (i := 4) (v := ?_) rfl (by kernel_rfl) (by kernel_rfl) (by kernel_rfl) (fun _ _ _ h => h) (Or.inl ⟨by rfl, ?_⟩) (by assumption) ?_; rotate_left 1; (focus (intro wS hSw; obtain ⟨hS1, hS2, hS3, hS4⟩ := hSw; go_simp <;> with_reducible rfl)); (try simp only [Act.put, List.setIfInBounds_toArray, List.set_cons_zero, List.set_cons_succ]))
        (refine Lw.take1 (i := 5) (v := ?_) rfl (by kernel_rfl) (by kernel_rfl) (by kernel_rfl) (fun _ _ _ h => h) (Or.inl ⟨by rfl, ?_⟩) (by assumption) ?_; rotate_left 1; (focus (intro wS hSw; obtain ⟨hS1, hS2, hS3, hS4⟩ := hSw; go_simp <;> with_reducible rfl)); (try simp only [Act.put, List.setIfInBounds_toArray, List.set_cons_zero, List.set_cons_succ]))
        refine wpAnyH_ready (rs := [6]) (by kernel_rfl) (by simp) ?_
        refine Lw.cons1 (i := 6) rfl (fun K hK => ?_) AllReadyH.nil
        (go_simp; refine hK.out _ _ ?_ (fun hHeld => ?_); (focus exact SX); clear hK K; (try simp only [Act.put, List.setIfInBounds_toArray, List.set_cons_zero, List.set_cons_succ]))
        (refine wpAnyH_ready (rs := [7]) (by kernel_rfl) (by simp) ?_; refine Lw.cons1 (i := 7) rfl (fun K hK => ?_) AllReadyH.nil; go_simp; refine hK.out _ _ ?_ (fun hHeld => ?_); (focus exact SZ7); clear hK K; (try simp only [Act.put, List.setIfInBounds_toArray, List.set_cons_zero, List.set_cons_succ]))
        (refine wpAnyH_ready (rs := [8]) (by kernel_rfl) (by simp) ?_; refine Lw.cons1 (i := 8) rfl (fun K hK => ?_) AllReadyH.nil; go_simp; refine hK.out _ _ ?_ (fun hHeld => ?_); (focus exact SZ8); clear hK K; (try simp only [Act.put, List.setIfInBounds_toArray, List.set_cons_zero, List.set_cons_succ]))
        refine wpAnyH_done (by kernel_rfl) ?_ _
        exact ⟨by simp only [World.size_alloc]; exact FIN.out.1, FIN.out.2.1, ⟨by rw [F1.out]; exact CL.out, FR.out.1, by rw [F1.out]; exact CR.out, FR.out.2⟩, FIN.out.2.2⟩
      · (go_simp; refine hK.out _ _ ?_ (fun hHeld => ?_); (focus exact SX); clear hK K; (try simp only [Act.put, List.setIfInBounds_toArray, List.set_cons_zero, List.set_cons_succ]))
        refine wpAnyH_ready (rs := [2]) (by kernel_rfl) (by simp) ?_
        refine Lw.cons1 (i := 2) rfl (fun K hK => ?_) AllReadyH.nil
        (go_simp; refine hK.out _ _ ?_ (fun hHeld => ?_); (focus exact SX); clear hK K; (try simp only [Act.put, List.setIfInBounds_toArray, List.set_cons_zero, List.set_cons_succ]))
        (refine Lw.take1 (i := 3) (v := ?_) rfl (by kernel_rfl) (by kernel_rfl) (by kernel_rfl) (fun _ _ _ h => h) (Or.inl ⟨by rfl, ?_⟩) (by assumption) ?_; rotate_left 1; (focus (intro wS hSw; obtain ⟨hS1, hS2, hS3, hS4⟩ := hSw; go_simp <;> with_reducible rfl)); (try simp only [Act.put, List.setIfInBounds_toArray, List.set_cons_zero, List.set_cons_succ]))
        (refine Lw.take1 (i := 4) (v := ?_) rfl (by kernel_rfl) (by kernel_rfl) (by kernel_rfl) (fun _ _ _ h => h) (Or.inl ⟨by rfl, ?_⟩) (by assumption) ?_; rotate_left 1; (focus (intro wS hSw; obtain ⟨hS1, hS2, hS3, hS4⟩ := hSw; go_simp <;> with_reducible rfl)); (try simp only [Act.put, List.setIfInBounds_toArray, List.set_cons_zero, List.set_cons_succ]))
        (refine Lw.take1 (i := 5) (v := ?_) rfl (by kernel_rfl) (by kernel_rfl) (by kernel_rfl) (fun _ _ _ h => h) (Or.inl ⟨by rfl, ?_⟩) (by assumption) ?_; rotate_left 1; (focus (intro wS hSw; obtain ⟨hS1, hS2, hS3, hS4⟩ := hSw; go_simp <;> with_reducible rfl)); (try simp only [Act.put, List.setIfInBounds_toArray, List.set_cons_zero, List.set_cons_succ]))
        (refine wpAnyH_ready (rs := [7]) (by kernel_rfl) (by simp) ?_; refine Lw.cons1 (i := 7) rfl (fun K hK => ?_) AllReadyH.nil; go_simp; refine hK.out _ _ ?_ (fun hHeld => ?_); (focus exact SZ7); clear hK K; (try simp only [Act.put, List.setIfInBounds_toArray, List.set_cons_zero, List.set_cons_succ]))
        (refine wpAnyH_ready (rs := [8]) (by kernel_rfl) (by simp) ?_; refine Lw.cons1 (i := 8) rfl (fun K hK => ?_) AllReadyH.nil; go_simp; refine hK.out _ _ ?_ (fun hHeld => ?_); (focus exact SZ8); clear hK K; (try simp only [Act.put, List.setIfInBounds_toArray, List.set_cons_zero, List.set_cons_succ]))
        refine wpAnyH_done (by kernel_rfl) ?_ _
        exact ⟨by simp only [World.size_alloc]; exact FIN.out.1, FIN.out.2.1, ⟨by rw [F1.out]; exact CL.out, FR.out.1, by rw [F1.out]; exact CR.out, FR.out.2⟩, FIN.out.2.2⟩
    · (go_simp; refine hK.out _ _ ?_ (fun hHeld => ?_); (focus exact SX); clear hK K; (try simp only [Act.put, List.setIfInBounds_toArray, List.set_cons_zero, List.set_cons_succ]))
      (refine Lw.take1 (i := 3) (v := ?_) rfl (by kernel_rfl) (by kernel_rfl) (by kernel_rfl) (fun _ _ _ h => h) (Or.inl ⟨by rfl, ?_⟩) (by assumption) ?_; rotate_left 1; (focus (intro wS hSw; obtain ⟨hS1, hS2, hS3, hS4⟩ := hSw; go_simp <;> with_reducible rfl)); (try simp only [Act.put, List.setIfInBounds_toArray, List.set_cons_zero, List.set_cons_succ]))
      (refine Lw.take1 (i := 4) (v := ?_) rfl (by kernel_rfl) (by kernel_rfl) (by kernel_rfl) (fun _ _ _ h => h) (Or.inl ⟨by rfl, ?_⟩) (by assumption) ?_; rotate_left 1; (focus (intro wS hSw; obtain ⟨hS1, hS2, hS3, hS4⟩ := hSw; go_simp <;> with_reducible rfl)); (try simp only [Act.put, List.setIfInBounds_toArray, List.set_cons_zero, List.set_cons_succ]))
      refine wpAnyH_ready (rs := [0, 6]) (by kernel_rfl) (by simp) ?_
      refine Lw.cons1 (i := 0) rfl (fun K hK => ?_) (Lw.cons1 (i := 6) rfl (fun K hK => ?_) AllReadyH.nil)
      · (go_simp; refine hK.out _ _ ?_ (fun hHeld => ?_); (focus exact SX); clear hK K; (try simp only [Act.put, List.setIfInBounds_toArray, List.set_cons_zero, List.set_cons_succ]))
        (refine Lw.take1 (i := 5) (v := ?_) rfl (by kernel_rfl) (by kernel_rfl) (by kernel_rfl) (fun _ _ _ h => h) (Or.inl ⟨by rfl, ?_⟩) (by assumption) ?_; rotate_left 1; (focus (intro wS hSw; obtain ⟨hS1, hS2, hS3, hS4⟩ := hSw; go_simp <;> with_reducible rfl)); (try simp only [Act.put, List.setIfInBounds_toArray, List.set_cons_zero, List.set_cons_succ]))
        refine wpAnyH_ready (rs := [6]) (by kernel_rfl) (by simp) ?_
        refine Lw.cons1 (i := 6) rfl (fun K hK => ?_) AllReadyH.nil
        (go_simp; refine hK.out _ _ ?_ (fun hHeld => ?_); (focus exact SX); clear hK K; (try simp only [Act.put, List.setIfInBounds_toArray, List.set_cons_zero, List.set_cons_succ]))
        (refine wpAnyH_ready (rs := [7]) (by kernel_rfl) (by simp) ?_; refine Lw.cons1 (i := 7) rfl (fun K hK => ?_) AllReadyH.nil; go_simp; refine hK.out _ _ ?_ (fun hHeld => ?_); (focus exact SZ7); clear hK K; (try simp only [Act.put, List.setIfInBounds_toArray, List.set_cons_zero, List.set_cons_succ]))
        (refine wpAnyH_ready (rs := [8]) (by kernel_rfl) (by simp) ?_; refine Lw.cons1 (i := 8) rfl (fun K hK => ?_) AllReadyH.nil; go_simp; refine hK.out _ _ ?_ (fun hHeld => ?_); (focus exact SZ8); clear hK K; (try simp only [Act.put, List.setIfInBounds_toArray, List.set_cons_zero, List.set_cons_succ]))
        refine wpAnyH_done (by kernel_rfl) ?_ _
        exact ⟨by simp only [World.size_alloc]; exact FIN.out.1, FIN.out.2.1, ⟨by rw [F1.out]; exact CL.out, FR.out.1, by rw [F1.out]; exact CR.out, FR.out.2⟩, FIN.out.2.2⟩
      · (go_simp; refine hK.out _ _ ?_ (fun hHeld => ?_); (focus exact SX); clear hK K; (try simp only [Act.put, List.setIfInBounds_toArray, List.set_cons_zero, List.set_cons_succ]))
        refine wpAnyH_ready (rs := [0]) (by kernel_rfl) (by simp) ?_
        refine Lw.cons1 (i := 0) rfl (fun K hK => ?_) AllReadyH.nil
        (go_simp; refine hK.out _ _ ?_ (fun hHeld => ?_); (focus exact SX); clear hK K; (try simp only [Act.put, List.setIfInBounds_toArray, List.set_cons_zero, List.set_cons_succ]))
        (refine Lw.take1 (i := 5) (v := ?_) rfl (by kernel_rfl) (by kernel_rfl) (by kernel_rfl) (fun _ _ _ h => h) (Or.inl ⟨by rfl, ?_⟩) (by assumption) ?_; rotate_left 1; (focus (intro wS hSw; obtain ⟨hS1, hS2, hS3, hS4⟩ := hSw; go_simp <;> with_reducible rfl)); (try simp only [Act.put, List.setIfInBounds_toArray, List.set_cons_zero, List.set_cons_succ]))
        (refine wpAnyH_ready (rs := [7]) (by kernel_rfl) (by simp) ?_; refine Lw.cons1 (i := 7) rfl (fun K hK => ?_) AllReadyH.nil; go_simp; refine hK.out _ _ ?_ (fun hHeld => ?_); (focus exact SZ7); clear hK K; (try simp only [Act.put, List.setIfInBounds_toArray, List.set_cons_zero, List.set_cons_succ]))
        (refine wpAnyH_ready (rs := [8]) (by kernel_rfl) (by simp) ?_; refine Lw.cons1 (i := 8) rfl (fun K hK => ?_) AllReadyH.nil; go_simp; refine hK.out _ _ ?_ (fun hHeld => ?_); (focus exact SZ8); clear hK K; (try simp only [Act.put, List.setIfInBounds_toArray, List.set_cons_zero, List.set_cons_succ]))
        refine wpAnyH_done (by kernel_rfl) ?_ _
        exact ⟨by simp only [World.size_alloc]; exact FIN.out.1, FIN.out.2.1, ⟨by rw [F1.out]; exact CL.out, FR.out.1, by rw [F1.out]; exact CR.out, FR.out.2⟩, FIN.out.2.2⟩
    · (go_simp; refine hK.out _ _ ?_ (fun hHeld => ?_); (focus exact SX); clear hK K; (try simp only [Act.put, List.setIfInBounds_toArray, List.set_cons_zero, List.set_cons_succ]))
      refine wpAnyH_ready (rs := [0, 2]) (by kernel_rfl) (by simp) ?_
      refine Lw.cons1 (i := 0) rfl (fun K hK => ?_) (Lw.cons1 (i := 2) rfl (fun K hK => ?_) AllReadyH.nil)
      · (go_simp; refine hK.out _ _ ?_ (fun hHeld => ?_); (focus exact SX); clear hK K; (try simp only [Act.put, List.setIfInBounds_toArray, List.set_cons_zero, List.set_cons_succ]))
        refine wpAnyH_ready (rs := [2]) (by kernel_rfl) (by simp) ?_
        refine Lw.cons1 (i := 2) rfl (fun K hK => ?_) AllReadyH.nil
        (go_simp; refine hK.out _ _ ?_ (fun hHeld => ?_); (focus exact SX); clear hK K; (try simp only [Act.put, List.setIfInBounds_toArray, List.set_cons_zero, List.set_cons_succ]))
        (refine Lw.take1 (i := 3) (v := ?_) rfl (by kernel_rfl) (by kernel_rfl) (by kernel_rfl) (fun _ _ _ h => h) (Or.inl ⟨by rfl, ?_⟩) (by assumption) ?_; rotate_left 1; (focus (intro wS hSw; obtain ⟨hS1, hS2, hS3, hS4⟩ := hSw; go_simp <;> with_reducible rfl)); (try simp only [Act.put, List.setIfInBounds_toArray, List.set_cons_zero, List.set_cons_succ]))
        (refine Lw.take1 (i := 4) (v := ?_) rfl (by kernel_rfl) (by kernel_rfl) (by kernel_rfl) (fun _ _ _ h => h) (Or.inl ⟨by rfl, ?_⟩) (by assumption) ?_; rotate_left 1; (focus (intro wS hSw; obtain ⟨hS1, hS2, hS3, hS4⟩ := hSw; go_simp <;> with_reducible rfl)); (try simp only [Act.put, List.setIfInBounds_toArray, List.set_cons_zero, List.set_cons_succ]))
        (refine Lw.take1 (i := 5) (v := ?_) rfl (by kernel_rfl) (by kernel_rfl) (by kernel_rfl) (fun _ _ _ h => h) (Or.inl ⟨by rfl, ?_⟩) (by assumption) ?_; rotate_left 1; (focus (intro wS hSw; obtain ⟨hS1, hS2, hS3, hS4⟩ := hSw; go_simp <;> with_reducible rfl)); (try simp only [Act.put, List.setIfInBounds_toArray, List.set_cons_zero, List.set_cons_succ]))
        (refine wpAnyH_ready (rs := [7]) (by kernel_rfl) (by simp) ?_; refine Lw.cons1 (i := 7) rfl (fun K hK => ?_) AllReadyH.nil; go_simp; refine hK.out _ _ ?_ (fun hHeld => ?_); (focus exact SZ7); clear hK K; (try simp only [Act.put, List.setIfInBounds_toArray, List.set_cons_zero, List.set_cons_succ]))
        (refine wpAnyH_ready (rs := [8]) (by kernel_rfl) (by simp) ?_; refine Lw.cons1 (i := 8) rfl (fun K hK => ?_) AllReadyH.nil; go_simp; refine hK.out _ _ ?_ (fun hHeld => ?_); (focus exact SZ8); clear hK K; (try simp only [Act.put, List.setIfInBounds_toArray, List.set_cons_zero, List.set_cons_succ]))
        refine wpAnyH_done (by kernel_rfl) ?_ _
        exact ⟨by simp only [World.size_alloc]; exact FIN.out.1, FIN.out.2.1, ⟨by rw [F1.out]; exact CL.out, FR.out.1, by rw [F1.out]; exact CR.out, FR.out.2⟩, FIN.out.2.2⟩
      · (go_simp; refine hK.out _ _ ?_ (fun hHeld => ?_); (focus exact SX); clear hK K; (try simp only [Act.put, List.setIfInBounds_toArray, List.set_cons_zero, List.set_cons_succ]))
        (refine Lw.take1 (i := 3) (v := ?_) rfl (by kernel_rfl) (by kernel_rfl) (by kernel_rfl) (fun _ _ _ h => h) (Or.inl ⟨by rfl, ?_⟩) (by assumption) ?_; rotate_left 1; (focus (intro wS hSw; obtain ⟨hS1, hS2, hS3, hS4⟩ := hSw; go_simp <;> with_reducible rfl)); (try simp only [Act.put, List.setIfInBounds_toArray, List.set_cons_zero, List.set_cons_succ]))
        (refine Lw.take1 (i := 4) (v := ?_) rfl (by kernel_rfl) (by kernel_rfl) (by kernel_rfl) (fun _ _ _ h => h) (Or.inl ⟨by rfl, ?_⟩) (by assumption) ?_; rotate_left 1; (focus (intro wS hSw; obtain ⟨hS1, hS2, hS3, hS4⟩ := hSw; go_simp <;> with_reducible rfl)); (try simp only [Act.put, List.setIfInBounds_toArray, List.set_cons_zero, List.set_cons_succ]))
        refine wpAnyH_ready (rs := [0]) (by kernel_rfl) (by simp) ?_
        refine Lw.cons1 (i := 0) rfl (fun K hK => ?_) AllReadyH.nil
        (go_simp; refine hK.out _ _ ?_ (fun hHeld => ?_); (focus exact SX); clear hK K; (try simp only [Act.put, List.setIfInBounds_toArray, List.set_cons_zero, List.set_cons_succ]))
        (refine Lw.take1 (i := 5) (v := ?_) rfl (by kernel_rfl) (by kernel_rfl) (by kernel_rfl) (fun _ _ _ h => h) (Or.inl ⟨by rfl, ?_⟩) (by assumption) ?_; rotate_left 1; (focus (intro wS hSw; obtain ⟨hS1, hS2, hS3, hS4⟩ := hSw; go_simp <;> with_reducible rfl)); (try simp only [Act.put, List.setIfInBounds_toArray, List.set_cons_zero, List.set_cons_succ]))
        (refine wpAnyH_ready (rs := [7]) (by kernel_rfl) (by simp) ?_; refine Lw.cons1 (i := 7) rfl (fun K hK => ?_) AllReadyH.nil; go_simp; refine hK.out _ _ ?_ (fun hHeld => ?_); (focus exact SZ7); clear hK K; (try simp only [Act.put, List.setIfInBounds_toArray, List.set_cons_zero, List.set_cons_succ]))
        (refine wpAnyH_ready (rs := [8]) (by kernel_rfl) (by simp) ?_; refine Lw.cons1 (i := 8) rfl (fun K hK => ?_) AllReadyH.nil; go_simp; refine hK.out _ _ ?_ (fun hHeld => ?_); (focus exact SZ8); clear hK K; (try simp only [Act.put, List.setIfInBounds_toArray, List.set_cons_zero, List.set_cons_succ]))
        refine wpAnyH_done (by kernel_rfl) ?_ _
        exact ⟨by simp only [World.size_alloc]; exact FIN.out.1, FIN.out.2.1, ⟨by rw [F1.out]; exact CL.out, FR.out.1, by rw [F1.out]; exact CR.out, FR.out.2⟩, FIN.out.2.2⟩
  case done =>
    rintro D ys W hD rfl ⟨⟨c1, f1, c2, f2⟩, hB⟩ hK
    rw [Lw.stO_all] at c1 c2
    have hh := Lw.fopen_half RO.out (Lw.halves_half (x := y) (by omega))
    have E : Hid (Lw.num (Lw.fopen T (Lw.halves y)) = ((Lw.fopen T (Lw.halves y)).1 : Int) * 16 + ((Lw.fopen T (Lw.halves y)).2 : Int)) := by unfold Lw.num Hid; omega
    obtain ⟨p, hp⟩ : ∃ p, Lw.fopen T (Lw.halves y) = p := ⟨_, rfl⟩
    rw [hp] at E hh c1 c2
    obtain ⟨l1, r1⟩ := hh
    gi_wp2
    refine ⟨by simp, .inl ⟨_, _, rfl, run_takeDeferred hK, ?_⟩⟩
    refine ⟨_, ?_, ⟨rfl, hB.trans (belowK_b (w := w) (Nat.le_refl _) W D _ _ (by simp at hD; omega) hK rfl rfl)⟩⟩
    rw [hp, E.out]
    simp [results, Try.f25, go_sem]
  case stop =>
    rintro D c pre W _ _ h _
    exact h.elim
end Go.Proofs.Yteeicpfjmahmeaa
