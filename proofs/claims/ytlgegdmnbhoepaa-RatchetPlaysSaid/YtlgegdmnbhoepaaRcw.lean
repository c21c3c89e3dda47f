/- The ratchet's taker: the walks. -/
import Derived.Test.YtlgegdmnbhoepaaRcp
import Derived.Test.YtlgegdmnbhoepaaRegS
import Derived.Test.YtlgegdmnbhoepaaRoot
import Derived.Test.YtlgegdmnbhoepaaLgw
namespace Lw
open Go Go.RowKit Go.Maps
theorem setfour {W : World} {b : Nat} {v x y z u : Value} {t : TypeId} (h : W.heap[b]? = some (.cells #[v, x, y, z] t (0, 0))) : (W.setCell ⟨b, 0, none⟩ u).heap[b]? = some (.cells #[u, x, y, z] t (0, 0)) := by
  have h2 := blk_set_same h 0 u
  simpa using h2
theorem setfour1 {W : World} {b : Nat} {v x y z u : Value} {t : TypeId} (h : W.heap[b]? = some (.cells #[v, x, y, z] t (0, 0))) : (W.setCell ⟨b, 1, none⟩ u).heap[b]? = some (.cells #[v, u, y, z] t (0, 0)) := by
  have h2 := blk_set_same h 1 u
  simpa using h2
theorem own_tight {P : Program} {k : TypeId} {R : Value → Option (DataW Unit × List MemPlace)} {b n : Nat} {D : DataW Unit} {w : World} (h : w.ownsMap P k R b n D) : w.ownsMap P k R b (Maps.size D) D := by
  obtain ⟨es, clock, hb, F, hs, rfl⟩ := h
  refine ⟨es, clock, hb, F, ?_, rfl⟩
  simp [Maps.size, length_sorted]
/-- only two blocks have turned, and new ones are there -/
structure G2 (a b : Nat) (w w' : World) : Prop where
  os : w'.os = w.os
  tape : w'.tape = w.tape
  output : w'.output = w.output
  size : w.heap.size ≤ w'.heap.size
  block : ∀ k, k < w.heap.size → k ≠ a → k ≠ b → w'.heap[k]? = w.heap[k]?
theorem G2.refl (a b : Nat) (w : World) : G2 a b w w := ⟨rfl, rfl, rfl, Nat.le_refl _, fun _ _ _ _ => rfl⟩
theorem G2.trans {a b : Nat} {u v w : World} (h : G2 a b u v) (k : G2 a b v w) : G2 a b u w :=
  ⟨k.os.trans h.os, k.tape.trans h.tape, k.output.trans h.output, Nat.le_trans h.size k.size, fun j hj h1 h2 => (k.block j (Nat.lt_of_lt_of_le hj h.size) h1 h2).trans (h.block j hj h1 h2)⟩
theorem G2.left {a b : Nat} {w w' : World} (h : w.grownBy w' (some a)) : G2 a b w w' := ⟨h.os, h.tape, h.output, h.size, fun k hk h1 _ => h.block k hk (fun e => h1 (by injection e))⟩
theorem G2.right {a b : Nat} {w w' : World} (h : w.grownBy w' (some b)) : G2 a b w w' := ⟨h.os, h.tape, h.output, h.size, fun k hk _ h2 => h.block k hk (fun e => h2 (by injection e))⟩
theorem G2.below {a b B : Nat} {w w' : World} (h : G2 a b w w') (ha : B ≤ a) (hb : B ≤ b) (hs : B ≤ w.heap.size) : Below B w w' := ⟨h.os, h.tape, h.output, h.size, fun k hk => h.block k (by omega) (by omega) (by omega)⟩
theorem G2.drew {a b : Nat} {w w' : World} (h : G2 a b w w') : G2 a b w w'.drew := ⟨h.os, h.tape, h.output, h.size, h.block⟩
/-- the taker in memory -/
def TkS (P : Program) (ti it : TypeId) (key most : Int) (tb bm : Nat) (ks : List Nat) (come : Nat) (w : World) : Prop :=
  w.heap[tb]? = some (.cells #[.int .i64 (keyN key come), .int .i64 (come : Int), .int .i64 most, .map (some bm)] ti (0, 0)) ∧ ∃ D : DataW Unit, w.ownsMap P it (plainElem P it) bm ks.length D ∧ KepR key ks D
theorem tk_ne {P : Program} {ti it : TypeId} {key most : Int} {tb bm : Nat} {ks : List Nat} {come : Nat} {w : World} (h : TkS P ti it key most tb bm ks come w) : bm ≠ tb := by
  obtain ⟨h1, D, ⟨es, clock, hb, _⟩, _⟩ := h
  rintro rfl
  rw [h1] at hb; cases hb
theorem TkS.drew {P : Program} {ti it : TypeId} {key most : Int} {tb bm : Nat} {ks : List Nat} {come : Nat} {w : World} (h : TkS P ti it key most tb bm ks come w) : TkS P ti it key most tb bm ks come w.drew := h
end Lw
set_option linter.unusedVariables false
set_option linter.unusedSimpArgs false
namespace Go.Proofs.Ytlgegdmnbhoepaa
open Go.RowKit
open Go.Maps
theorem lawRc : Keyed Try.prog 3 := int_keyed Try.underlying3
theorem zeroRc (w : World) : (zeroValue 3).run Try.prog w = .ok (.int .i64 0) w := by kernel_rfl
set_option maxHeartbeats 1000000 in
theorem ratchet_turn4 (k : Int) (b : Nat) (t : TypeId) (x y z : Value) (w : World) (k1 : 0 ≤ k) (k2 : k < 65536) (hb : w.heap[b]? = some (.cells #[.int .i64 k, x, y, z] t (0, 0))) :
    Calls Try.prog 74 #[.pointer (some ⟨b, 0, none⟩)] w fun e w' => e = .returned (.int .i64 (Lw.keyPart k 1)) ∧ w'.heap[b]? = some (.cells #[.int .i64 (Lw.keyPart k 2), x, y, z] t (0, 0)) ∧ w.grownBy w' (some b) := by
  have c0 := Lw.blk_cell hb 0
  have fr := fun i => Lw.blk_free hb i
  simp at c0
  have hlt := Lw.blk_lt hb
  have HB := Lib.hid hb
  clear hb
  go_enter Try.func74, Try.ntmps74
  go_wp2_with (first | (go_at_call 123; (with_reducible refine (ratchet_part k 1 _ k1 k2 (by decide) (by decide)).mono ?_); rintro e w1 ⟨rfl, hb1⟩; obtain ⟨hc1, hf1⟩ := Lw.bcell hb1; have hz1 := hb1.size; have hlt1 : b < w1.heap.size := (by omega)) | (go_at_call 123; (with_reducible refine (ratchet_part k 2 _ k1 k2 (by decide) (by decide)).mono ?_); rintro e w2 ⟨rfl, hb2⟩; obtain ⟨hc2, hf2⟩ := Lw.bcell hb2))
  go_ret
  have h2 := (hb2.block b hlt1).trans ((hb1.block b hlt).trans HB.out)
  have hB := Lw.bt hb1 hb2
  exact ⟨rfl, Lw.setfour h2, Lw.grown_set hB _⟩
abbrev TK := Lw.TkS Try.prog 109 3
theorem wf_int {n : Nat} (h : n ≤ 1048576) : (Lit.int .i64 (n : Int)).wf = true := Lw.wf64 (by omega) (by omega)
set_option maxRecDepth 100000 in
set_option maxHeartbeats 2000000 in
theorem open_kept (key most : Int) (tb bm : Nat) (ks : List Nat) (come n : Nat) (w : World) (hn : n ≤ 1048576) (h : TK key most tb bm ks come w) (h1 : n < come) (h2 : n ∈ ks) :
    Calls Try.prog 75 #[.pointer (some ⟨tb, 0, none⟩), .int .i64 (n : Int)] w fun e w' => e = .returned (.tuple #[.int .i64 (Lw.msgKey key n), .int .i64 0]) ∧ TK key most tb bm (ks.filter (fun x => x != n)) come w' ∧ Lw.G2 tb bm w w' := by
  have NE := Lw.tk_ne h
  obtain ⟨bt, D, own, K⟩ := h
  have c0 := Lw.blk_cell bt 0
  have c1 := Lw.blk_cell bt 1
  have c3 := Lw.blk_cell bt 3
  simp at c0 c1 c3
  have hl : (n : Int) < (come : Int) := by omega
  have hh := Lw.kep_has K h2
  have hat2 := Lib.hid (K.2.2.2.2 n h2)
  have KD := Lib.hid (Lw.kep_del K h2)
  have hkey : keyOf Try.prog 3 (.int .i64 (n : Int)) = some (.int .i64 (n : Int)) := keyOf_int_mk Try.underlying3 (wf_int hn)
  have BT := Lib.hid bt
  have NE := Lib.hid NE
  clear K bt
  go_enter Try.func75, Try.ntmps75
  go_wp2_with (first | (at_lookup; refine wpList_lookup_own_ok_int _ rfl _ _ 107 rfl 3 3 .i64 lawRc Try.underlying107 Try.underlying3 (zeroRc _) bm ks.length D rfl own _ _ rfl hkey ?_; intro c hat hwc; rw [hh]; obtain rfl : c = Lw.msgKey key n := (by rw [hat2.out] at hat; injection hat with hat; injection hat with _ hat; exact hat.symm); clear hat) | (at_delete; refine wpList_delete_own _ rfl _ _ 107 3 rfl 3 lawRc Try.underlying107 _ bm ks.length D rfl own _ _ rfl hkey ?_; intro w1 own1 turn1))
  go_ret2
  have own2 := Lw.own_tight own1
  rw [KD.out.2.2.1] at own2
  exact ⟨rfl, ⟨(turn1.grown.block tb (Lw.blk_lt BT.out) (fun e => NE.out (by injection e with e; exact e.symm))).trans BT.out, _, own2, KD.out⟩, Lw.G2.right turn1.grown⟩
set_option maxRecDepth 100000 in
set_option maxHeartbeats 2000000 in
theorem open_none (key most : Int) (tb bm : Nat) (ks : List Nat) (come n : Nat) (w : World) (hn : n ≤ 1048576) (h : TK key most tb bm ks come w) (h1 : n < come) (h2 : n ∉ ks) :
    Calls Try.prog 75 #[.pointer (some ⟨tb, 0, none⟩), .int .i64 (n : Int)] w fun e w' => e = .returned (.tuple #[.int .i64 0, .int .i64 5]) ∧ w = w' := by
  obtain ⟨bt, D, own, K⟩ := h
  have c0 := Lw.blk_cell bt 0
  have c1 := Lw.blk_cell bt 1
  have c3 := Lw.blk_cell bt 3
  simp at c0 c1 c3
  have hl : (n : Int) < (come : Int) := by omega
  have hh := Lw.kep_not K h2
  have hkey : keyOf Try.prog 3 (.int .i64 (n : Int)) = some (.int .i64 (n : Int)) := keyOf_int_mk Try.underlying3 (wf_int hn)
  clear K bt
  go_enter Try.func75, Try.ntmps75
  go_wp2_with (at_lookup; refine wpList_lookup_own_ok_int _ rfl _ _ 107 rfl 3 3 .i64 lawRc Try.underlying107 Try.underlying3 (zeroRc _) bm ks.length D rfl own _ _ rfl hkey ?_; intro c hat hwc; rw [hh]; clear hat)
  go_ret2
  exact ⟨rfl, rfl⟩
set_option maxRecDepth 100000 in
set_option maxHeartbeats 2000000 in
theorem open_large (key most : Int) (tb bm : Nat) (ks : List Nat) (come n : Nat) (w : World) (hn : n ≤ 1048576) (hk : ks.length ≤ 1048576) (h : TK key most tb bm ks come w) (h1 : come ≤ n) (h2 : most < (ks.length : Int) + (n : Int) - (come : Int)) :
    Calls Try.prog 75 #[.pointer (some ⟨tb, 0, none⟩), .int .i64 (n : Int)] w fun e w' => e = .returned (.tuple #[.int .i64 0, .int .i64 1]) ∧ Below w.heap.size w w' := by
  obtain ⟨bt, D, own, K⟩ := h
  have c1 := Lw.blk_cell bt 1
  have c2 := Lw.blk_cell bt 2
  have c3 := Lw.blk_cell bt 3
  simp at c1 c2 c3
  have hl : ¬ (n : Int) < (come : Int) := by omega
  have ht := Lw.blk_lt bt
  have LN := fun ty => own.drew.len (ty := ty) Try.underlying107
  rw [K.2.2.1] at LN
  have e1 : IntKind.i64.wrap ((ks.length : Int) + (n : Int)) = (ks.length : Int) + (n : Int) := by rw [IntKind.wrap_i64]; omega
  have e2 : IntKind.i64.wrap ((ks.length : Int) + (n : Int) - (come : Int)) = (ks.length : Int) + (n : Int) - (come : Int) := by rw [IntKind.wrap_i64]; omega
  clear K bt own
  go_enter Try.func75, Try.ntmps75
  go_wp2_with fail
  refine wp_region_held_drew (S := fun w' => w'.cell? ⟨tb, 1, none⟩ = some (.int .i64 (come : Int)) ∧ w'.cell? ⟨tb, 2, none⟩ = some (.int .i64 most) ∧ w'.cell? ⟨tb, 3, none⟩ = some (.map (some bm)) ∧ (∀ ty, (Builtin.len_ #[107] ty #[.map (some bm)]).run Try.prog w' = .ok (.int .i64 (ks.length : Int)) w')) (by kernel_rfl) (by exact ⟨c1, c2, c3, LN⟩) (fun hHeld => ?_)
  (refine Lw.take1 (i := 0) (v := ?_) rfl (by kernel_rfl) (by kernel_rfl) (by kernel_rfl) (fun _ _ _ h => h) (Or.inl ⟨by rfl, ?_⟩) (by assumption) ?_; rotate_left 1; (focus (intro wS hSw; obtain ⟨hS1, hS2, hS3, hS4⟩ := hSw; go_simp <;> with_reducible rfl)); (try simp only [Act.put, List.setIfInBounds_toArray, List.set_cons_zero, List.set_cons_succ]))
  (refine Lw.take1 (i := 1) (v := ?_) rfl (by kernel_rfl) (by kernel_rfl) (by kernel_rfl) (fun _ _ _ h => h) (Or.inl ⟨by rfl, ?_⟩) (by assumption) ?_; rotate_left 1; (focus (intro wS hSw; obtain ⟨hS1, hS2, hS3, hS4⟩ := hSw; go_simp <;> with_reducible rfl)); (try simp only [Act.put, List.setIfInBounds_toArray, List.set_cons_zero, List.set_cons_succ]))
  (refine Lw.take1 (i := 2) (v := ?_) rfl (by kernel_rfl) (by kernel_rfl) (by kernel_rfl) (fun _ _ _ h => h) (Or.inl ⟨by rfl, ?_⟩) (by assumption) ?_; rotate_left 1; (focus (intro wS hSw; obtain ⟨hS1, hS2, hS3, hS4⟩ := hSw; go_simp <;> with_reducible rfl)); (try simp only [Act.put, List.setIfInBounds_toArray, List.set_cons_zero, List.set_cons_succ]))
  (refine Lw.take1 (i := 3) (v := ?_) rfl (by kernel_rfl) (by kernel_rfl) (by kernel_rfl) (fun _ _ _ h => h) (Or.inl ⟨by rfl, ?_⟩) (by assumption) ?_; rotate_left 1; (focus (intro wS hSw; obtain ⟨hS1, hS2, hS3, hS4⟩ := hSw; go_simp <;> with_reducible rfl)); (try simp only [Act.put, List.setIfInBounds_toArray, List.set_cons_zero, List.set_cons_succ]))
  (refine Lw.take1 (i := 4) (v := ?_) rfl (by kernel_rfl) (by kernel_rfl) (by kernel_rfl) (fun _ _ _ h => h) (Or.inl ⟨by rfl, ?_⟩) (by assumption) ?_; rotate_left 1; (focus (intro wS hSw; obtain ⟨hS1, hS2, hS3, hS4⟩ := hSw; go_simp <;> with_reducible rfl)); (try simp only [Act.put, List.setIfInBounds_toArray, List.set_cons_zero, List.set_cons_succ]))
  (refine Lw.take1 (i := 5) (v := ?_) rfl (by kernel_rfl) (by kernel_rfl) (by kernel_rfl) (fun _ _ _ h => h) (Or.inl ⟨by rfl, ?_⟩) (by assumption) ?_; rotate_left 1; (focus (intro wS hSw; obtain ⟨hS1, hS2, hS3, hS4⟩ := hSw; go_simp <;> with_reducible rfl)); (try simp only [Act.put, List.setIfInBounds_toArray, List.set_cons_zero, List.set_cons_succ]))
  (refine Lw.take1 (i := 6) (v := ?_) rfl (by kernel_rfl) (by kernel_rfl) (by kernel_rfl) (fun _ _ _ h => h) (Or.inl ⟨by rfl, ?_⟩) (by assumption) ?_; rotate_left 1; (focus (intro wS hSw; obtain ⟨hS1, hS2, hS3, hS4⟩ := hSw; go_simp <;> with_reducible rfl)); (try simp only [Act.put, List.setIfInBounds_toArray, List.set_cons_zero, List.set_cons_succ]))
  (refine Lw.take1 (i := 7) (v := ?_) rfl (by kernel_rfl) (by kernel_rfl) (by kernel_rfl) (fun _ _ _ h => h) (Or.inl ⟨by rfl, ?_⟩) (by assumption) ?_; rotate_left 1; (focus (intro wS hSw; obtain ⟨hS1, hS2, hS3, hS4⟩ := hSw; go_simp <;> with_reducible rfl)); (try simp only [Act.put, List.setIfInBounds_toArray, List.set_cons_zero, List.set_cons_succ]))
  (refine Lw.take1 (i := 8) (v := ?_) rfl (by kernel_rfl) (by kernel_rfl) (by kernel_rfl) (fun _ _ _ h => h) (Or.inl ⟨by rfl, ?_⟩) (by assumption) ?_; rotate_left 1; (focus (intro wS hSw; obtain ⟨hS1, hS2, hS3, hS4⟩ := hSw; go_simp <;> with_reducible rfl)); (try simp only [Act.put, List.setIfInBounds_toArray, List.set_cons_zero, List.set_cons_succ]))
  (refine Lw.take1 (i := 9) (v := ?_) rfl (by kernel_rfl) (by kernel_rfl) (by kernel_rfl) (fun _ _ _ h => h) (Or.inl ⟨by rfl, ?_⟩) (by assumption) ?_; rotate_left 1; (focus (intro wS hSw; obtain ⟨hS1, hS2, hS3, hS4⟩ := hSw; go_simp <;> with_reducible rfl)); (try simp only [Act.put, List.setIfInBounds_toArray, List.set_cons_zero, List.set_cons_succ]))
  (refine Lw.take1 (i := 10) (v := ?_) rfl (by kernel_rfl) (by kernel_rfl) (by kernel_rfl) (fun _ _ _ h => h) (Or.inl ⟨by rfl, ?_⟩) (by assumption) ?_; rotate_left 1; (focus (intro wS hSw; obtain ⟨hS1, hS2, hS3, hS4⟩ := hSw; go_simp <;> with_reducible rfl)); (try simp only [Act.put, List.setIfInBounds_toArray, List.set_cons_zero, List.set_cons_succ]))
  (refine Lw.take1 (i := 11) (v := ?_) rfl (by kernel_rfl) (by kernel_rfl) (by kernel_rfl) (fun _ _ _ h => h) (Or.inl ⟨by rfl, ?_⟩) (by assumption) ?_; rotate_left 1; (focus (intro wS hSw; obtain ⟨hS1, hS2, hS3, hS4⟩ := hSw; go_simp <;> with_reducible rfl)); (try simp only [Act.put, List.setIfInBounds_toArray, List.set_cons_zero, List.set_cons_succ]))
  (refine Lw.take1 (i := 12) (v := ?_) rfl (by kernel_rfl) (by kernel_rfl) (by kernel_rfl) (fun _ _ _ h => h) (Or.inl ⟨by rfl, ?_⟩) (by assumption) ?_; rotate_left 1; (focus (intro wS hSw; obtain ⟨hS1, hS2, hS3, hS4⟩ := hSw; go_simp <;> with_reducible rfl)); (try simp only [Act.put, List.setIfInBounds_toArray, List.set_cons_zero, List.set_cons_succ]))
  (refine Lw.take1 (i := 13) (v := ?_) rfl (by kernel_rfl) (by kernel_rfl) (by kernel_rfl) (fun _ _ _ h => h) (Or.inl ⟨by rfl, ?_⟩) (by assumption) ?_; rotate_left 1; (focus (intro wS hSw; obtain ⟨hS1, hS2, hS3, hS4⟩ := hSw; go_simp <;> with_reducible rfl)); (try simp only [Act.put, List.setIfInBounds_toArray, List.set_cons_zero, List.set_cons_succ]))
  (refine Lw.take1 (i := 14) (v := ?_) rfl (by kernel_rfl) (by kernel_rfl) (by kernel_rfl) (fun _ _ _ h => h) (Or.inl ⟨by rfl, ?_⟩) (by assumption) ?_; rotate_left 1; (focus (intro wS hSw; obtain ⟨hS1, hS2, hS3, hS4⟩ := hSw; go_simp <;> with_reducible rfl)); (try simp only [Act.put, List.setIfInBounds_toArray, List.set_cons_zero, List.set_cons_succ]))
  (refine Lw.take1 (i := 15) (v := ?_) rfl (by kernel_rfl) (by kernel_rfl) (by kernel_rfl) (fun _ _ _ h => h) (Or.inl ⟨by rfl, ?_⟩) (by assumption) ?_; rotate_left 1; (focus (intro wS hSw; obtain ⟨hS1, hS2, hS3, hS4⟩ := hSw; go_simp <;> with_reducible rfl)); (try simp only [Act.put, List.setIfInBounds_toArray, List.set_cons_zero, List.set_cons_succ]))
  (refine Lw.take1 (i := 16) (v := ?_) rfl (by kernel_rfl) (by kernel_rfl) (by kernel_rfl) (fun _ _ _ h => h) (Or.inl ⟨by rfl, ?_⟩) (by assumption) ?_; rotate_left 1; (focus (intro wS hSw; obtain ⟨hS1, hS2, hS3, hS4⟩ := hSw; go_simp <;> with_reducible rfl)); (try simp only [Act.put, List.setIfInBounds_toArray, List.set_cons_zero, List.set_cons_succ]))
  refine wpAnyH_done (by kernel_rfl) ?_ _
  go_wp2
  go_ret2
  exact ⟨rfl, Below.drew (Below.refl _ _)⟩
set_option maxRecDepth 100000 in
set_option maxHeartbeats 4000000 in
theorem open_take (key most : Int) (tb bm : Nat) (ks : List Nat) (come n : Nat) (w : World) (k1 : 0 ≤ key) (k2 : key < 65536) (hn : n ≤ 1048576) (hk : ks.length ≤ 1048576) (h : TK key most tb bm ks come w) (hlt : ∀ k ∈ ks, k < come) (h1 : come ≤ n) (h2 : ¬ most < (ks.length : Int) + (n : Int) - (come : Int)) :
    Calls Try.prog 75 #[.pointer (some ⟨tb, 0, none⟩), .int .i64 (n : Int)] w fun e w' => e = .returned (.tuple #[.int .i64 (Lw.msgKey key n), .int .i64 0]) ∧ TK key most tb bm (Lw.upTo ks come (n - come)) (n + 1) w' ∧ Lw.G2 tb bm w w' := by
  have HTK := Lib.hid h
  have NE := Lib.hid (Lw.tk_ne h)
  obtain ⟨bt, D, own, K⟩ := h
  have c1 := Lw.blk_cell bt 1
  have c2 := Lw.blk_cell bt 2
  have c3 := Lw.blk_cell bt 3
  simp at c1 c2 c3
  have hl : ¬ (n : Int) < (come : Int) := by omega
  have ht := Lw.blk_lt bt
  have LN := fun ty => own.drew.len (ty := ty) Try.underlying107
  rw [K.2.2.1] at LN
  have e1 : IntKind.i64.wrap ((ks.length : Int) + (n : Int)) = (ks.length : Int) + (n : Int) := by rw [IntKind.wrap_i64]; omega
  have e2 : IntKind.i64.wrap ((ks.length : Int) + (n : Int) - (come : Int)) = (ks.length : Int) + (n : Int) - (come : Int) := by rw [IntKind.wrap_i64]; omega
  have HLT := Lib.hid hlt
  clear K bt own hlt
  go_enter Try.func75, Try.ntmps75
  go_wp2_with fail
  refine wp_region_held_drew (S := fun w' => w'.cell? ⟨tb, 1, none⟩ = some (.int .i64 (come : Int)) ∧ w'.cell? ⟨tb, 2, none⟩ = some (.int .i64 most) ∧ w'.cell? ⟨tb, 3, none⟩ = some (.map (some bm)) ∧ (∀ ty, (Builtin.len_ #[107] ty #[.map (some bm)]).run Try.prog w' = .ok (.int .i64 (ks.length : Int)) w')) (by kernel_rfl) (by exact ⟨c1, c2, c3, LN⟩) (fun hHeld => ?_)
  (refine Lw.take1 (i := 0) (v := ?_) rfl (by kernel_rfl) (by kernel_rfl) (by kernel_rfl) (fun _ _ _ h => h) (Or.inl ⟨by rfl, ?_⟩) (by assumption) ?_; rotate_left 1; (focus (intro wS hSw; obtain ⟨hS1, hS2, hS3, hS4⟩ := hSw; go_simp <;> with_reducible rfl)); (try simp only [Act.put, List.setIfInBounds_toArray, List.set_cons_zero, List.set_cons_succ]))
  (refine Lw.take1 (i := 1) (v := ?_) rfl (by kernel_rfl) (by kernel_rfl) (by kernel_rfl) (fun _ _ _ h => h) (Or.inl ⟨by rfl, ?_⟩) (by assumption) ?_; rotate_left 1; (focus (intro wS hSw; obtain ⟨hS1, hS2, hS3, hS4⟩ := hSw; go_simp <;> with_reducible rfl)); (try simp only [Act.put, List.setIfInBounds_toArray, List.set_cons_zero, List.set_cons_succ]))
  (refine Lw.take1 (i := 2) (v := ?_) rfl (by kernel_rfl) (by kernel_rfl) (by kernel_rfl) (fun _ _ _ h => h) (Or.inl ⟨by rfl, ?_⟩) (by assumption) ?_; rotate_left 1; (focus (intro wS hSw; obtain ⟨hS1, hS2, hS3, hS4⟩ := hSw; go_simp <;> with_reducible rfl)); (try simp only [Act.put, List.setIfInBounds_toArray, List.set_cons_zero, List.set_cons_succ]))
  (refine Lw.take1 (i := 3) (v := ?_) rfl (by kernel_rfl) (by kernel_rfl) (by kernel_rfl) (fun _ _ _ h => h) (Or.inl ⟨by rfl, ?_⟩) (by assumption) ?_; rotate_left 1; (focus (intro wS hSw; obtain ⟨hS1, hS2, hS3, hS4⟩ := hSw; go_simp <;> with_reducible rfl)); (try simp only [Act.put, List.setIfInBounds_toArray, List.set_cons_zero, List.set_cons_succ]))
  (refine Lw.take1 (i := 4) (v := ?_) rfl (by kernel_rfl) (by kernel_rfl) (by kernel_rfl) (fun _ _ _ h => h) (Or.inl ⟨by rfl, ?_⟩) (by assumption) ?_; rotate_left 1; (focus (intro wS hSw; obtain ⟨hS1, hS2, hS3, hS4⟩ := hSw; go_simp <;> with_reducible rfl)); (try simp only [Act.put, List.setIfInBounds_toArray, List.set_cons_zero, List.set_cons_succ]))
  (refine Lw.take1 (i := 5) (v := ?_) rfl (by kernel_rfl) (by kernel_rfl) (by kernel_rfl) (fun _ _ _ h => h) (Or.inl ⟨by rfl, ?_⟩) (by assumption) ?_; rotate_left 1; (focus (intro wS hSw; obtain ⟨hS1, hS2, hS3, hS4⟩ := hSw; go_simp <;> with_reducible rfl)); (try simp only [Act.put, List.setIfInBounds_toArray, List.set_cons_zero, List.set_cons_succ]))
  (refine Lw.take1 (i := 6) (v := ?_) rfl (by kernel_rfl) (by kernel_rfl) (by kernel_rfl) (fun _ _ _ h => h) (Or.inl ⟨by rfl, ?_⟩) (by assumption) ?_; rotate_left 1; (focus (intro wS hSw; obtain ⟨hS1, hS2, hS3, hS4⟩ := hSw; go_simp <;> with_reducible rfl)); (try simp only [Act.put, List.setIfInBounds_toArray, List.set_cons_zero, List.set_cons_succ]))
  (refine Lw.take1 (i := 7) (v := ?_) rfl (by kernel_rfl) (by kernel_rfl) (by kernel_rfl) (fun _ _ _ h => h) (Or.inl ⟨by rfl, ?_⟩) (by assumption) ?_; rotate_left 1; (focus (intro wS hSw; obtain ⟨hS1, hS2, hS3, hS4⟩ := hSw; go_simp <;> with_reducible rfl)); (try simp only [Act.put, List.setIfInBounds_toArray, List.set_cons_zero, List.set_cons_succ]))
  (refine Lw.take1 (i := 8) (v := ?_) rfl (by kernel_rfl) (by kernel_rfl) (by kernel_rfl) (fun _ _ _ h => h) (Or.inl ⟨by rfl, ?_⟩) (by assumption) ?_; rotate_left 1; (focus (intro wS hSw; obtain ⟨hS1, hS2, hS3, hS4⟩ := hSw; go_simp <;> with_reducible rfl)); (try simp only [Act.put, List.setIfInBounds_toArray, List.set_cons_zero, List.set_cons_succ]))
  (refine Lw.take1 (i := 9) (v := ?_) rfl (by kernel_rfl) (by kernel_rfl) (by kernel_rfl) (fun _ _ _ h => h) (Or.inl ⟨by rfl, ?_⟩) (by assumption) ?_; rotate_left 1; (focus (intro wS hSw; obtain ⟨hS1, hS2, hS3, hS4⟩ := hSw; go_simp <;> with_reducible rfl)); (try simp only [Act.put, List.setIfInBounds_toArray, List.set_cons_zero, List.set_cons_succ]))
  (refine Lw.take1 (i := 10) (v := ?_) rfl (by kernel_rfl) (by kernel_rfl) (by kernel_rfl) (fun _ _ _ h => h) (Or.inl ⟨by rfl, ?_⟩) (by assumption) ?_; rotate_left 1; (focus (intro wS hSw; obtain ⟨hS1, hS2, hS3, hS4⟩ := hSw; go_simp <;> with_reducible rfl)); (try simp only [Act.put, List.setIfInBounds_toArray, List.set_cons_zero, List.set_cons_succ]))
  (refine Lw.take1 (i := 11) (v := ?_) rfl (by kernel_rfl) (by kernel_rfl) (by kernel_rfl) (fun _ _ _ h => h) (Or.inl ⟨by rfl, ?_⟩) (by assumption) ?_; rotate_left 1; (focus (intro wS hSw; obtain ⟨hS1, hS2, hS3, hS4⟩ := hSw; go_simp <;> with_reducible rfl)); (try simp only [Act.put, List.setIfInBounds_toArray, List.set_cons_zero, List.set_cons_succ]))
  (refine Lw.take1 (i := 12) (v := ?_) rfl (by kernel_rfl) (by kernel_rfl) (by kernel_rfl) (fun _ _ _ h => h) (Or.inl ⟨by rfl, ?_⟩) (by assumption) ?_; rotate_left 1; (focus (intro wS hSw; obtain ⟨hS1, hS2, hS3, hS4⟩ := hSw; go_simp <;> with_reducible rfl)); (try simp only [Act.put, List.setIfInBounds_toArray, List.set_cons_zero, List.set_cons_succ]))
  (refine Lw.take1 (i := 13) (v := ?_) rfl (by kernel_rfl) (by kernel_rfl) (by kernel_rfl) (fun _ _ _ h => h) (Or.inl ⟨by rfl, ?_⟩) (by assumption) ?_; rotate_left 1; (focus (intro wS hSw; obtain ⟨hS1, hS2, hS3, hS4⟩ := hSw; go_simp <;> with_reducible rfl)); (try simp only [Act.put, List.setIfInBounds_toArray, List.set_cons_zero, List.set_cons_succ]))
  (refine Lw.take1 (i := 14) (v := ?_) rfl (by kernel_rfl) (by kernel_rfl) (by kernel_rfl) (fun _ _ _ h => h) (Or.inl ⟨by rfl, ?_⟩) (by assumption) ?_; rotate_left 1; (focus (intro wS hSw; obtain ⟨hS1, hS2, hS3, hS4⟩ := hSw; go_simp <;> with_reducible rfl)); (try simp only [Act.put, List.setIfInBounds_toArray, List.set_cons_zero, List.set_cons_succ]))
  (refine Lw.take1 (i := 15) (v := ?_) rfl (by kernel_rfl) (by kernel_rfl) (by kernel_rfl) (fun _ _ _ h => h) (Or.inl ⟨by rfl, ?_⟩) (by assumption) ?_; rotate_left 1; (focus (intro wS hSw; obtain ⟨hS1, hS2, hS3, hS4⟩ := hSw; go_simp <;> with_reducible rfl)); (try simp only [Act.put, List.setIfInBounds_toArray, List.set_cons_zero, List.set_cons_succ]))
  (refine Lw.take1 (i := 16) (v := ?_) rfl (by kernel_rfl) (by kernel_rfl) (by kernel_rfl) (fun _ _ _ h => h) (Or.inl ⟨by rfl, ?_⟩) (by assumption) ?_; rotate_left 1; (focus (intro wS hSw; obtain ⟨hS1, hS2, hS3, hS4⟩ := hSw; go_simp <;> with_reducible rfl)); (try simp only [Act.put, List.setIfInBounds_toArray, List.set_cons_zero, List.set_cons_succ]))
  refine wpAnyH_done (by kernel_rfl) ?_ _
  clear hHeld LN e1 e2 c1 c2 c3
  go_wp2
  go_loopw [48] (fun _ wr => ∃ j : Nat, come ≤ j ∧ j ≤ n ∧ Hid (TK key most tb bm (Lw.upTo ks come (j - come)) j wr) ∧ Lw.G2 tb bm w wr) (fun _ wr => n - (intOf ((wr.cell? ⟨tb, 1, none⟩).getD undef)).toNat)
  case atStart => exact ⟨come, Nat.le_refl _, h1, by rw [Nat.sub_self]; exact HTK.out.drew, (Lw.G2.refl _ _ _).drew⟩
  case round =>
    obtain ⟨j, j1, j2, T, hG⟩ := hrel
    obtain ⟨bt, D, own, K⟩ := T.out
    have c1 := Lw.blk_cell bt 1
    have c3 := Lw.blk_cell bt 3
    simp at c1 c3
    obtain ⟨kb1, kb2⟩ := Lw.keyN_bd k1 k2 j
    have EK : Hid (Lw.keyPart (Lw.keyN key j) 2 = Lw.keyN key (j + 1)) := rfl
    have EM : Hid (Lw.keyPart (Lw.keyN key j) 1 = Lw.msgKey key j) := rfl
    have ht' := Lw.blk_lt bt
    by_cases hlt : j < n
    · have hlt' : (j : Int) < (n : Int) := by omega
      have hul := Lw.upTo_length ks come (j - come)
      have hnot : j ∉ Lw.upTo ks come (j - come) := fun hm => by have := Lw.upTo_lt HLT.out _ j hm; omega
      have KP := Lib.hid (Lw.kep_put K hnot (by first | exact WideAt.IsKeyLit.int | trivial | simp [WideAt.IsKeyLit] | constructor))
      have hkey : keyOf Try.prog 3 (.int .i64 (j : Int)) = some (.int .i64 (j : Int)) := keyOf_int_mk Try.underlying3 (wf_int (by omega))
      obtain ⟨m0, m1⟩ := Lw.msgKey_bd key j
      have hval : plainElem (H := Unit) Try.prog 3 (.int .i64 (Lw.msgKey key j)) = some (.lit (.int .i64 (Lw.msgKey key j)), []) := plainElem_int Try.underlying3 (Lw.wf64 m0 (by omega))
      have UT : Hid (Lw.upTo ks come (j + 1 - come) = Lw.upTo ks come (j - come) ++ [j]) := by
        rw [show j + 1 - come = (j - come) + 1 by omega]
        show _ ++ [come + (j - come)] = _
        rw [show come + (j - come) = j by omega]
      have T4 := Lib.hid (fun W h => ratchet_turn4 (Lw.keyN key j) tb 109 (.int .i64 (j : Int)) (.int .i64 most) (.map (some bm)) W kb1 kb2 h)
      rw [EM.out, EK.out] at T4
      have BT := Lib.hid bt
      have OWN := Lib.hid own
      generalize Lw.msgKey key j = mk at *
      generalize Lw.upTo ks come (j - come) = us at *
      clear K bt own hnot EK EM
      go_wp2_with fail
      refine wp_region_held_drew (S := fun w' => w'.cell? ⟨tb, 1, none⟩ = some (.int .i64 (j : Int)) ∧ w'.cell? ⟨tb, 3, none⟩ = some (.map (some bm)) ∧ True ∧ True) (by kernel_rfl) (by exact ⟨c1, c3, trivial, trivial⟩) (fun hHeld => ?_)
      (refine Lw.take1 (i := 0) (v := ?_) rfl (by kernel_rfl) (by kernel_rfl) (by kernel_rfl) (fun _ _ _ h => h) (Or.inl ⟨by rfl, ?_⟩) (by assumption) ?_; rotate_left 1; (focus (intro wS hSw; obtain ⟨hS1, hS2, hS3, hS4⟩ := hSw; go_simp <;> with_reducible rfl)); (try simp only [Act.put, List.setIfInBounds_toArray, List.set_cons_zero, List.set_cons_succ]))
      (refine Lw.take1 (i := 1) (v := ?_) rfl (by kernel_rfl) (by kernel_rfl) (by kernel_rfl) (fun _ _ _ h => h) (Or.inl ⟨by rfl, ?_⟩) (by assumption) ?_; rotate_left 1; (focus (intro wS hSw; obtain ⟨hS1, hS2, hS3, hS4⟩ := hSw; go_simp <;> with_reducible rfl)); (try simp only [Act.put, List.setIfInBounds_toArray, List.set_cons_zero, List.set_cons_succ]))
      (refine Lw.take1 (i := 2) (v := ?_) rfl (by kernel_rfl) (by kernel_rfl) (by kernel_rfl) (fun _ _ _ h => h) (Or.inl ⟨by rfl, ?_⟩) (by assumption) ?_; rotate_left 1; (focus (intro wS hSw; obtain ⟨hS1, hS2, hS3, hS4⟩ := hSw; go_simp <;> with_reducible rfl)); (try simp only [Act.put, List.setIfInBounds_toArray, List.set_cons_zero, List.set_cons_succ]))
      (refine Lw.take1 (i := 3) (v := ?_) rfl (by kernel_rfl) (by kernel_rfl) (by kernel_rfl) (fun _ _ _ h => h) (Or.inl ⟨by rfl, ?_⟩) (by assumption) ?_; rotate_left 1; (focus (intro wS hSw; obtain ⟨hS1, hS2, hS3, hS4⟩ := hSw; go_simp <;> with_reducible rfl)); (try simp only [Act.put, List.setIfInBounds_toArray, List.set_cons_zero, List.set_cons_succ]))
      (refine Lw.take1 (i := 4) (v := ?_) rfl (by kernel_rfl) (by kernel_rfl) (by kernel_rfl) (fun _ _ _ h => h) (Or.inl ⟨by rfl, ?_⟩) (by assumption) ?_; rotate_left 1; (focus (intro wS hSw; obtain ⟨hS1, hS2, hS3, hS4⟩ := hSw; go_simp <;> with_reducible rfl)); (try simp only [Act.put, List.setIfInBounds_toArray, List.set_cons_zero, List.set_cons_succ]))
      (refine Lw.take1 (i := 5) (v := ?_) rfl (by kernel_rfl) (by kernel_rfl) (by kernel_rfl) (fun _ _ _ h => h) (Or.inl ⟨by rfl, ?_⟩) (by assumption) ?_; rotate_left 1; (focus (intro wS hSw; obtain ⟨hS1, hS2, hS3, hS4⟩ := hSw; go_simp <;> with_reducible rfl)); (try simp only [Act.put, List.setIfInBounds_toArray, List.set_cons_zero, List.set_cons_succ]))
      (refine Lw.take1 (i := 6) (v := ?_) rfl (by kernel_rfl) (by kernel_rfl) (by kernel_rfl) (fun _ _ _ h => h) (Or.inl ⟨by rfl, ?_⟩) (by assumption) ?_; rotate_left 1; (focus (intro wS hSw; obtain ⟨hS1, hS2, hS3, hS4⟩ := hSw; go_simp <;> with_reducible rfl)); (try simp only [Act.put, List.setIfInBounds_toArray, List.set_cons_zero, List.set_cons_succ]))
      (refine Lw.take1 (i := 7) (v := ?_) rfl (by kernel_rfl) (by kernel_rfl) (by kernel_rfl) (fun _ _ _ h => h) (Or.inl ⟨by rfl, ?_⟩) (by assumption) ?_; rotate_left 1; (focus (intro wS hSw; obtain ⟨hS1, hS2, hS3, hS4⟩ := hSw; go_simp <;> with_reducible rfl)); (try simp only [Act.put, List.setIfInBounds_toArray, List.set_cons_zero, List.set_cons_succ]))
      (refine Lw.take1 (i := 8) (v := ?_) rfl (by kernel_rfl) (by kernel_rfl) (by kernel_rfl) (fun _ _ _ h => h) (Or.inl ⟨by rfl, ?_⟩) (by assumption) ?_; rotate_left 1; (focus (intro wS hSw; obtain ⟨hS1, hS2, hS3, hS4⟩ := hSw; go_simp <;> with_reducible rfl)); (try simp only [Act.put, List.setIfInBounds_toArray, List.set_cons_zero, List.set_cons_succ]))
      (refine Lw.take1 (i := 9) (v := ?_) rfl (by kernel_rfl) (by kernel_rfl) (by kernel_rfl) (fun _ _ _ h => h) (Or.inl ⟨by rfl, ?_⟩) (by assumption) ?_; rotate_left 1; (focus (intro wS hSw; obtain ⟨hS1, hS2, hS3, hS4⟩ := hSw; go_simp <;> with_reducible rfl)); (try simp only [Act.put, List.setIfInBounds_toArray, List.set_cons_zero, List.set_cons_succ]))
      (refine Lw.take1 (i := 10) (v := ?_) rfl (by kernel_rfl) (by kernel_rfl) (by kernel_rfl) (fun _ _ _ h => h) (Or.inl ⟨by rfl, ?_⟩) (by assumption) ?_; rotate_left 1; (focus (intro wS hSw; obtain ⟨hS1, hS2, hS3, hS4⟩ := hSw; go_simp <;> with_reducible rfl)); (try simp only [Act.put, List.setIfInBounds_toArray, List.set_cons_zero, List.set_cons_succ]))
      have S4 : ∀ W' : World, (∃ x : Value, W'.heap[tb]? = some (.cells #[x, .int .i64 (j : Int), .int .i64 most, .map (some bm)] 109 (0, 0))) → W'.cell? ⟨tb, 1, none⟩ = some (.int .i64 (j : Int)) ∧ W'.cell? ⟨tb, 3, none⟩ = some (.map (some bm)) ∧ True ∧ True := by
        rintro W' ⟨x, hx⟩
        have d1 := Lw.blk_cell hx 1
        have d3 := Lw.blk_cell hx 3
        simp at d1 d3
        exact ⟨d1, d3, trivial, trivial⟩
      (refine wpAnyH_ready (rs := [11]) (by kernel_rfl) (by simp) ?_; refine Lw.cons1 (i := 11) rfl (fun K hK => ?_) AllReadyH.nil; go_simp; go_at_call 74; (with_reducible refine (T4.out wr.drew (Lw.blk_drew BT.out)).mono ?_); rintro e w1 ⟨rfl, bt1, g1⟩; refine hK.out _ _ ?_ (fun hHeld => ?_); (focus exact S4 _ ⟨_, bt1⟩); clear hK K; (try simp only [Act.put, List.setIfInBounds_toArray, List.set_cons_zero, List.set_cons_succ]))
      have own1 := OWN.out.drew.kept g1 (fun e => NE.out (by injection e))
      obtain ⟨w2, hrun, own2, g2⟩ := own1.update lawRc Try.underlying107 (by unfold maxLen; omega) hkey hval
      have bt2 := (g2.block tb (Lw.blk_lt bt1) (fun e => NE.out (by injection e with e; exact e.symm))).trans bt1
      (refine wpAnyH_ready (rs := [12]) (by kernel_rfl) (by simp) ?_; refine Lw.cons1 (i := 12) rfl (fun K hK => ?_) AllReadyH.nil; go_simp; refine hK.out _ _ ?_ (fun hHeld => ?_); (focus exact S4 _ ⟨_, bt2⟩); clear hK K; (try simp only [Act.put, List.setIfInBounds_toArray, List.set_cons_zero, List.set_cons_succ]))
      refine wpAnyH_done (by kernel_rfl) ?_ _
      have d1 := Lw.blk_cell bt2 1
      have f1 := Lw.blk_free bt2 1
      simp at d1
      have C1 := Lib.hid c1
      clear hHeld c1 c3 hrun
      go_wp2
      have own2 := Lw.own_tight own2
      rw [KP.out.2.2.1] at own2
      have bt3 := Lw.setfour1 (u := .int .i64 ((j : Int) + 1)) bt2
      have g3 : w2.grownBy (w2.setCell ⟨tb, 1, none⟩ (.int .i64 ((j : Int) + 1))) (some tb) := Lw.grown_set (Below.refl _ _) _
      refine ⟨⟨j + 1, by omega, by omega, ?_, ((((hG.drew).trans (Lw.G2.left g1)).trans (Lw.G2.right g2)).trans (Lw.G2.left g3))⟩, ?_⟩
      · rw [UT.out]
        exact ⟨bt3, _, own2.kept g3 (fun e => NE.out (by injection e)), KP.out⟩
      · have q1 := Lw.blk_cell bt3 1
        simp at q1
        rw [q1, C1.out]
        simp [intOf]
        omega
    · have hlt' : ¬ (j : Int) < (n : Int) := by omega
      obtain rfl : j = n := by omega
      have T4 := Lib.hid (fun W h => ratchet_turn4 (Lw.keyN key j) tb 109 (.int .i64 ((j : Int) + 1)) (.int .i64 most) (.map (some bm)) W kb1 kb2 h)
      rw [EM.out, EK.out] at T4
      have BT := Lib.hid bt
      have OWN := Lib.hid own
      have f1 := Lw.blk_free bt 1
      have KK := Lib.hid K
      have bt3 := Lw.setfour1 (u := .int .i64 ((j : Int) + 1)) BT.out
      have g3 : wr.grownBy (wr.setCell ⟨tb, 1, none⟩ (.int .i64 ((j : Int) + 1))) (some tb) := Lw.grown_set (Below.refl _ _) _
      have BT3 := Lib.hid bt3
      clear bt own K bt3 EM EK
      go_wp2_with (go_at_call 74; (with_reducible refine (T4.out _ BT3.out).mono ?_); rintro e w2 ⟨rfl, bt4, g4⟩)
      go_ret2
      exact ⟨rfl, ⟨bt4, _, (OWN.out.kept g3 (fun e => NE.out (by injection e))).kept g4 (fun e => NE.out (by injection e)), KK.out⟩, (hG.trans (Lw.G2.left g3)).trans (Lw.G2.left g4)⟩
end Go.Proofs.Ytlgegdmnbhoepaa
