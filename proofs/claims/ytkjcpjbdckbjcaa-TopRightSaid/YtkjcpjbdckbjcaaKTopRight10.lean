/- Package relay: a cell sent to the last relay. -/
import Derived.Test.YtkjcpjbdckbjcaaKTopRight9
import Derived.Test.YtkjcpjbdckbjcaaKTopRight3
namespace Lw
open Go Go.RowKit
abbrev Ky := { k : Int // 0 ≤ k ∧ k < 65536 }
def kys (ks : List Int) (h : ∀ k ∈ ks, 0 ≤ k ∧ k < 65536) : List Ky := ks.pmap (fun k h => ⟨k, h⟩) h
theorem kys_map (ks : List Int) (h) : (kys ks h).map (fun k => k.1) = ks := by unfold kys; rw [List.map_pmap]; simp
theorem kys_len (ks : List Int) (h) : (kys ks h).length = ks.length := by unfold kys; simp
theorem kys_get {ks : List Int} {h} {i : Nat} (hi : i < ks.length) : ((kys ks h)[i]'(by rw [kys_len]; exact hi)).1 = ks[i] := by unfold kys; simp
def thF (count : Int) (cell : List Int) (pre : List (Nat × Ky)) : List Int := pre.foldl (fun x p => layL p.2.1 count x) cell
theorem thF_snoc (count : Int) (cell : List Int) (pre : List (Nat × Ky)) (x : Nat × Ky) : thF count cell (pre ++ [x]) = layL x.2.1 count (thF count cell pre) := by unfold thF; rw [List.foldl_append]; rfl
theorem thF_byt (count : Int) : ∀ (pre : List (Nat × Ky)) {cell : List Int}, Byt cell → Byt (thF count cell pre)
  | [], _, h => h
  | x :: pre, _, h => thF_byt count pre (layL_byt h)
theorem thF_bks (count : Int) (cell : List Int) (ks : List Int) (h) : ∀ (d m : Nat), m + d = ks.length → thF count cell (bks (kys ks h) m) = layA count (ks.drop m) cell
  | 0, m, e => by
    obtain rfl : m = ks.length := by omega
    rw [show ks.length = (kys ks h).length from (kys_len ks h).symm, bks_top, kys_len, List.drop_length]; rfl
  | d + 1, m, e => by
    have hm : m < ks.length := by omega
    rw [bks_succ (by rw [kys_len]; exact hm), thF_snoc, thF_bks count cell ks h d (m + 1) (by omega), List.drop_eq_getElem_cons hm, kys_get hm]; rfl
def hoF (count link : Int) (a : Nat) (t : Int) (cell : List Int) (pre : List (Nat × Ky)) : List Int := pre.foldl (fun x p => turnI (decide (link = (p.1 : Int))) a t (layL p.2.1 count x)) cell
theorem hoF_snoc (count link : Int) (a : Nat) (t : Int) (cell : List Int) (pre : List (Nat × Ky)) (x : Nat × Ky) : hoF count link a t cell (pre ++ [x]) = turnI (decide (link = (x.1 : Int))) a t (layL x.2.1 count (hoF count link a t cell pre)) := by unfold hoF; rw [List.foldl_append]; rfl
theorem hoF_byt (count link : Int) (a : Nat) {t : Int} (t0 : 0 ≤ t) (t1 : t < 256) : ∀ (pre : List (Nat × Ky)) {cell : List Int}, Byt cell → Byt (hoF count link a t cell pre)
  | [], _, h => h
  | x :: pre, _, h => hoF_byt count link a t0 t1 pre (turnI_byt (layL_byt h) t0 t1)
theorem hoF_bks (count link : Int) (a : Nat) (t : Int) (cell : List Int) (ks : List Int) (h) (hl : link < (ks.length : Int)) : ∀ (d m : Nat), m + d = ks.length → hoF count link a t cell (bks (kys ks h) m) = homeS ks count link a t cell m
  | 0, m, e => by
    obtain rfl : m = ks.length := by omega
    rw [home_zero hl, show ks.length = (kys ks h).length from (kys_len ks h).symm, bks_top]; rfl
  | d + 1, m, e => by
    have hm : m < ks.length := by omega
    rw [bks_succ (by rw [kys_len]; exact hm), hoF_snoc, hoF_bks count link a t cell ks h hl d (m + 1) (by omega), kys_get hm]
    exact home_step hm
/-- the same, and no panic -/
def NoP (Q : Exit → Act → World → Prop) : Exit → Act → World → Prop
  | .panic _, _, _ => False
  | e, a, w => Q e a w
theorem wp_nop {P : Program} {c : Code} {Q : Exit → Act → World → Prop} {a : Act} {w : World} (h : c.wp P (NoP Q) a w) : c.wp P Q a w :=
  wp_mono h (fun e a w hq => by cases e <;> first | exact hq | exact (show False from hq).elim)
theorem at_world {P : Program} {c : Code} {Q : Exit → Act → World → Prop} {a : Act} {w : World} (h : ∀ W, Hid (W = w) → c.wp P Q a W) : c.wp P Q a w := h w rfl
/-- below B only one block has turned -/
structure BT (B b : Nat) (w w' : World) : Prop where
  os : w'.os = w.os
  tape : w'.tape = w.tape
  output : w'.output = w.output
  size : w.heap.size ≤ w'.heap.size
  block : ∀ k, k < B → k ≠ b → w'.heap[k]? = w.heap[k]?
theorem BT.of {B b : Nat} {w w' : World} (h : Tn b w w') (hB : B ≤ w.heap.size) : BT B b w w' := ⟨h.os, h.tape, h.output, h.size, fun k hk h1 => h.block k (by omega) h1⟩
theorem BT.of' {B b g : Nat} {w w' : World} (h : Tn g w w') (hg : B ≤ g) (hB : B ≤ w.heap.size) : BT B b w w' := ⟨h.os, h.tape, h.output, h.size, fun k hk _ => h.block k (by omega) (by omega)⟩
theorem BT.trans {B b : Nat} {u v w : World} (h : BT B b u v) (k : BT B b v w) : BT B b u w :=
  ⟨k.os.trans h.os, k.tape.trans h.tape, k.output.trans h.output, Nat.le_trans h.size k.size, fun j hj h1 => (k.block j hj h1).trans (h.block j hj h1)⟩
theorem BT.drew {B b : Nat} {w w' : World} (h : BT B b w w') : BT B b w w'.drew := ⟨h.os, h.tape, h.output, h.size, h.block⟩
theorem own_ne {base e s n : Nat} {w : World} {v : Value} {xs : List Value} (h : w.ownsRow base e s v n xs) {k : Nat} {o : Obj} (hk : w.heap[k]? = some o) (ho : o.isCells = false) : v.ownBlock ≠ some k := by
  intro ek
  rcases h.2 with ⟨h0, _⟩ | ⟨g, cap, cur, hu, hbg, hh, _⟩
  · subst h0; cases ek
  · subst hu
    have : g = k := by injection ek
    subst this
    rw [hk] at hh; injection hh with hh; subst hh; cases ho
theorem Rd.tn {b sz n : Nat} {A : Option Addr} {xs : List Value} {w w' : World} (R : Rd w sz A n xs) (T : Tn b w w') (hA : 0 < n → ∀ ad, A = some ad → ad.block ≠ b) : Rd w' sz A n xs :=
  ⟨R.1, fun h0 => by
    obtain ⟨ad, e, hb, hc⟩ := R.2 h0
    exact ⟨ad, e, Nat.lt_of_lt_of_le hb T.size, fun j u hu => (cell_of_blk _ (T.block _ (by rw [add_block]; exact hb) (by rw [add_block]; exact hA h0 ad e))).trans (hc j u hu)⟩⟩
theorem last_get {ks : List Int} {m : Nat} (h : ks.length = m + 1) : ks.getLastD 0 = ks[m]'(by omega) := by
  have e : ks.length - 1 = m := by omega
  rw [List.getLastD_eq_getLast?, List.getLast?_eq_getElem?, e, List.getElem?_eq_getElem (by omega)]; rfl
theorem ko_tn {b B : Nat} {W W' : World} (h : Tn b W W') (hb : b < B) : KeepsFrom B W W' := ⟨h.size, fun k _ hB hk _ => (h.block k (Array.getElem?_eq_some_iff.1 hk).1 (by omega)).trans hk⟩
theorem own_tnF {β : Type} {B b : Nat} {w : World} (h : w.heap.size ≤ B) : OwnFrom B (fun (_ : β) W => Tn b w W) :=
  fun _ W W' row hs hg hr => ⟨hg.os.trans hs.os, hg.tape.trans hs.tape, hg.output.trans hs.output, Nat.le_trans hs.size hg.size, fun k hk h1 => (hg.block k (Nat.lt_of_lt_of_le hk hs.size) (fun e => by have := (hr k e.symm).1; omega)).trans (hs.block k hk h1)⟩
theorem own_rowF {β : Type} {B base e sz : Nat} (v : β → Value) (n : β → Nat) (xs : β → List Value) : OwnFrom B (fun (s : β) W => W.ownsRow base e sz (v s) (n s) (xs s)) := by
  intro s W W' row h hg hr
  obtain ⟨hl, h2⟩ := h
  refine ⟨hl, ?_⟩
  rcases h2 with h0 | ⟨g, cap, cur, hv, hbg, hh, rest⟩
  · exact .inl h0
  · refine .inr ⟨g, cap, cur, hv, hbg, blk_kept hh hg (fun e => ?_), rest⟩
    obtain ⟨_, o', h', hn⟩ := hr g e
    rw [hh] at h'; cases h'; cases hn
end Lw
set_option linter.unusedVariables false
set_option linter.unusedSimpArgs false
namespace Go.Proofs.Ytkjcpjbdckbjcaa
open Go.RowKit
attribute [local go_sem] Oper.semAt_some
/-- over a link -/
theorem relay_pass (h : Lw.Hp) (b base a : Nat) (i lk count : Int) (A : Option Addr) (c : Nat) (bs : List Int) (w : World) (hb : SentB b A c count w) (own : w.ownsRow base 5 1 (.slice A 17 c) 17 (Lw.intsV .u8 bs)) (hy : Lw.Byt bs)
    (hl : h.tn = 0 ∨ (¬ h.tn = 0 ∧ lk = h.lk ∧ h.at' = (a : Int) ∧ a < 17)) (t0 : 0 ≤ h.tn) (t1 : h.tn < 256) :
    Calls Try.prog 38 #[.pointer (some ⟨b, 0, none⟩), .agg (HopC h), .int .i64 i] w fun e w' => e = .returned undef ∧ SentB b A c count w' ∧ w'.ownsRow base 5 1 (.slice A 17 c) 17 (Lw.intsV .u8 (Lw.turnI (decide (lk = i)) a h.tn bs)) ∧ ∃ g, (Value.slice A 17 c).ownBlock = some g ∧ Lw.Tn g w w' := by
  obtain ⟨g, hg⟩ : ∃ g, (Value.slice A 17 c).ownBlock = some g := by
    rcases own.2 with ⟨h0, _⟩ | ⟨g, cap, cur, hv, _⟩
    · cases h0
    · injection hv with e1; subst e1; exact ⟨g, rfl⟩
  by_cases h0 : h.tn = 0
  · refine (relay_pass_by h b i w (.inl h0)).mono fun e w' ⟨h1, h2⟩ => ⟨h1, (h2.block b (Lw.blk_lt hb)).trans hb, ?_, g, hg, Lw.Tn.of h2⟩
    have e : Lw.turnI (decide (lk = i)) a h.tn bs = bs := by
      unfold Lw.turnI; rw [h0]; split
      · exact Lw.turnL_zero hy
      · rfl
    rw [e]; exact Lw.ownsBelow own (Nat.le_refl _) h2
  · rcases hl with hl | ⟨_, rfl, ha, ha2⟩
    · exact absurd hl h0
    · by_cases hi : h.lk = i
      · refine (relay_pass_at h b base a i count A c bs w hb own hy h0 hi ha ha2 t0 t1).mono fun e w' hq => ⟨hq.1, hq.2.1, ?_, hq.2.2.2⟩
        have e : Lw.turnI (decide (h.lk = i)) a h.tn bs = Lw.turnL a h.tn bs := by unfold Lw.turnI; rw [if_pos (by simpa using hi)]
        rw [e]; exact hq.2.2.1
      · refine (relay_pass_by h b i w (.inr hi)).mono fun e w' ⟨h1, h2⟩ => ⟨h1, (h2.block b (Lw.blk_lt hb)).trans hb, ?_, g, hg, Lw.Tn.of h2⟩
        have e : Lw.turnI (decide (h.lk = i)) a h.tn bs = bs := by unfold Lw.turnI; rw [if_neg (by simpa using hi)]
        rw [e]; exact Lw.ownsBelow own (Nat.le_refl _) h2
/-- a way in memory -/
abbrev WayB (b : Nat) (P Q G H : Int) (sv kv : Value) (there home : Int) (w : World) : Prop := w.heap[b]? = some (.cells #[.int .i64 P, .int .i64 Q, .int .i64 G, .int .i64 H, sv, kv, .int .i64 there, .int .i64 home] 45 (0, 0))
/-- what a way returns of what was sent, its deferred calls taken -/
theorem way_end {f : Func} {w W : World} {D b : Nat} {P Q G H there home : Int} {sv kv : Value} {r : Int × List Int} {tmps : Array Value} {A : Option Addr} {c : Nat} (hr : f.results = #[.tmp 4, .tmp 5])
    (own : W.ownsRow w.heap.size 5 1 (.slice A r.2.length c) r.2.length (Lw.intsV .u8 r.2)) (hW : WayB b P Q G H sv kv there home W) (hT : Lw.Tn b w W) (hK : W.heap[D]? = some (.deferred (some []))) (hd0 : w.heap.size ≤ D)
    (ht4 : tmps[4]? = some (.slice A r.2.length c)) (ht5 : tmps[5]? = some (.int .i64 r.1)) :
    LeavesInM Fence.wide 4 Try.prog f tmps (fun e w' => ∃ A' c', e = .returned (.tuple #[.slice A' r.2.length c', .int .i64 r.1]) ∧ w'.ownsRow w.heap.size 5 1 (.slice A' r.2.length c') r.2.length (Lw.intsV .u8 r.2) ∧ WayB b P Q G H sv kv there home w' ∧ Lw.Tn b w w') [] FrameMode.returning (W.putObj D (Obj.deferred none)) := by
  have g := grownBy_putObj' W D (.deferred none)
  have hbD : b ≠ D := fun e => by subst e; rw [hW] at hK; cases hK
  refine ⟨.tuple #[.slice A r.2.length c, .int .i64 r.1], ?_, A, c, rfl, ?_, Lw.blk_kept hW g (fun e => by injection e with e; exact hbD e.symm), ⟨g.os.trans hT.os, g.tape.trans hT.tape, g.output.trans hT.output, Nat.le_trans hT.size g.size, fun k hk h1 => (g.block k (Nat.lt_of_lt_of_le hk hT.size) (fun e => by injection e with e; omega)).trans (hT.block k hk h1)⟩⟩
  · simp [results, hr, go_sem, ht4, ht5]
  · exact Lw.own_rowF (B := 0) (fun _ : Unit => _) (fun _ => _) (fun _ => _) () W _ _ own g (fun r e => by cases e; exact ⟨by omega, _, hK, rfl⟩)
set_option maxRecDepth 100000 in
set_option maxHeartbeats 4000000 in
theorem relay_send (P Q G H there home : Int) (sv : Value) (h : Lw.Hp) (b : Nat) (KA : Option Addr) (kn kc : Nat) (keys : List Int) (w : World) (hb : WayB b P Q G H sv (.slice KA kn kc) there home w) (RK : Lw.Rd w 1 KA kn (Lw.intsV .i64 keys))
    (hk : ∀ k ∈ keys, 0 ≤ k ∧ k < 65536) (ho : h.ok w) (hE : Lw.wrongE kn h = 0) (hKA : ∀ ad, KA = some ad → ad.block ≠ b) (hHA : 0 < h.n → ∀ ad, h.A = some ad → ad.block ≠ b) (hn14 : h.n ≤ 14) (hkl : 0 ≤ keys.getLastD 0 ∧ keys.getLastD 0 < 65536) (hkn : 0 < kn) (hkn2 : kn ≤ 1000) (c1 : 0 ≤ there) (c2 : there ≤ 1000) :
    Calls Try.prog 16 #[.pointer (some ⟨b, 0, none⟩), .agg (HopC h)] w fun e w' => ∃ A' c', e = .returned (.tuple #[.slice A' (Lw.sendC keys there h).2.length c', .int .i64 (Lw.sendC keys there h).1]) ∧ w'.ownsRow w.heap.size 5 1 (.slice A' (Lw.sendC keys there h).2.length c') (Lw.sendC keys there h).2.length (Lw.intsV .u8 (Lw.sendC keys there h).2) ∧ WayB b P Q G H sv (.slice KA kn kc) (there + 1) home w' ∧ Lw.Tn b w w' := by
  have WR := Lib.hid (fun (w : World) p5 => hE ▸ relay_wrong h b KA kn kc w p5)
  have p5 := Lw.blk_cell hb 5
  have p6 := Lw.blk_cell hb 6
  simp at p5 p6
  obtain ⟨kd, k, l, A, n, c, zs, lk, at', tn⟩ := h
  have hlt := Lw.blk_lt hb
  have AL5 : Hid (∀ o, (w.alloc o).cell? ⟨b, 5, none⟩ = some (.slice KA kn kc)) := fun o => by have := Lw.blk_cell (Lw.blk_alloc hb o) 5; simpa using this
  have LZ := Lib.hid (show zs.length = n by have := ho.1.1; simpa [Lw.intsV] using this)
  have LK := Lib.hid (show keys.length = kn by have := RK.1; simpa [Lw.intsV] using this)
  refine (callsIn_wide (n := 4)).1 ?_
  refine callsIn_of_wp_marks Try.func16 rfl trivial ?_ rfl
  simp only [Try.ntmps16, List.size_toArray, List.length_cons, List.length_nil, Nat.reduceAdd, Nat.reduceSub, Array.replicate_succ, Array.replicate_zero, List.push_toArray, List.append_toArray, List.nil_append, List.cons_append]
  refine wpIn_wide.2 ?_
  go_wp2_with (go_at_call 34; (with_reducible refine (WR.out _ (AL5.out _)).mono ?_); rintro e w1 ⟨rfl, hb1⟩)
  have HBX := Lib.hid ((hb1.block w.heap.size (by simp)).trans (Lw.blk_new w _ _))
  have hBW1 : Below w.heap.size w w1 := Lw.bt (Lw.balloc (Below.refl _ _) _) hb1
  have WB1 := Lib.hid ((hBW1.block b hlt).trans hb)
  have hs1 := hBW1.size
  have hs0 := hb1.size
  simp at hs0
  have RK1 := Lib.hid (RK.below (Nat.le_refl _) hBW1)
  have HO1 : Hid (Lw.Rd w1 1 A n (Lw.intsV .u8 zs)) := Lw.Rd.below ho.1 (Nat.le_refl _) hBW1
  have HOB := Lib.hid ho.2
  clear hb1 hb RK p5 p6 ho
  obtain ⟨m, hm⟩ : ∃ m : Nat, (kn : Int) - 1 = (m : Int) := ⟨kn - 1, by omega⟩
  have l5 := Lw.blk_cell WB1.out 5
  have l6 := Lw.blk_cell WB1.out 6
  simp at l5 l6
  have hm2 : m < kn := by omega
  obtain ⟨ad, rfl, had, hlast⟩ := RK1.out.at1 hm2 (Lw.intsV_get (by rw [LK.out]; exact hm2))
  have hlt1 : b < w1.heap.size := by omega
  have hadm : (ad.add m).block < w1.heap.size := by rw [Lw.add_block]; exact had
  have hmw : IntKind.i64.wrap (m : Int) = (m : Int) := IntWalk.i64_in _ (by omega)
  have i0 : (0 : Int) ≤ (m : Int) := by omega
  have i1 : (m : Int) < (kn : Int) := by omega
  refine Lw.wp_nop ?_
  refine wp_region_held_drew (S := Lw.Sm w1) (by kernel_rfl) (Lw.sm_drew w1) (fun hHeld => ?_)
  (refine Lw.take1 (i := 0) (v := ?_) rfl (by kernel_rfl) (by kernel_rfl) (by kernel_rfl) (fun _ _ _ h => h) (Or.inl ⟨by rfl, ?_⟩) (by assumption) ?_; rotate_left 1; (focus (intro wS hSw; obtain ⟨hS1, hS2, hS3, hS4⟩ := hSw; go_simp <;> with_reducible rfl)); (try simp only [Act.put, List.setIfInBounds_toArray, List.set_cons_zero, List.set_cons_succ]))
  (refine Lw.take1 (i := 1) (v := ?_) rfl (by kernel_rfl) (by kernel_rfl) (by kernel_rfl) (fun _ _ _ h => h) (Or.inl ⟨by rfl, ?_⟩) (by assumption) ?_; rotate_left 1; (focus (intro wS hSw; obtain ⟨hS1, hS2, hS3, hS4⟩ := hSw; go_simp <;> with_reducible rfl)); (try simp only [Act.put, List.setIfInBounds_toArray, List.set_cons_zero, List.set_cons_succ]))
  (refine Lw.take1 (i := 2) (v := ?_) rfl (by kernel_rfl) (by kernel_rfl) (by kernel_rfl) (fun _ _ _ h => h) (Or.inl ⟨by rfl, ?_⟩) (by assumption) ?_; rotate_left 1; (focus (intro wS hSw; obtain ⟨hS1, hS2, hS3, hS4⟩ := hSw; go_simp <;> with_reducible rfl)); (try simp only [Act.put, List.setIfInBounds_toArray, List.set_cons_zero, List.set_cons_succ]))
  (refine Lw.take1 (i := 3) (v := ?_) rfl (by kernel_rfl) (by kernel_rfl) (by kernel_rfl) (fun _ _ _ h => h) (Or.inl ⟨by rfl, ?_⟩) (by assumption) ?_; rotate_left 1; (focus (intro wS hSw; obtain ⟨hS1, hS2, hS3, hS4⟩ := hSw; go_simp <;> with_reducible rfl)); (try simp only [Act.put, List.setIfInBounds_toArray, List.set_cons_zero, List.set_cons_succ]))
  (refine Lw.take1 (i := 4) (v := ?_) rfl (by kernel_rfl) (by kernel_rfl) (by kernel_rfl) (fun _ _ _ h => h) (Or.inl ⟨by rfl, ?_⟩) (by assumption) ?_; rotate_left 1; (focus (intro wS hSw; obtain ⟨hS1, hS2, hS3, hS4⟩ := hSw; go_simp <;> with_reducible rfl)); (try simp only [Act.put, List.setIfInBounds_toArray, List.set_cons_zero, List.set_cons_succ]))
  (refine Lw.take1 (i := 5) (v := ?_) rfl (by kernel_rfl) (by kernel_rfl) (by kernel_rfl) (fun _ _ _ h => h) (Or.inl ⟨by rfl, ?_⟩) (by assumption) ?_; rotate_left 1; (focus (intro wS hSw; obtain ⟨hS1, hS2, hS3, hS4⟩ := hSw; go_simp <;> with_reducible rfl)); (try simp only [Act.put, List.setIfInBounds_toArray, List.set_cons_zero, List.set_cons_succ]))
  (refine Lw.take1 (i := 6) (v := ?_) rfl (by kernel_rfl) (by kernel_rfl) (by kernel_rfl) (fun _ _ _ h => h) (Or.inl ⟨by rfl, ?_⟩) (by assumption) ?_; rotate_left 1; (focus (intro wS hSw; obtain ⟨hS1, hS2, hS3, hS4⟩ := hSw; go_simp <;> with_reducible rfl)); (try simp only [Act.put, List.setIfInBounds_toArray, List.set_cons_zero, List.set_cons_succ]))
  (refine Lw.take1 (i := 7) (v := ?_) rfl (by kernel_rfl) (by kernel_rfl) (by kernel_rfl) (fun _ _ _ h => h) (Or.inl ⟨by rfl, ?_⟩) (by assumption) ?_; rotate_left 1; (focus (intro wS hSw; obtain ⟨hS1, hS2, hS3, hS4⟩ := hSw; go_simp <;> with_reducible rfl)); (try simp only [Act.put, List.setIfInBounds_toArray, List.set_cons_zero, List.set_cons_succ]))
  (refine Lw.take1 (i := 8) (v := ?_) rfl (by kernel_rfl) (by kernel_rfl) (by kernel_rfl) (fun _ _ _ h => h) (Or.inl ⟨by rfl, ?_⟩) (by assumption) ?_; rotate_left 1; (focus (intro wS hSw; obtain ⟨hS1, hS2, hS3, hS4⟩ := hSw; go_simp <;> with_reducible rfl)); (try simp only [Act.put, List.setIfInBounds_toArray, List.set_cons_zero, List.set_cons_succ]))
  (refine Lw.take1 (i := 9) (v := ?_) rfl (by kernel_rfl) (by kernel_rfl) (by kernel_rfl) (fun _ _ _ h => h) (Or.inl ⟨by rfl, ?_⟩) (by assumption) ?_; rotate_left 1; (focus (intro wS hSw; obtain ⟨hS1, hS2, hS3, hS4⟩ := hSw; go_simp <;> with_reducible rfl)); (try simp only [Act.put, List.setIfInBounds_toArray, List.set_cons_zero, List.set_cons_succ]))
  (refine Lw.take1 (i := 10) (v := ?_) rfl (by kernel_rfl) (by kernel_rfl) (by kernel_rfl) (fun _ _ _ h => h) (Or.inl ⟨by rfl, ?_⟩) (by assumption) ?_; rotate_left 1; (focus (intro wS hSw; obtain ⟨hS1, hS2, hS3, hS4⟩ := hSw; go_simp <;> with_reducible rfl)); (try simp only [Act.put, List.setIfInBounds_toArray, List.set_cons_zero, List.set_cons_succ]))
  (refine Lw.take1 (i := 11) (v := ?_) rfl (by kernel_rfl) (by kernel_rfl) (by kernel_rfl) (fun _ _ _ h => h) (Or.inl ⟨by rfl, ?_⟩) (by assumption) ?_; rotate_left 1; (focus (intro wS hSw; obtain ⟨hS1, hS2, hS3, hS4⟩ := hSw; go_simp <;> with_reducible rfl)); (try simp only [Act.put, List.setIfInBounds_toArray, List.set_cons_zero, List.set_cons_succ]))
  (refine Lw.take1 (i := 12) (v := ?_) rfl (by kernel_rfl) (by kernel_rfl) (by kernel_rfl) (fun _ _ _ h => h) (Or.inl ⟨by rfl, ?_⟩) (by assumption) ?_; rotate_left 1; (focus (intro wS hSw; obtain ⟨hS1, hS2, hS3, hS4⟩ := hSw; go_simp <;> with_reducible rfl)); (try simp only [Act.put, List.setIfInBounds_toArray, List.set_cons_zero, List.set_cons_succ]))
  refine wpAnyH_done (by kernel_rfl) ?_ _
  clear hHeld
  simp only [Lw.NoP]
  have fr6 := Lw.blk_free WB1.out 6
  go_wp2
  refine Lw.at_world (fun W7 HW7 => ?_)
  have T7 : Lw.Tn b w1 W7 := by rw [HW7.out]; exact ((((Lw.Tn.refl b w1).set 6 _).trans (Lw.Tn.of (Lw.balloc (Below.refl _ _) _))).trans (Lw.Tn.of (Lw.balloc (Below.refl _ _) _))).drew
  have BW7 : WayB b P Q G H sv (.slice (some ad) kn kc) (there + 1) home W7 := by rw [HW7.out]; exact Lw.blk_drew (Lw.blk_alloc (Lw.blk_alloc (by simpa using Lw.blk_set_same WB1.out 6 (.int .i64 (there + 1))) _) _)
  have BS7 : W7.heap[w1.heap.size]? = some (.cells #[.slice none 0 0, .int .i64 there] 72 (0, 0)) := by rw [HW7.out]; exact Lw.blk_drew (Lw.blk_alloc (Lw.blk_new' (by simp) _ _) _)
  have BP7 : W7.heap[w1.heap.size + 1]? = some (.cells #[.pointer (some ⟨w1.heap.size, 0, none⟩)] 70 (0, 0)) := by rw [HW7.out]; exact Lw.blk_drew (Lw.blk_new' (by simp) _ _)
  have BH7 := (T7.block w.heap.size (by omega) (by omega)).trans HBX.out
  have RK7 := Lib.hid (RK1.out.tn T7 (fun _ => hKA))
  have HO7 := Lib.hid (HO1.out.tn T7 hHA)
  have hs7 := T7.size
  have hz7 : W7.heap.size = w1.heap.size + 2 := by rw [HW7.out]; simp
  have MK := Lib.hid (fun w R => cell_Make_ok (keys.getLastD 0) there A n c zs w R HOB.out.1 hn14 hkl.1 hkl.2 c1 (by omega))
  rw [Lw.last_get (m := m) (by rw [LK.out]; omega)] at MK
  have s1 := Lw.blk_cell BS7 1
  have pp := Lw.blk_cell BP7 0
  have h3 := Lw.blk_cell BH7 3
  simp at s1 pp h3
  have KS : Hid (∀ W' : World, Below W7.heap.size W7 W' → W'.cell? ⟨w1.heap.size, 1, none⟩ = some (.int .i64 there) ∧ W'.cell? ⟨w1.heap.size + 1, 0, none⟩ = some (.pointer (some ⟨w1.heap.size, 0, none⟩)) ∧ W'.cell? ⟨w.heap.size, 3, none⟩ = some (.slice A n c) ∧ True) := fun W' hb =>
    ⟨(hb.cell (p := ⟨w1.heap.size, 1, none⟩) (by show w1.heap.size < _; omega)).trans s1, (hb.cell (p := ⟨w1.heap.size + 1, 0, none⟩) (by show w1.heap.size + 1 < _; omega)).trans pp, (hb.cell (p := ⟨w.heap.size, 3, none⟩) (by show w.heap.size < _; omega)).trans h3, trivial⟩
  refine Lw.wp_nop ?_
  refine wp_region_held_drew (S := fun w' => w'.cell? ⟨w1.heap.size, 1, none⟩ = some (.int .i64 there) ∧ w'.cell? ⟨w1.heap.size + 1, 0, none⟩ = some (.pointer (some ⟨w1.heap.size, 0, none⟩)) ∧ w'.cell? ⟨w.heap.size, 3, none⟩ = some (.slice A n c) ∧ True) (by kernel_rfl) (by exact ⟨s1, pp, h3, trivial⟩) (fun hHeld => ?_)
  (refine Lw.take1 (i := 0) (v := ?_) rfl (by kernel_rfl) (by kernel_rfl) (by kernel_rfl) (fun _ _ _ h => h) (Or.inl ⟨by rfl, ?_⟩) (by assumption) ?_; rotate_left 1; (focus (intro wS hSw; obtain ⟨hS1, hS2, hS3, hS4⟩ := hSw; go_simp <;> with_reducible rfl)); (try simp only [Act.put, List.setIfInBounds_toArray, List.set_cons_zero, List.set_cons_succ]))
  (refine Lw.take1 (i := 1) (v := ?_) rfl (by kernel_rfl) (by kernel_rfl) (by kernel_rfl) (fun _ _ _ h => h) (Or.inl ⟨by rfl, ?_⟩) (by assumption) ?_; rotate_left 1; (focus (intro wS hSw; obtain ⟨hS1, hS2, hS3, hS4⟩ := hSw; go_simp <;> with_reducible rfl)); (try simp only [Act.put, List.setIfInBounds_toArray, List.set_cons_zero, List.set_cons_succ]))
  (refine Lw.take1 (i := 2) (v := ?_) rfl (by kernel_rfl) (by kernel_rfl) (by kernel_rfl) (fun _ _ _ h => h) (Or.inl ⟨by rfl, ?_⟩) (by assumption) ?_; rotate_left 1; (focus (intro wS hSw; obtain ⟨hS1, hS2, hS3, hS4⟩ := hSw; go_simp <;> with_reducible rfl)); (try simp only [Act.put, List.setIfInBounds_toArray, List.set_cons_zero, List.set_cons_succ]))
  (refine Lw.take1 (i := 3) (v := ?_) rfl (by kernel_rfl) (by kernel_rfl) (by kernel_rfl) (fun _ _ _ h => h) (Or.inl ⟨by rfl, ?_⟩) (by assumption) ?_; rotate_left 1; (focus (intro wS hSw; obtain ⟨hS1, hS2, hS3, hS4⟩ := hSw; go_simp <;> with_reducible rfl)); (try simp only [Act.put, List.setIfInBounds_toArray, List.set_cons_zero, List.set_cons_succ]))
  (refine Lw.take1 (i := 4) (v := ?_) rfl (by kernel_rfl) (by kernel_rfl) (by kernel_rfl) (fun _ _ _ h => h) (Or.inl ⟨by rfl, ?_⟩) (by assumption) ?_; rotate_left 1; (focus (intro wS hSw; obtain ⟨hS1, hS2, hS3, hS4⟩ := hSw; go_simp <;> with_reducible rfl)); (try simp only [Act.put, List.setIfInBounds_toArray, List.set_cons_zero, List.set_cons_succ]))
  (refine Lw.take1 (i := 5) (v := ?_) rfl (by kernel_rfl) (by kernel_rfl) (by kernel_rfl) (fun _ _ _ h => h) (Or.inl ⟨by rfl, ?_⟩) (by assumption) ?_; rotate_left 1; (focus (intro wS hSw; obtain ⟨hS1, hS2, hS3, hS4⟩ := hSw; go_simp <;> with_reducible rfl)); (try simp only [Act.put, List.setIfInBounds_toArray, List.set_cons_zero, List.set_cons_succ]))
  (refine Lw.take1 (i := 6) (v := ?_) rfl (by kernel_rfl) (by kernel_rfl) (by kernel_rfl) (fun _ _ _ h => h) (Or.inl ⟨by rfl, ?_⟩) (by assumption) ?_; rotate_left 1; (focus (intro wS hSw; obtain ⟨hS1, hS2, hS3, hS4⟩ := hSw; go_simp <;> with_reducible rfl)); (try simp only [Act.put, List.setIfInBounds_toArray, List.set_cons_zero, List.set_cons_succ]))
  (refine Lw.take1 (i := 7) (v := ?_) rfl (by kernel_rfl) (by kernel_rfl) (by kernel_rfl) (fun _ _ _ h => h) (Or.inl ⟨by rfl, ?_⟩) (by assumption) ?_; rotate_left 1; (focus (intro wS hSw; obtain ⟨hS1, hS2, hS3, hS4⟩ := hSw; go_simp <;> with_reducible rfl)); (try simp only [Act.put, List.setIfInBounds_toArray, List.set_cons_zero, List.set_cons_succ]))
  (refine wpAnyH_ready (rs := [8]) (by kernel_rfl) (by simp) ?_; refine Lw.cons1 (i := 8) rfl (fun K hK => ?_) AllReadyH.nil; go_simp; go_at_call 35; (with_reducible refine (MK.out _ HO7.out.drew).mono ?_); rintro e w8 ⟨A8, d8, rfl, own8, hb8⟩; refine hK.out _ _ ?_ (fun hHeld => ?_); (focus exact KS.out _ (Lw.bt (Below.drew (Below.refl _ _)) hb8)); clear hK K; (try simp only [Act.put, List.setIfInBounds_toArray, List.set_cons_zero, List.set_cons_succ]))
  (refine Lw.take1 (i := 9) (v := ?_) rfl (by kernel_rfl) (by kernel_rfl) (by kernel_rfl) (fun _ _ _ h => h) (Or.inl ⟨by rfl, ?_⟩) (by assumption) ?_; rotate_left 1; (focus (intro wS hSw; obtain ⟨hS1, hS2, hS3, hS4⟩ := hSw; go_simp <;> with_reducible rfl)); (try simp only [Act.put, List.setIfInBounds_toArray, List.set_cons_zero, List.set_cons_succ]))
  (refine Lw.take1 (i := 10) (v := ?_) rfl (by kernel_rfl) (by kernel_rfl) (by kernel_rfl) (fun _ _ _ h => h) (Or.inl ⟨by rfl, ?_⟩) (by assumption) ?_; rotate_left 1; (focus (intro wS hSw; obtain ⟨hS1, hS2, hS3, hS4⟩ := hSw; go_simp <;> with_reducible rfl)); (try simp only [Act.put, List.setIfInBounds_toArray, List.set_cons_zero, List.set_cons_succ]))
  (refine Lw.take1 (i := 11) (v := ?_) rfl (by kernel_rfl) (by kernel_rfl) (by kernel_rfl) (fun _ _ _ h => h) (Or.inl ⟨by rfl, ?_⟩) (by assumption) ?_; rotate_left 1; (focus (intro wS hSw; obtain ⟨hS1, hS2, hS3, hS4⟩ := hSw; go_simp <;> with_reducible rfl)); (try simp only [Act.put, List.setIfInBounds_toArray, List.set_cons_zero, List.set_cons_succ]))
  (refine Lw.take1 (i := 12) (v := ?_) rfl (by kernel_rfl) (by kernel_rfl) (by kernel_rfl) (fun _ _ _ h => h) (Or.inl ⟨by rfl, ?_⟩) (by assumption) ?_; rotate_left 1; (focus (intro wS hSw; obtain ⟨hS1, hS2, hS3, hS4⟩ := hSw; go_simp <;> with_reducible rfl)); (try simp only [Act.put, List.setIfInBounds_toArray, List.set_cons_zero, List.set_cons_succ]))
  (refine Lw.take1 (i := 13) (v := ?_) rfl (by kernel_rfl) (by kernel_rfl) (by kernel_rfl) (fun _ _ _ h => h) (Or.inl ⟨by rfl, ?_⟩) (by assumption) ?_; rotate_left 1; (focus (intro wS hSw; obtain ⟨hS1, hS2, hS3, hS4⟩ := hSw; go_simp <;> with_reducible rfl)); (try simp only [Act.put, List.setIfInBounds_toArray, List.set_cons_zero, List.set_cons_succ]))
  have B8 := (hb8.block w1.heap.size (by show w1.heap.size < W7.heap.size; omega)).trans BS7
  have q0 := Lw.blk_free B8 0
  have r0 := Lw.blk_cell B8 0
  have r1 := Lw.blk_cell (Lw.settwo (u := .slice A8 17 d8) B8) 1
  have hb78 : Below W7.heap.size W7 w8 := Lw.bt (Below.drew (Below.refl _ _)) hb8
  have KS8 := KS.out _ hb78
  simp at r0 r1
  have KS9 : (w8.setCell ⟨w1.heap.size, 0, none⟩ (.slice A8 17 d8)).cell? ⟨w1.heap.size + 1, 0, none⟩ = some (.pointer (some ⟨w1.heap.size, 0, none⟩)) ∧ (w8.setCell ⟨w1.heap.size, 0, none⟩ (.slice A8 17 d8)).cell? ⟨w.heap.size, 3, none⟩ = some (.slice A n c) :=
    ⟨(World.cell?_setCell_far _ _ _ _ (by show w1.heap.size ≠ w1.heap.size + 1; omega)).trans KS8.2.1, (World.cell?_setCell_far _ _ _ _ (by show w1.heap.size ≠ w.heap.size; omega)).trans KS8.2.2.1⟩
  (refine wpAnyH_ready (rs := [14]) (by kernel_rfl) (by simp) ?_; refine Lw.cons1 (i := 14) rfl (fun K hK => ?_) AllReadyH.nil; go_simp; refine hK.out _ _ ?_ (fun hHeld => ?_); (focus exact ⟨r1, KS9.1, KS9.2, trivial⟩); clear hK K; (try simp only [Act.put, List.setIfInBounds_toArray, List.set_cons_zero, List.set_cons_succ]))
  refine wpAnyH_done (by kernel_rfl) ?_ _
  clear hHeld
  simp only [Lw.NoP]
  have BS9 : SentB w1.heap.size A8 d8 there (w8.setCell ⟨w1.heap.size, 0, none⟩ (.slice A8 17 d8)) := Lw.settwo B8
  have T89 : Lw.Tn w1.heap.size w8 (w8.setCell ⟨w1.heap.size, 0, none⟩ (.slice A8 17 d8)) := (Lw.Tn.refl _ _).set 0 _
  have own9 := Lw.own_tn own8 T89 (fun e => by have := (own8.lt _ e).1; have : W7.drew.heap.size = W7.heap.size := rfl; omega)
  have T79 : Lw.Tn w1.heap.size W7 (w8.setCell ⟨w1.heap.size, 0, none⟩ (.slice A8 17 d8)) := (Lw.Tn.of hb78).trans T89
  generalize w8.setCell ⟨w1.heap.size, 0, none⟩ (.slice A8 17 d8) = W9 at *
  have BW9 := (T79.block b (by omega) (by omega)).trans BW7
  have BP9 := (T79.block (w1.heap.size + 1) (by omega) (by omega)).trans BP7
  have BH9 := (T79.block w.heap.size (by omega) (by omega)).trans BH7
  have RK9 := Lib.hid (RK7.out.tn T79 (fun _ ad' e => by injection e with e; subst e; omega))
  have T9 : Lw.Tn b w W9 := ⟨T79.os.trans (T7.os.trans hBW1.os), T79.tape.trans (T7.tape.trans hBW1.tape), T79.output.trans (T7.output.trans hBW1.output), by have := T79.size; omega, fun k hk h1 => (T79.block k (by omega) (by omega)).trans ((T7.block k (by omega) h1).trans (hBW1.block k hk))⟩
  have g5 := Lw.blk_cell BW9 5
  have gp := Lw.blk_cell BP9 0
  simp at g5 gp
  have hs9 := T79.size
  have hn9 : W7.drew.heap.size = W7.heap.size := rfl
  have BW9 := Lib.hid BW9
  have BH9 := Lib.hid BH9
  have BP9 := Lib.hid BP9
  have OWN9 := Lib.hid own9
  clear B8 q0 r0 r1 KS8 KS9 hb78 hb8 own8 own9 T89 KS MK s1 pp h3 RK7 HO7 T7 HW7 BW7 BS7 BP7 BH7 T79 RK1 HO1 l5 l6 fr6 WB1 HBX
  go_wp2_with (go_at_call 36; (with_reducible refine (bkw_ints _ _ _ _).mono ?_); rintro e w' ⟨rfl, rfl⟩)
  obtain ⟨cl, hcl⟩ : ∃ cl, Lw.cellL (keys[m]'(by rw [LK.out]; exact hm2)) there zs = cl := ⟨_, rfl⟩
  have CB : Lw.Byt cl := hcl ▸ Lw.cellL_byt (by rw [LZ.out]; exact hn14) HOB.out.1
  rw [hcl] at OWN9
  have SC : Hid (Lw.sendC keys there ⟨kd, k, l, A, n, c, zs, lk, at', tn⟩ = Lw.readC (keys[m]'(by rw [LK.out]; exact hm2)) there (Lw.turnL at'.toNat tn cl)) := by
    show Lw.readC _ _ _ = _
    rw [Lw.last_get (m := m) (by rw [LK.out]; omega), ← hcl]
  have KB := Lib.hid (hk _ (List.getElem_mem (show m < keys.length by rw [LK.out]; exact hm2)))
  have RD := Lib.hid (fun A c w R hc => cell_Read (keys[m]'(by rw [LK.out]; exact hm2)) there A c (Lw.turnL at'.toNat tn cl) w R (Lw.turnL_byt CB HOB.out.2.1 HOB.out.2.2) hc KB.out.1 KB.out.2 c1 (by omega))
  refine (wpIn_wide (n := 4)).1 ?_
  obtain ⟨WL, HWL⟩ : ∃ WL, W9.alloc (.cells #[.slice (some ad) kn kc] 43) = WL := ⟨_, rfl⟩
  have hL : WL.heap.size = W9.heap.size + 1 := by rw [← HWL]; simp
  have T9L : Below W9.heap.size W9 WL := by rw [← HWL]; exact Lw.balloc (Below.refl _ _) _
  have hcS : WL.cell? ⟨W9.heap.size, 0, none⟩ = some (.slice (some ad) kn kc) := by
    have := Lw.blk_cell (Lw.blk_new W9 #[.slice (some ad) kn kc] 43) 0
    rw [← HWL, this]; rfl
  have RW : Lw.Rd WL 1 (some ad) kn ((Lw.kys keys hk).map (fun a => Value.int .i64 a.1)) := by
    have e : (Lw.kys keys hk).map (fun a => Value.int .i64 a.1) = Lw.intsV .i64 keys := by
      have := congrArg (List.map (Value.int .i64)) (Lw.kys_map keys hk)
      rw [List.map_map] at this; exact this
    rw [e]; exact RK9.out.below (Nat.le_refl _) T9L
  have BSL := (T9L.block w1.heap.size (by omega)).trans BS9
  have BPL := Lib.hid ((T9L.block (w1.heap.size + 1) (by omega)).trans BP9.out)
  have OWNL := Lw.ownsBelow OWN9.out (Nat.le_refl _) T9L
  have hadW := had
  rw [HWL]
  refine wpIn_rangeFunc_ownG rfl (by omega) (gf := 54) (lb := #[.pointer (some ⟨W9.heap.size, 0, none⟩)]) rfl trivial (enters_of Try.func54 (by kernel_rfl) rfl)
    (bkw_ints_stops (fun a : Lw.Ky => .int .i64 a.1) (Lw.kys keys hk) W9.heap.size ad.block kn kc (some ad) (by omega) _ (by omega) _ (by omega) (by omega) hcS RW (fun _ ad' e => by injection e with e; rw [e])) Lw.KB.trans (Lw.KB.put (by omega) (by omega)) (Below.refl _ _) (fun _ => rfl)
    (fun pre W => ∃ A c, SentB w1.heap.size A c there W ∧ W.ownsRow W7.drew.heap.size 5 1 (.slice A 17 c) 17 (Lw.intsV .u8 (Lw.thF there cl pre)) ∧ Lw.Tn w1.heap.size WL W)
    (fun _ _ _ => False)
    (Lw.own_ex fun A => Lw.own_ex fun c => Lw.own_and (Lw.blk_own _ _ _ (fun _ => rfl)) (Lw.own_and (Lw.own_rowF _ _ _) (Lw.own_tnF (Nat.le_refl _))))
    (fun _ _ _ _ _ hs _ _ => hs)
    ⟨A8, d8, BSL, OWNL, Lw.Tn.refl _ _⟩
    ?a1 ?assign ?body ?done ?stop
  case assign =>
    intro l x W K hK
    gi_wp2
    exact hK
  case body =>
    rintro l pre ⟨i, ⟨kk, hk1, hk2⟩⟩ W ⟨A1, d1, hS, own, hT⟩ hlen
    have cp := Lw.blk_cell ((hT.block (w1.heap.size + 1) (by omega) (by omega)).trans BPL.out) 0
    simp at cp
    have hcb := Lw.thF_byt there pre CB
    have LY := Lib.hid (relay_layer kk there w1.heap.size A1 d1 _ W hS (Lw.Rd.of_own own) hcb hk1 hk2 c1 (by omega))
    gi_wp2_with (refine ⟨trivial, ?_⟩; gi_at_call 37; refine (CallsIn.inRound l (callsIn_wide.2 LY.out)).mono ?_; rintro e w2 ⟨rfl, A2, d2, hS2, own2, hT2⟩)
    have hsW := hT.size
    refine ⟨Lw.ko_tn hT2 (by omega), ⟨hT2.block _ (by omega) (by omega), hT2.block _ (by omega) (by omega)⟩, A2, d2, hS2, by rw [Lw.thF_snoc]; exact Lw.ownsBase own2 (by omega), hT.trans hT2⟩
  case stop => exact fun _ _ _ _ _ _ h _ => h.elim
  case done =>
    rintro D ys W hD rfl ⟨A1, d1, hS, own, hT⟩ hK
    rw [Lw.thF_bks there _ keys hk keys.length 0 (by omega), List.drop_zero] at own
    obtain ⟨lk', hlk0, hlk1, hlk2⟩ : ∃ lk' : Int, 0 ≤ lk' ∧ lk' < (kn : Int) ∧ (tn = 0 ∨ (¬ tn = 0 ∧ lk' = lk ∧ at' = ((at'.toNat : Nat) : Int) ∧ at'.toNat < 17)) := by
      by_cases ht : tn = 0
      · exact ⟨0, by omega, by omega, .inl ht⟩
      · rw [Lw.wrongE_def, if_neg (by omega), if_neg (by omega)] at hE
        split at hE
        · cases hE
        · exact ⟨lk, by omega, by omega, .inr ⟨ht, rfl, by omega, by omega⟩⟩
    rw [← Lw.there_zero (a := at'.toNat) (t := tn) hlk0] at own
    have T0 := hT.block
    have hz := hT.size
    have hbt : Lw.BT W7.heap.size w1.heap.size WL W := Lw.BT.of hT (by omega)
    have hDW := Lw.blk_lt hK
    have BWL := Lib.hid ((T9L.block b (by omega)).trans BW9.out)
    have BHL := Lib.hid ((T9L.block w.heap.size (by omega)).trans BH9.out)
    have BW10 := (hbt.block b (by omega) (by omega)).trans BWL.out
    have y5 := Lw.blk_cell BW10 5
    simp at y5
    have OWNS := Lib.hid own
    go_wp2
    clear y5 BW10 own
    go_loopw [11, 12, 73] (fun _ _ i wr => ∃ (j : Nat) (A : Option Addr) (c : Nat), i = .int .i64 (j : Int) ∧ j ≤ kn ∧ SentB w1.heap.size A c there wr ∧ wr.ownsRow W7.drew.heap.size 5 1 (.slice A 17 c) 17 (Lw.intsV .u8 (Lw.thereS keys there lk' at'.toNat tn cl j)) ∧ Lw.BT W7.heap.size w1.heap.size WL wr ∧ wr.heap[D]? = some (.deferred (some []))) (fun _ _ i _ => kn - (intOf i).toNat)
    case atStart => exact ⟨0, A1, d1, rfl, by omega, hS, OWNS.out, hbt, hK⟩
    case round =>
      obtain ⟨j, A3, d3, rfl, hj, hS3, own3, hbt3, hK3⟩ := hrel
      have bp := Lw.blk_cell ((hbt3.block (w1.heap.size + 1) (by omega) (by omega)).trans BPL.out) 0
      simp at bp
      have hz3 := hbt3.size
      have thB : Lw.Byt (Lw.thereS keys there lk' at'.toNat tn cl j) := Lw.turnI_byt (Lw.layA_byt CB _) HOB.out.2.1 HOB.out.2.2
      by_cases hlt3 : j < kn
      · have hl3 : j < keys.length := by rw [LK.out]; exact hlt3
        obtain ⟨ad', e9, had9, hkey⟩ := RK9.out.at1 hlt3 (Lw.intsV_get hl3)
        obtain rfl : ad = ad' := by injection e9
        have kc3 : wr.cell? (ad.add j) = some (.int .i64 keys[j]) := ((Lw.cell_of_blk _ ((hbt3.block _ (by rw [Lw.add_block]; omega) (by rw [Lw.add_block]; omega)).trans (T9L.block _ (by rw [Lw.add_block]; omega)))).trans hkey)
        obtain ⟨kj0, kj1⟩ := hk _ (List.getElem_mem hl3)
        have BH3 := (hbt3.block w.heap.size (by omega) (by omega)).trans BHL.out
        have u0 := Lw.blk_cell BH3 0; have u1 := Lw.blk_cell BH3 1; have u2 := Lw.blk_cell BH3 2; have u3 := Lw.blk_cell BH3 3; have u4 := Lw.blk_cell BH3 4; have u5 := Lw.blk_cell BH3 5; have u6 := Lw.blk_cell BH3 6
        simp at u0 u1 u2 u3 u4 u5 u6
        have PS := Lib.hid (relay_pass ⟨kd, k, l, A, n, c, zs, lk, at', tn⟩ w1.heap.size W7.drew.heap.size at'.toNat (j : Int) lk' there A3 d3 _ wr hS3 own3 thB hlk2 HOB.out.2.1 HOB.out.2.2)
        have ST := Lib.hid (Lw.there_step (count := there) (link := lk') (a := at'.toNat) hl3 CB HOB.out.2.1 HOB.out.2.2)
        have tB2 : Lw.Byt (Lw.turnI (decide (lk' = (j : Int))) at'.toNat tn (Lw.thereS keys there lk' at'.toNat tn cl j)) := Lw.turnI_byt thB HOB.out.2.1 HOB.out.2.2
        obtain ⟨kj, hkj⟩ : ∃ x, keys[j] = x := ⟨_, rfl⟩
        rw [hkj] at kc3 kj0 kj1 ST
        generalize Lw.turnI (decide (lk' = (j : Int))) at'.toNat tn (Lw.thereS keys there lk' at'.toNat tn cl j) = tb at *
        have hj0 : (0 : Int) ≤ (j : Int) := by omega
        have hj1 : (j : Int) < (kn : Int) := by omega
        have hgD : ∀ g, (Value.slice A3 17 d3).ownBlock = some g → W7.heap.size ≤ g ∧ g ≠ D ∧ g < wr.heap.size := fun g e => ⟨(own3.lt g e).1, fun eg => Lw.own_ne own3 hK3 rfl (eg ▸ e), (own3.lt g e).2⟩
        clear hkey hkj e9 had9
        go_wp2_with fail
        refine PS.out.mono ?_
        rintro e w2 ⟨rfl, hS4, own4, g4, hg4, hT4⟩
        obtain ⟨g40, g41, g42⟩ := hgD g4 hg4
        have hz4 := hT4.size
        have bp4 := Lw.blk_cell ((hT4.block (w1.heap.size + 1) (by omega) (by omega)).trans ((hbt3.block (w1.heap.size + 1) (by omega) (by omega)).trans BPL.out)) 0
        simp at bp4
        have LY := Lib.hid (relay_layer kj there w1.heap.size A3 d3 _ w2 hS4 (Lw.Rd.of_own own4) tB2 kj0 kj1 c1 (by omega))
        go_wp2_with fail
        refine LY.out.mono ?_
        rintro e w3 ⟨rfl, A5, d5, hS5, own5, hT5⟩
        rw [ST.out] at own5
        have hDlt := Lw.blk_lt hK3
        go_wp2
        go_roundw
        case rel => exact ⟨j + 1, A5, d5, by go_num, by omega, hS5, Lw.ownsBase own5 (by have : W7.drew.heap.size = W7.heap.size := rfl; omega), (hbt3.trans (Lw.BT.of' hT4 g40 (by omega))).trans (Lw.BT.of hT5 (by omega)), (hT5.block D (by omega) (by omega)).trans ((hT4.block D hDlt (by omega)).trans hK3)⟩
        case measure => simp [intOf]; omega
      · have hj1 : ¬ (j : Int) < (kn : Int) := by omega
        have EN : Hid (Lw.thereS keys there lk' at'.toNat tn cl j = Lw.turnL at'.toNat tn cl) := by
          have := Lw.there_end (ks := keys) (count := there) (link := lk') (a := at'.toNat) (t := tn) (cell := cl) (by rw [LK.out]; exact hlk1)
          rw [LK.out] at this
          rw [show j = kn by omega]; exact this
        rw [EN.out] at own3
        have hcap : 17 ≤ d3 := by
          rcases own3.2 with ⟨h0, _⟩ | ⟨g, cap, cur, hv, _, _, hc, _⟩
          · cases h0
          · injection hv with _ _ e3; omega
        have f0 := Lw.blk_cell hS3 0
        have f1 := Lw.blk_cell hS3 1
        simp at f0 f1
        have R3 := Lib.hid (Lw.Rd.of_own own3)
        have hs3 : w1.heap.size < wr.heap.size := by omega
        have hs4 : w1.heap.size + 1 < wr.heap.size := by omega
        go_wp2
        refine Lw.wp_nop ?_
        refine wp_region_held_drew (S := Lw.Sm wr) (by kernel_rfl) (Lw.sm_drew wr) (fun hHeld => ?_)
        (refine Lw.take1 (i := 0) (v := ?_) rfl (by kernel_rfl) (by kernel_rfl) (by kernel_rfl) (fun _ _ _ h => h) (Or.inl ⟨by rfl, ?_⟩) (by assumption) ?_; rotate_left 1; (focus (intro wS hSw; obtain ⟨hS1, hS2, hS3, hS4⟩ := hSw; go_simp <;> with_reducible rfl)); (try simp only [Act.put, List.setIfInBounds_toArray, List.set_cons_zero, List.set_cons_succ]))
        (refine Lw.take1 (i := 1) (v := ?_) rfl (by kernel_rfl) (by kernel_rfl) (by kernel_rfl) (fun _ _ _ h => h) (Or.inl ⟨by rfl, ?_⟩) (by assumption) ?_; rotate_left 1; (focus (intro wS hSw; obtain ⟨hS1, hS2, hS3, hS4⟩ := hSw; go_simp <;> with_reducible rfl)); (try simp only [Act.put, List.setIfInBounds_toArray, List.set_cons_zero, List.set_cons_succ]))
        (refine Lw.take1 (i := 2) (v := ?_) rfl (by kernel_rfl) (by kernel_rfl) (by kernel_rfl) (fun _ _ _ h => h) (Or.inl ⟨by rfl, ?_⟩) (by assumption) ?_; rotate_left 1; (focus (intro wS hSw; obtain ⟨hS1, hS2, hS3, hS4⟩ := hSw; go_simp <;> with_reducible rfl)); (try simp only [Act.put, List.setIfInBounds_toArray, List.set_cons_zero, List.set_cons_succ]))
        (refine Lw.take1 (i := 3) (v := ?_) rfl (by kernel_rfl) (by kernel_rfl) (by kernel_rfl) (fun _ _ _ h => h) (Or.inl ⟨by rfl, ?_⟩) (by assumption) ?_; rotate_left 1; (focus (intro wS hSw; obtain ⟨hS1, hS2, hS3, hS4⟩ := hSw; go_simp <;> with_reducible rfl)); (try simp only [Act.put, List.setIfInBounds_toArray, List.set_cons_zero, List.set_cons_succ]))
        (refine Lw.take1 (i := 4) (v := ?_) rfl (by kernel_rfl) (by kernel_rfl) (by kernel_rfl) (fun _ _ _ h => h) (Or.inl ⟨by rfl, ?_⟩) (by assumption) ?_; rotate_left 1; (focus (intro wS hSw; obtain ⟨hS1, hS2, hS3, hS4⟩ := hSw; go_simp <;> with_reducible rfl)); (try simp only [Act.put, List.setIfInBounds_toArray, List.set_cons_zero, List.set_cons_succ]))
        (refine Lw.take1 (i := 5) (v := ?_) rfl (by kernel_rfl) (by kernel_rfl) (by kernel_rfl) (fun _ _ _ h => h) (Or.inl ⟨by rfl, ?_⟩) (by assumption) ?_; rotate_left 1; (focus (intro wS hSw; obtain ⟨hS1, hS2, hS3, hS4⟩ := hSw; go_simp <;> with_reducible rfl)); (try simp only [Act.put, List.setIfInBounds_toArray, List.set_cons_zero, List.set_cons_succ]))
        (refine Lw.take1 (i := 6) (v := ?_) rfl (by kernel_rfl) (by kernel_rfl) (by kernel_rfl) (fun _ _ _ h => h) (Or.inl ⟨by rfl, ?_⟩) (by assumption) ?_; rotate_left 1; (focus (intro wS hSw; obtain ⟨hS1, hS2, hS3, hS4⟩ := hSw; go_simp <;> with_reducible rfl)); (try simp only [Act.put, List.setIfInBounds_toArray, List.set_cons_zero, List.set_cons_succ]))
        (refine Lw.take1 (i := 7) (v := ?_) rfl (by kernel_rfl) (by kernel_rfl) (by kernel_rfl) (fun _ _ _ h => h) (Or.inl ⟨by rfl, ?_⟩) (by assumption) ?_; rotate_left 1; (focus (intro wS hSw; obtain ⟨hS1, hS2, hS3, hS4⟩ := hSw; go_simp <;> with_reducible rfl)); (try simp only [Act.put, List.setIfInBounds_toArray, List.set_cons_zero, List.set_cons_succ]))
        (refine Lw.take1 (i := 8) (v := ?_) rfl (by kernel_rfl) (by kernel_rfl) (by kernel_rfl) (fun _ _ _ h => h) (Or.inl ⟨by rfl, ?_⟩) (by assumption) ?_; rotate_left 1; (focus (intro wS hSw; obtain ⟨hS1, hS2, hS3, hS4⟩ := hSw; go_simp <;> with_reducible rfl)); (try simp only [Act.put, List.setIfInBounds_toArray, List.set_cons_zero, List.set_cons_succ]))
        (refine wpAnyH_ready (rs := [9]) (by kernel_rfl) (by simp) ?_; refine Lw.cons1 (i := 9) rfl (fun K hK => ?_) AllReadyH.nil; go_simp; go_at_call 39; (with_reducible refine (RD.out _ _ _ R3.out.drew hcap).mono ?_); rintro e w5 ⟨A5, d5, rfl, own5, hb5⟩; refine hK.out _ _ ?_ (fun hHeld => ?_); (focus exact Lw.sm_keep (Lw.sm_drew wr) hb5); clear hK K; (try simp only [Act.put, List.setIfInBounds_toArray, List.set_cons_zero, List.set_cons_succ]))
        have hB5 := Lw.sm_bel (Lw.sm_keep (Lw.sm_drew wr) hb5)
        (refine Lw.take1 (i := 10) (v := ?_) rfl (by kernel_rfl) (by kernel_rfl) (by kernel_rfl) (fun _ _ _ h => h) (Or.inl ⟨by rfl, ?_⟩) (by assumption) ?_; rotate_left 1; (focus (intro wS hSw; obtain ⟨hS1, hS2, hS3, hS4⟩ := hSw; go_simp <;> with_reducible rfl)); (try simp only [Act.put, List.setIfInBounds_toArray, List.set_cons_zero, List.set_cons_succ]))
        (refine Lw.take1 (i := 11) (v := ?_) rfl (by kernel_rfl) (by kernel_rfl) (by kernel_rfl) (fun _ _ _ h => h) (Or.inl ⟨by rfl, ?_⟩) (by assumption) ?_; rotate_left 1; (focus (intro wS hSw; obtain ⟨hS1, hS2, hS3, hS4⟩ := hSw; go_simp <;> with_reducible rfl)); (try simp only [Act.put, List.setIfInBounds_toArray, List.set_cons_zero, List.set_cons_succ]))
        (refine Lw.take1 (i := 12) (v := ?_) rfl (by kernel_rfl) (by kernel_rfl) (by kernel_rfl) (fun _ _ _ h => h) (Or.inl ⟨by rfl, ?_⟩) (by assumption) ?_; rotate_left 1; (focus (intro wS hSw; obtain ⟨hS1, hS2, hS3, hS4⟩ := hSw; go_simp <;> with_reducible rfl)); (try simp only [Act.put, List.setIfInBounds_toArray, List.set_cons_zero, List.set_cons_succ]))
        (refine Lw.take1 (i := 13) (v := ?_) rfl (by kernel_rfl) (by kernel_rfl) (by kernel_rfl) (fun _ _ _ h => h) (Or.inl ⟨by rfl, ?_⟩) (by assumption) ?_; rotate_left 1; (focus (intro wS hSw; obtain ⟨hS1, hS2, hS3, hS4⟩ := hSw; go_simp <;> with_reducible rfl)); (try simp only [Act.put, List.setIfInBounds_toArray, List.set_cons_zero, List.set_cons_succ]))
        refine wpAnyH_done (by kernel_rfl) ?_ _
        clear hHeld
        rw [← SC.out] at own5 ⊢
        simp only [Lw.NoP]
        go_wp2
        have hDlt := Lw.blk_lt hK3
        have hz5 := hB5.size
        have hTf : Lw.Tn b w w5 := ⟨hB5.os.trans (hbt3.os.trans (T9L.os.trans T9.os)), hB5.tape.trans (hbt3.tape.trans (T9L.tape.trans T9.tape)), hB5.output.trans (hbt3.output.trans (T9L.output.trans T9.output)), by omega, fun k hk h1 => (hB5.block k (by omega)).trans ((hbt3.block k (by omega) (by omega)).trans ((T9L.block k (by omega)).trans (T9.block k hk h1)))⟩
        refine ⟨by simp, .inl ⟨_, _, rfl, run_takeDeferred ((hB5.block D hDlt).trans hK3), ?_⟩⟩
        exact way_end rfl (Lw.ownsBase own5 (by show w.heap.size ≤ wr.heap.size; omega)) ((hB5.block b (by omega)).trans ((hbt3.block b (by omega) (by omega)).trans BWL.out)) hTf ((hB5.block D hDlt).trans hK3) (by omega) rfl rfl
end Go.Proofs.Ytkjcpjbdckbjcaa
