/- primes.Divisors: the walk. -/
import Derived.Test.YtlgegdmnbhoepaaDvp
import Derived.Test.YtlgegdmnbhoepaaApk
import Derived.Test.YtlgegdmnbhoepaaIs
import Derived.Test.YtlgegdmnbhoepaaSrt
import Derived.Sort.OwnSortedInts
namespace Lw
open Go Go.RowKit
theorem stepJ_get {L : List Nat} {p : Nat} {s : Nat} (h : s < L.length) : ∀ j, (stepJ L p j)[s]? = some L[s]
  | 0 => List.getElem?_eq_getElem h
  | j + 1 => by
    unfold stepJ
    rw [List.getElem?_append_left (by rw [stepJ_length]; exact Nat.lt_of_lt_of_le h (Nat.le_mul_of_pos_right _ (by omega)))]
    exact stepJ_get h j
theorem castL_get {l : List Nat} {s d : Nat} (h : l[s]? = some d) : (intsV .i64 (castL l))[s]? = some (.int .i64 (d : Int)) := by unfold intsV castL; rw [List.getElem?_map, List.getElem?_map, h]; rfl
theorem cell_of_blk1 {W W' : World} (p : Addr) (h : W'.heap[p.block]? = W.heap[p.block]?) : W'.cell? p = W.cell? p := by unfold World.cell?; rw [h]
end Lw
set_option linter.unusedVariables false
set_option linter.unusedSimpArgs false
namespace Go.Proofs.Ytlgegdmnbhoepaa
open Go.RowKit
open Go.Shelf
attribute [local go_sem] Oper.semAt_some
theorem elI64 : Lw.El Try.prog 24 2 (.int .i64 0) 1 8 := Lw.El.mk' Try.underlying24 (by kernel_rfl) rfl (by decide) (by decide)
/-- where the inner loops stand -/
def DvS (w W : World) (Bx p k : Nat) (cur : List Nat) (g cap : Nat) (wr : World) : Prop :=
  KeepsOthers W wr ∧ wr.heap[w.heap.size + 1 + 1]? = W.heap[w.heap.size + 1 + 1]? ∧ Below w.heap.size w wr ∧ wr.heap[Bx]? = some (.cells #[.int .i64 (p : Int), .int .i64 (k : Int)] 142 (0, 0)) ∧ g ≠ w.heap.size + 1 + 1 ∧
  wr.heap[w.heap.size + 1]? = some (.cells #[.slice (some ⟨g, 0, none⟩) cur.length cap] 24 (0, 0)) ∧ wr.ownsRow w.heap.size 2 1 (.slice (some ⟨g, 0, none⟩) cur.length cap) cur.length (Lw.intsV .i64 (Lw.castL cur))
theorem own_other' {base e s n g cap : Nat} {w : World} {xs : List Value} (h : w.ownsRow base e s (.slice (some ⟨g, 0, none⟩) n cap) n xs) {k : Nat} {cs : Array Value} {t : TypeId} {z : Nat × Nat} (hk : w.heap[k]? = some (.cells cs t z)) (ht : t ≠ e) : g ≠ k := by
  rintro rfl
  rcases h.2 with ⟨h0, _⟩ | ⟨g', cap', cur, hu, hbg, hh, _⟩
  · cases h0
  · have e1 : g = g' := by injection hu with hu; injection hu with hu; injection hu
    subst e1
    rw [hk] at hh; injection hh with hh; injection hh with _ h3; exact ht h3
theorem DvS.push {w W : World} {Bx p k : Nat} {cur : List Nat} {g cap : Nat} {wr w' : World} {o : Obj} {v' : Value} {e : Nat} (h : DvS w W Bx p k cur g cap wr) (hc : w.heap.size + 1 + 1 < wr.heap.size) (hcur : 0 < cur.length)
    (own : w'.ownsRow w.heap.size 2 1 v' (cur.length + 1) (Lw.intsV .i64 (Lw.castL cur) ++ [.int .i64 (e : Int)])) (hg : (wr.alloc o).grownBy w' (some g)) (ho : v'.ownBlock = some g ∨ (v'.ownBlock = some (wr.alloc o).heap.size ∧ (wr.alloc o).grownBy w' none)) :
    ∃ g' cap', v' = .slice (some ⟨g', 0, none⟩) (cur.length + 1) cap' ∧ DvS w W Bx p k (cur ++ [e]) g' cap' (w'.setCell ⟨w.heap.size + 1, 0, none⟩ v') ∧
      ∀ gj s u, gj < wr.heap.size → gj ≠ w.heap.size + 1 → s < cur.length → (Lw.intsV .i64 (Lw.castL cur))[s]? = some u → wr.cell? ⟨gj, s, none⟩ = some u → (w'.setCell ⟨w.heap.size + 1, 0, none⟩ v').cell? ⟨gj, s, none⟩ = some u := by
  obtain ⟨h1, h2, h3, h4, h5, h6, h7⟩ := h
  obtain ⟨A', cap', rfl, _, _, hA⟩ := Lw.ownsForm own
  obtain ⟨g', rfl, hg1, hg2⟩ : ∃ g', A' = some ⟨g', 0, none⟩ ∧ w.heap.size ≤ g' ∧ g' < w'.heap.size := by
    rcases hA with rfl | hA
    · rcases own.2 with ⟨_, h0⟩ | ⟨_, _, _, h0, _⟩
      · omega
      · cases h0
    · exact hA
  have hgb := h7.lt g rfl
  have hb : ∀ j, j < wr.heap.size → j ≠ g → w'.heap[j]? = wr.heap[j]? := fun j hj hne => (hg.block j (by simp; omega) (fun e => hne (by injection e))).trans (Below.heap_alloc _ _ _ hj)
  have hgo := own_other' h7 h6 (by decide)
  have hgx := own_other' h7 h4 (by decide)
  have b6 := (hb _ (Lw.blk_lt h6) (fun e => hgo e.symm)).trans h6
  have hgo' := own_other' own b6 (by decide)
  have hxl := Lw.blk_lt h4
  have b4 := (hb _ hxl (fun e => hgx e.symm)).trans h4
  have hB3 := h3.size
  have hsl := hg.size
  simp at hsl
  have hB' : Below w.heap.size w w' := (h3.trans ((Lw.balloc (Below.refl _ wr) o).mono hB3)).trans (Lw.grown_below hg hgb.1 (by simp; omega))
  have hx1 : Bx ≠ w.heap.size + 1 := fun e => by subst e; rw [h4] at h6; injection h6 with h6; injection h6 with _ h6; exact absurd h6 (by decide)
  refine ⟨g', cap', rfl, ⟨?_, ?_, hB'.setCell (p := ⟨w.heap.size + 1, 0, none⟩) (by show w.heap.size ≤ w.heap.size + 1; omega) _, (Below.heap_setCell _ _ _ _ hx1).trans b4, ?_, ?_, ?_⟩, ?_⟩
  · refine h1.trans ((KeepsOthers.alloc wr o).trans (KeepsOthers.trans ⟨hg.size, fun j ob hj ho2 => ?_⟩ (KeepsOthers.setCell _ _ _)))
    refine (hg.block j (Array.getElem?_eq_some_iff.1 hj).1 (fun e => ?_)).trans hj
    have e1 : j = g := by injection e
    subst e1
    rcases (h7.alloc o).2 with ⟨h0, _⟩ | ⟨g2, cap2, cur2, hu, hbg, hh, _⟩
    · cases h0
    · have e2 : j = g2 := by injection hu with hu; injection hu with hu; injection hu
      subst e2
      rw [hj] at hh; injection hh with hh; subst hh; cases ho2
  · exact (Below.heap_setCell _ _ _ _ (by show w.heap.size + 1 + 1 ≠ w.heap.size + 1; omega)).trans ((hb _ hc (fun e => h5 e.symm)).trans h2)
  · rcases ho with e | ⟨e, _⟩
    · have e1 : g' = g := by injection e
      rw [e1]; exact h5
    · have e1 : g' = (wr.alloc o).heap.size := by injection e
      rw [e1]; simp; omega
  · have := Lw.blk_set_same b6 0 (.slice (some ⟨g', 0, none⟩) (cur.length + 1) cap')
    simpa using this
  · have hx := Lw.own_apart1 own (w' := w'.setCell ⟨w.heap.size + 1, 0, none⟩ (.slice (some ⟨g', 0, none⟩) (cur.length + 1) cap')) (Lw.grown_set (Below.refl _ _) _) (fun e => hgo' (by injection e with e; exact e.symm))
    have e1 : Lw.castL (cur ++ [e]) = Lw.castL cur ++ [(e : Int)] := by simp [Lw.castL]
    have e2 : Lw.intsV .i64 (Lw.castL cur ++ [(e : Int)]) = Lw.intsV .i64 (Lw.castL cur) ++ [.int .i64 (e : Int)] := by simp [Lw.intsV]
    rw [e1, e2, List.length_append]
    exact hx
  · intro gj s u hgj hne hs hxs hcell
    refine (Lw.cell_of_blk1 (W := w') ⟨gj, s, none⟩ (Below.heap_setCell _ _ _ _ (by show gj ≠ w.heap.size + 1; omega))).trans ?_
    by_cases hgg : gj = g'
    · subst hgg
      have hc := own.cells (g := gj) rfl s u (by rw [List.getElem?_append_left (by simp [Lw.intsV, Lw.castL]; exact hs)]; exact hxs)
      have e1 : (⟨gj, 0, none⟩ : Addr).add s = ⟨gj, s, none⟩ := by unfold Addr.add; split <;> simp_all
      rwa [e1] at hc
    · refine (Lw.cell_of_blk1 (W := wr) ⟨gj, s, none⟩ ?_).trans hcell
      rcases ho with e | ⟨e, hn⟩
      · exact hb gj hgj (fun e2 => hgg (by have e1 : g' = g := by injection e
                                           omega))
      · exact (hn.block gj (by simp; omega) (by simp)).trans (Below.heap_alloc _ _ _ hgj)
theorem sort_own (base g cap n : Nat) (e : TypeId) (zs : List Int) (w : World) (hl : zs.length = n) (hz : n ≤ 4194304) (own : w.ownsRow base e 1 (.slice (some ⟨g, 0, none⟩) n cap) n (Lw.intsV .i64 zs)) :
    Calls Try.prog 97 #[.slice (some ⟨g, 0, none⟩) n cap] w fun x w' => (∃ v, x = .returned v) ∧ w'.ownsRow base e 1 (.slice (some ⟨g, 0, none⟩) n cap) n (Lw.intsV .i64 (zs.mergeSort fun x y => decide (x ≤ y))) ∧ w.grownBy w' (some g) := by
  subst hl
  rcases own.2 with ⟨h0, _⟩ | ⟨g', cap', cur, hv, hbg, hb, h1, h2, h3, h4⟩
  · cases h0
  · cases hv
    rw [Nat.mul_one] at h4
    have hmx : zs.length ≤ maxLen := Nat.le_trans h1 h2
    refine (AnyM.slices_Sort_int Try.sortL g 0 cap zs w (holds_of_blockI hb h4) (Lw.blk_lt hb) (by omega)).mono fun x w' ⟨h, k, os, hw⟩ => ?_
    subst hw
    exact ⟨⟨_, h⟩, ownsRow_sortedI (by simp) hbg hb h1 h2 h3, grownBy_sortedI _⟩
set_option maxRecDepth 100000 in
set_option maxHeartbeats 8000000 in
theorem primes_Divisors (m : Nat) (w : World) (hm1 : 1 ≤ m) (hm2 : m ≤ 1048576) :
    Calls Try.prog 45 #[.int .i64 (m : Int)] w fun e w' => (∃ A k, e = .returned (.tuple #[.slice A (Lw.dvR m m).length k, .int .i64 0]) ∧ Lw.Rd w' 1 A (Lw.dvR m m).length (Lw.intsV .i64 (Lw.dvR m m))) ∧ Below w.heap.size w w' := by
  have ho := Lw.outB_false (n := (m : Int)) (by omega) (by omega)
  refine (callsIn_wide (n := 4)).1 ?_
  refine callsIn_of_wp_marks Try.func45 rfl trivial ?_ rfl
  simp only [Try.ntmps45, List.size_toArray, List.length_cons, List.length_nil, Nat.reduceAdd, Nat.reduceSub, Array.replicate_succ, Array.replicate_zero, List.push_toArray, List.append_toArray, List.nil_append, List.cons_append]
  gi_wp2_with (first | (refine ⟨trivial, ?_⟩; gi_at_call 95; refine (callsIn_wide.2 (primes_out _ _)).mono ?_; rintro e w' ⟨rfl, rfl⟩) | (refine ⟨trivial, ?_⟩; gi_at_call 96; refine (callsIn_wide.2 (primes_powers _ _)).mono ?_; rintro e w' ⟨rfl, rfl⟩))
  refine Lw.wpIn_rangeC rfl (by omega) (gf := 140) (lb := #[.pointer (some ⟨w.heap.size + 1 + 1, 0, none⟩)]) rfl trivial (enters_of Try.func140 (by kernel_rfl) rfl) (powers1_seq _ _ m _ (by omega) (by omega) (by omega) ?cell) ?lt (fun _ => rfl)
    (fun pre W => w.heap.size + 1 + 1 < W.heap.size ∧ Below w.heap.size w W ∧ ∃ g cap, g ≠ w.heap.size + 1 + 1 ∧ W.heap[w.heap.size + 1]? = some (.cells #[.slice (some ⟨g, 0, none⟩) (pre.foldl Lw.stepD [1]).length cap] 24 (0, 0)) ∧ W.ownsRow w.heap.size 2 1 (.slice (some ⟨g, 0, none⟩) (pre.foldl Lw.stepD [1]).length cap) (pre.foldl Lw.stepD [1]).length (Lw.intsV .i64 (Lw.castL (pre.foldl Lw.stepD [1]))))
    (fun k pre W => False)
    (Lw.own_and (Lw.own_size _) (Lw.own_and (Lw.own_below (by simp; omega) (Nat.le_refl _)) (Lw.own_ex fun g => Lw.own_ex fun cap => Lw.own_and (Lw.own_pure _) (Lw.own_and (Lw.blk_own _ _ (fun _ => _) (fun _ => rfl)) (Lw.own_row1 (fun _ => _) (fun _ => _) (fun _ => _))))))
    (Lw.AbC.and (Lw.abc_size _) (Lw.AbC.and (Lw.below_abc (by omega) (Nat.le_refl _)) (Lw.AbC.ex fun g => Lw.AbC.ex fun cap => ?abc)))
    (fun k => Lw.own_pure _) (fun k => Lw.abc_pure _) ?h0
    (fun x a' W => ∃ Bx, (w.heap.size + 1 + 1 < Bx ∧ a' = { tmps := #[.int .i64 (m : Int), undef, .slice none 0 0, .int .i64 0, .pointer (some ⟨w.heap.size + 1, 0, none⟩), .pointer (some ⟨Bx, 0, none⟩), undef, undef, undef, undef, .int .i64 (m : Int), .bool false, .slice (some ⟨w.heap.size, 0, none⟩) 1 1, .int .i64 (m : Int), .func (.func 140) #[] #[.pointer (some ⟨w.heap.size + 1 + 1, 0, none⟩)], .agg #[.int .i64 (x.1 : Int), .int .i64 (x.2 : Int)], undef, undef, undef, undef, undef, undef, undef, undef, undef, undef, undef, undef, undef, undef, undef, undef, undef, undef, undef, undef, undef, undef, undef, undef, undef, undef, undef, undef, undef], defers := [] }) ∧ W.heap[Bx]? = some (.cells #[.int .i64 (x.1 : Int), .int .i64 (x.2 : Int)] 142 (0, 0)))
    (fun x a' => Lw.own_ex fun Bx => Lw.own_and (Lw.own_pure _) (Lw.blk_own _ _ (fun _ => _) (fun _ => rfl))) ?assign ?body ?done ?stop
  case cell => exact Lw.blk_new' (by simp) _ _
  case lt => simp
  case abc =>
    rintro s W W' row ⟨h1, h2, h3⟩ hg hr
    exact ⟨h1, Lw.blk_kept h2 hg (fun e => by have := hr _ e; omega), Lw.own_apart1 h3 hg (fun e => h1 (hr _ e))⟩
  case h0 =>
    refine ⟨by simp, by go_grown, w.heap.size, 1, by omega, Lw.blk_alloc (Lw.blk_new' (by simp) _ _) _, ?_⟩
    exact ((Lw.own_lit w (e := 2) (size := 1) (cs := #[.int .i64 1]) (xs := Lw.intsV .i64 [1]) rfl rfl (by decide) (Nat.le_refl _)).alloc _).alloc _
  case assign =>
    intro l pre x W K hi hK
    have hsz := hi.1
    gi_wp2
    obtain ⟨hz, hB, g, cap, hg, b1, own⟩ := hi
    exact hK _ _ ((KeepsOthers.alloc _ _).from _) (Below.heap_alloc _ _ _ (by omega)) ⟨by simp; omega, hB.alloc hB.size _, g, cap, hg, Lw.blk_alloc b1 _, own.alloc _⟩ ⟨W.heap.size, ⟨hsz, rfl⟩, Lw.blk_new _ _ _⟩
  case body =>
    rename_i Q1 K1 HK1
    clear HK1 K1 Q1
    rintro l pre ⟨p, k⟩ a' W hl ⟨r, hr⟩ ⟨hz, hB, g, cap, hg, b1, own⟩ ⟨Bx, ⟨hBx, rfl⟩, bx⟩ hx
    obtain ⟨d1, d2, d3⟩ := Lw.dv_pref m 1 [1] (by omega) Lw.dvp_one (fun q hq _ h => by have := Nat.le_of_dvd (by decide) h; have := hq.1; omega) pre ⟨[(p, k)] ++ hx.choose, by have := hx.choose_spec; simpa using this⟩
    obtain ⟨hp, hpn, hpd⟩ := d3 (p, k) hx
    simp only at hp hpn hpd
    simp only [Nat.one_mul] at d1 hpn hpd
    have HFS := Lib.hid (show (pre ++ [(p, k)]).foldl Lw.stepD [1] = Lw.stepJ (pre.foldl Lw.stepD [1]) p k by rw [List.foldl_append]; rfl)
    obtain ⟨L, hL⟩ : ∃ L, pre.foldl Lw.stepD [1] = L := ⟨_, rfl⟩
    obtain ⟨N, hN⟩ : ∃ N, Lw.prodL pre = N := ⟨_, rfl⟩
    rw [hL] at d1 b1 own HFS
    rw [hN] at d1 hpn hpd
    have HST := Lib.hid (fun j (hj : j ≤ k) => show Lw.DvP (N * p ^ j) (Lw.stepJ L p j) ∧ N * p ^ j ≤ m from ⟨Lw.dvp_step d1 hp hpn j, Nat.le_trans (Nat.mul_le_mul_left N (Nat.pow_le_pow_right (by have := hp.1; omega) hj)) (Nat.le_of_dvd (by omega) hpd)⟩)
    have hLm : L.length ≤ m := by have := (HST.out 0 (by omega)).1.2.2.1; have := (HST.out 0 (by omega)).2; simp [Lw.stepJ] at *; omega
    have hkm : k ≤ 1048576 := by
      have h1 := (HST.out k (Nat.le_refl _)).2
      have h2 := Lw.succ_le_pow hp.1 k
      have h3 := d1.2.2.2
      have h4 := Nat.le_mul_of_pos_left (p ^ k) h3
      omega
    have D0 : Hid (DvS w W Bx p k (Lw.stepJ L p 0) g cap W) := ⟨KeepsOthers.refl _, rfl, hB, bx, hg, b1, own⟩
    have cx0 := Lw.blk_cell bx 0; have cx1 := Lw.blk_cell bx 1; have cl := Lw.blk_cell b1 0
    simp at cx0 cx1 cl
    have HP := Lib.hid hp
    have D1 := Lib.hid d1
    clear hx hr own b1 bx d1 d2 d3 hp hpn hpd hL hN
    gi_wp2
    gi_loopw [7, 20] (fun q i wr => ∃ (j g cap : Nat), i = .int .i64 (j : Int) ∧ j ≤ k ∧ q = .int .i64 ((p ^ j : Nat) : Int) ∧ W.heap.size ≤ wr.heap.size ∧ Hid (DvS w W Bx p k (Lw.stepJ L p j) g cap wr)) (fun _ i _ => k - (intOf i).toNat)
    case atStart => exact ⟨0, g, cap, rfl, by omega, by rw [Nat.pow_zero]; rfl, Nat.le_refl _, D0⟩
    case round =>
      obtain ⟨j, g, cap, rfl, j1, rfl, hWr, DS⟩ := hrel
      by_cases hjk : j < k
      · have hjk' : (j : Int) < (k : Int) := by omega
        have DJ := Lib.hid (HST.out (j + 1) (by omega))
        have hQb : p ^ (j + 1) ≤ 1048576 := by
          have h1 := DJ.out.2
          have h3 := D1.out.2.2.2
          have h4 := Nat.le_mul_of_pos_left (p ^ (j + 1)) h3
          omega
        have hQ : ((p ^ j : Nat) : Int) * (p : Int) = ((p ^ (j + 1) : Nat) : Int) := by rw [Nat.pow_succ]; simp
        have SJ : Hid (Lw.stepJ L p (j + 1) = Lw.stepJ L p j ++ L.map (fun d => d * p ^ (j + 1))) := rfl
        obtain ⟨Q1, hQ1⟩ : ∃ Q, p ^ j = Q := ⟨_, rfl⟩
        obtain ⟨Q2, hQ2⟩ : ∃ Q, p ^ (j + 1) = Q := ⟨_, rfl⟩
        rw [hQ1, hQ2] at hQ
        rw [hQ2] at hQb SJ DJ
        rw [hQ1]
        have HQ2 := Lib.hid hQ2
        clear hQ1 hQ2
        have SJL := Lw.stepJ_length L p j
        have hLp : 0 < L.length := by
          rcases Nat.eq_zero_or_pos L.length with h | h
          · have : (1 : Nat) ∈ L := (D1.out.2.1 1).2 (Nat.one_dvd _)
            rw [List.length_eq_zero_iff.1 h] at this; cases this
          · exact h
        have hJl : (Lw.stepJ L p j).length ≤ m := by have := (HST.out j (by omega)).1.2.2.1; have := (HST.out j (by omega)).2; omega
        have hJL : L.length ≤ (Lw.stepJ L p j).length := by rw [SJL]; exact Nat.le_mul_of_pos_right _ (by omega)
        obtain ⟨s1, s2, s3, s4, s5, s6, s7⟩ := DS.out
        have cl := Lw.blk_cell s6 0; have cx0 := Lw.blk_cell s4 0
        simp at cl cx0
        obtain ⟨_, _, he, hcap, _, _⟩ := Lw.ownsForm s7
        injection he with he1 he2 he3
        subst he3
        have hLcap : L.length ≤ cap := by omega
        have SJH := Lib.hid s7
        clear SJL s1 s2 s3 s4 s5 s6 s7 he1 he2
        have hgl := SJH.out.lt g rfl
        have hgo := own_other' SJH.out (show wr.heap[w.heap.size + 1]? = _ from DS.out.2.2.2.2.2.1) (by decide)
        have RD0 := Lib.hid (show ∀ s (h : s < L.length), wr.cell? ⟨g, s, none⟩ = some (.int .i64 (L[s] : Int)) from fun s h => by
          have hc := SJH.out.cells (g := g) rfl s _ (Lw.castL_get (Lw.stepJ_get h j))
          have e1 : (⟨g, 0, none⟩ : Addr).add s = ⟨g, s, none⟩ := by unfold Addr.add; split <;> simp_all
          rwa [e1] at hc)
        gi_wp2
        gi_loopw [9, 30] (fun _ iv wi => ∃ (t g2 cap2 : Nat), iv = .int .i64 (t : Int) ∧ t ≤ L.length ∧ wr.heap.size ≤ wi.heap.size ∧ Hid (DvS w W Bx p k (Lw.stepJ L p j ++ (L.take t).map (fun d => d * Q2)) g2 cap2 wi) ∧ Hid (∀ s (h : s < L.length), wi.cell? ⟨g, s, none⟩ = some (.int .i64 (L[s] : Int)))) (fun _ iv _ => L.length - (intOf iv).toNat)
        case atStart => exact ⟨0, g, cap, rfl, by omega, Nat.le_refl _, by rw [List.take_zero, List.map_nil, List.append_nil]; exact DS.out, RD0.out⟩
        case round =>
          obtain ⟨t, g2, cap2, rfl, t1, hWi, DS2, RD⟩ := hrel
          by_cases hlt : t < L.length
          · have hlt' : (t : Int) < (L.length : Int) := by omega
            have hce := RD.out t hlt
            have hme := Lib.hid (show L[t] * Q2 ≤ m from by
              have h1 : L[t] * Q2 ∈ Lw.stepJ L p (j + 1) := by rw [SJ.out]; exact List.mem_append_right _ (List.mem_map.2 ⟨_, List.getElem_mem hlt, rfl⟩)
              have h2 := (DJ.out.1.2.1 _).1 h1
              have h3 := Nat.le_of_dvd DJ.out.1.2.2.2 h2
              have := DJ.out.2
              omega)
            have TKS := Lib.hid (show Lw.stepJ L p j ++ (L.take (t + 1)).map (fun d => d * Q2) = (Lw.stepJ L p j ++ (L.take t).map (fun d => d * Q2)) ++ [L[t] * Q2] by rw [List.take_succ_eq_append_getElem hlt, List.map_append, ← List.append_assoc]; rfl)
            have PRE := Lib.hid (show ∀ s (h : s < L.length), s < (Lw.stepJ L p j ++ (L.take t).map (fun d => d * Q2)).length ∧ (Lw.intsV .i64 (Lw.castL (Lw.stepJ L p j ++ (L.take t).map (fun d => d * Q2))))[s]? = some (.int .i64 (L[s] : Int)) from fun s h => ⟨by rw [List.length_append]; omega, Lw.castL_get (by rw [List.getElem?_append_left (by omega)]; exact Lw.stepJ_get h j)⟩)
            have hcl : (Lw.stepJ L p j ++ (L.take t).map (fun d => d * Q2)).length ≤ 2097152 := by rw [List.length_append, List.length_map, List.length_take]; omega
            have hcp : 0 < (Lw.stepJ L p j ++ (L.take t).map (fun d => d * Q2)).length := by rw [List.length_append]; omega
            obtain ⟨d, hd⟩ : ∃ d, L[t] = d := ⟨_, rfl⟩
            rw [hd] at hce hme TKS
            generalize hcur : Lw.stepJ L p j ++ (L.take t).map (fun d => d * Q2) = cur at *
            have hmul : (d : Int) * (Q2 : Int) = ((d * Q2 : Nat) : Int) := by simp
            generalize hE : d * Q2 = E at *
            have hEm : E ≤ m := hme.out
            obtain ⟨s1, s2, s3, s4, s5, s6, s7⟩ := DS2.out
            have cl2 := Lw.blk_cell s6 0
            simp at cl2
            have S7 := Lib.hid s7
            have S6 := Lib.hid s6
            have hsi := s3.size
            clear s1 s2 s3 s4 s5 s6 s7 hd hcur hE
            have hzi := Nat.lt_of_lt_of_le (Nat.lt_of_lt_of_le hz hWr) hWi
            gi_wp2_with (gi_at_builtin; go_loud (refine Lw.wpListIn_app1 elI64 rfl _ _ rfl rfl (World.ownsRow.alloc S7.out _) rfl (u := .int .i64 (E : Int)) (by simp) rfl (by omega) (by simp; omega) ?_); intro v5 w5 own5 hg5 ho5; obtain ⟨A5, c5, rfl, _⟩ := Lw.ownsForm own5; have b5 := (hg5.block (w.heap.size + 1) (by simp; omega) (fun e => own_other' S7.out S6.out (by decide) (by injection e with e; exact e.symm))).trans (Lw.blk_alloc S6.out _); have c5' := Lw.blk_cell b5 0; have f5 := Lw.blk_free b5 0; simp at c5')
            obtain ⟨g', cap', he, DS3, RD3⟩ := DvS.push DS2.out hzi hcp own5 hg5 ho5
            cases he
            go_roundw
            case rel =>
              refine ⟨t + 1, g', _, by go_num, by omega, ?_, by rw [TKS.out]; exact DS3, fun s h => ?_⟩
              · have h9 := hg5.size; simp at h9 ⊢; omega
              · exact RD3 g s _ (by omega) hgo (PRE.out s h).1 (PRE.out s h).2 (RD.out s h)
            case measure => simp [intOf]; omega
          · have hlt' : ¬ (t : Int) < (L.length : Int) := by omega
            have hlk : L.take t = L := List.take_of_length_le (by omega)
            have DS3 := DS2.out
            rw [hlk, ← SJ.out] at DS3
            have DS3 := Lib.hid DS3
            clear hlk
            gi_wp2
            go_roundw
            case rel => exact ⟨j + 1, g2, cap2, by go_num, by omega, by rw [HQ2.out], by omega, DS3⟩
            case measure => simp [intOf]; omega
      · have hjk' : ¬ (j : Int) < (k : Int) := by omega
        obtain rfl : j = k := by omega
        gi_wp2
        obtain ⟨s1, s2, s3, s4, s5, s6, s7⟩ := DS.out
        refine ⟨s1.from _, s2, ?_, s3, g, s5, cap, ?_, ?_⟩
        · omega
        · rw [HFS.out]; exact s6
        · rw [HFS.out]; exact s7
  case done =>
    rintro D W hD ⟨hz, hB, g, cap, hg, b1, own⟩ hK
    have hdv : (Lw.fac m).foldl Lw.stepD [1] = Lw.dvL m := rfl
    rw [hdv] at b1 own
    have hls : (Lw.dvL m).length ≤ m := (Lw.dvL_ok (by omega)).2.2.1
    have hlc : (Lw.castL (Lw.dvL m)).length = (Lw.dvL m).length := by simp [Lw.castL]
    have c0 := Lw.blk_cell b1 0
    simp at c0
    have hgb := (own.lt g rfl)
    have SO := Lib.hid (sort_own w.heap.size g cap _ 2 (Lw.castL (Lw.dvL m)) W hlc (by omega) own)
    rw [Lw.dv_sorted (by omega)] at SO
    have hng := Lib.hid (own_other' own b1 (by decide))
    have B1 := Lib.hid b1
    have HK := Lib.hid hK
    have OWB := Lib.hid (show ∃ cs z, W.heap[g]? = some (.cells cs 2 z) from by
      rcases own.2 with ⟨h0, _⟩ | ⟨g', cap', cur, hu, hbg, hh, _⟩
      · cases h0
      · have e1 : g = g' := by injection hu with hu; injection hu with hu; injection hu
        subst e1; exact ⟨_, _, hh⟩)
    have hle : (Lw.dvL m).length = (Lw.dvR m m).length := by rw [← Lw.dv_sorted (by omega), List.length_mergeSort, hlc]
    rw [hle] at c0 SO B1
    have hnn := Lib.hid hle
    clear own b1 hK hlc hdv hls hle
    gi_wp2_with (refine ⟨trivial, ?_⟩; gi_at_call 97; refine (callsIn_wide.2 SO.out).mono ?_; rintro e w3 ⟨⟨v, rfl⟩, own3, hg3⟩; have b3 := (hg3.block (w.heap.size + 1) (by omega) (fun e => hng.out (by injection e with e; exact e.symm))).trans B1.out; have c3 := Lw.blk_cell b3 0; simp at c3)
    have hKD : w3.heap[D]? = some (.deferred (some [])) := by
      refine (hg3.block D (Lw.blk_lt HK.out) (fun e => ?_)).trans HK.out
      injection e with e
      subst e
      have h9 := own3.2
      have : ∃ cs z, W.heap[D]? = some (.cells cs 2 z) := OWB.out
      obtain ⟨cs, z, h⟩ := this
      rw [HK.out] at h; cases h
    refine ⟨by simp, .inl ⟨_, _, rfl, run_takeDeferred hKD, ?_⟩⟩
    have hB3 : Below w.heap.size w w3 := hB.trans (Lw.grown_below hg3 hgb.1 hB.size)
    refine ⟨_, results_tmp2 rfl _ _ _, ⟨_, _, rfl, ?_⟩, hB3.trans (belowK_b (w := w) (Nat.le_refl _) w3 D _ _ (by simp at hD; omega) hKD rfl rfl)⟩
    exact Lw.Rd.of_own (ownsRow_putObj own3 _ hKD rfl)
  case stop => intro D k pre W _ _ h; exact h.elim
end Go.Proofs.Ytlgegdmnbhoepaa
