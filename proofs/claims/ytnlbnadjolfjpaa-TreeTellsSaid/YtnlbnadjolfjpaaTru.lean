/- tree.up: the row above one. -/
import Derived.Test.YtnlbnadjolfjpaaChk
import Derived.Test.YtnlbnadjolfjpaaTrh
namespace Lw
open Go Go.RowKit
def upG (R : List Int) (x : Nat × Nat) : Int := if x.2 = 1 then R.getD x.1 0 else hsum (pairT (R.getD x.1 0) (R.getD (x.1 + 1) 0))
/-- the row above one -/
def upL (R : List Int) : List Int := (chk R.length ((R.length + 1) / 2)).map (upG R)
theorem upL_length (R : List Int) : (upL R).length = (R.length + 1) / 2 := by unfold upL; rw [List.length_map, chk_length]
theorem chk_get (len : Nat) : ∀ (m i : Nat), i < m → (chk len m)[i]? = some (2 * i, min 2 (len - 2 * i))
  | m + 1, i, h => by
    unfold chk
    by_cases hi : i < m
    · rw [List.getElem?_append_left (by rw [chk_length]; exact hi)]; exact chk_get len m i hi
    · have : i = m := by omega
      subst this
      rw [List.getElem?_append_right (by rw [chk_length]; exact Nat.le_refl _), chk_length]; simp
theorem upL_get (R : List Int) {i : Nat} (h : i < (R.length + 1) / 2) : (upL R).getD i 0 = if R.length ≤ 2 * i + 1 then R.getD (2 * i) 0 else hsum (pairT (R.getD (2 * i) 0) (R.getD (2 * i + 1) 0)) := by
  unfold upL
  rw [List.getD_eq_getElem?_getD, List.getElem?_map, chk_get _ _ _ h]
  show upG R (2 * i, min 2 (R.length - 2 * i)) = _
  unfold upG
  dsimp only
  by_cases h2 : R.length ≤ 2 * i + 1
  · rw [if_pos h2, if_pos (by omega)]
  · rw [if_neg h2, if_neg (by omega)]
theorem getD_bd {R : List Int} (h : ∀ z ∈ R, 0 ≤ z ∧ z < 65536) (i : Nat) : 0 ≤ R.getD i 0 ∧ R.getD i 0 < 65536 := by
  rw [List.getD_eq_getElem?_getD]
  cases he : R[i]? with
  | none => simp
  | some z => exact h z (List.mem_of_getElem? he)
theorem upG_bd {R : List Int} (h : ∀ z ∈ R, 0 ≤ z ∧ z < 65536) (x : Nat × Nat) : 0 ≤ upG R x ∧ upG R x < 65536 := by
  unfold upG
  split
  · exact getD_bd h _
  · exact hsum_bd _
theorem upL_bd {R : List Int} (h : ∀ z ∈ R, 0 ≤ z ∧ z < 65536) : ∀ z ∈ upL R, 0 ≤ z ∧ z < 65536 := by
  intro z hz
  obtain ⟨x, _, rfl⟩ := List.mem_map.1 hz
  exact upG_bd h x
theorem own_row {β : Type} {B base e sz : Nat} (v : β → Value) (n : β → Nat) (xs : β → List Value) : OwnFrom B (fun (s : β) W => W.ownsRow base e sz (v s) (n s) (xs s)) := by
  intro s W W' row h hg hr
  obtain ⟨hl, h2⟩ := h
  refine ⟨hl, ?_⟩
  rcases h2 with h0 | ⟨g, cap, cur, hv, hbg, hh, rest⟩
  · exact .inl h0
  · refine .inr ⟨g, cap, cur, hv, hbg, blk_kept hh hg (fun e => ?_), rest⟩
    obtain ⟨_, o', h', hn⟩ := hr g e
    rw [hh] at h'; cases h'; cases hn
theorem app_end {W W1 w3 : World} {base e n : Nat} {v : Value} {xs : List Value} (own : W.ownsRow base e 1 v n xs) (hb : Below W.heap.size W W1) (hg : W1.grownBy w3 v.ownBlock) :
    KeepsOthers W w3 ∧ ∀ k, k < base → k < W.heap.size → w3.heap[k]? = W.heap[k]? := by
  have hsz := hb.size
  refine ⟨⟨Nat.le_trans hsz hg.size, fun k o hk ho => ?_⟩, fun k hk hk2 => ?_⟩
  · have hkl := (Array.getElem?_eq_some_iff.1 hk).1
    rw [hg.block k (by omega) (fun e => ?_), hb.block k hkl]; exact hk
    rcases own.2 with ⟨h0, _⟩ | ⟨g, cap, cur, hv, hbg, hh, _⟩
    · subst h0; cases e
    · subst hv
      have : k = g := by injection e
      subst this
      rw [hk] at hh; injection hh with hh; subst hh; cases ho
  · rw [hg.block k (by omega) (fun e => ?_), hb.block k hk2]
    have := (own.lt k e.symm).1; omega
end Lw
namespace Go.Proofs.Ytnlbnadjolfjpaa
open Go.RowKit Go.Shelf
attribute [local go_sem] Oper.semAt_some
theorem elU32 : Lw.El Try.prog 41 33 (.int .u32 0) 1 4 := Lw.El.mk' Try.underlying41 (by kernel_rfl) rfl (by decide) (by decide)
set_option maxRecDepth 100000 in
set_option maxHeartbeats 4000000 in
theorem tree_up (A : Option Addr) (n c : Nat) (R : List Int) (w : World) (RD : Lw.Rd w 1 A n (Lw.intsV .u32 R)) (hR : ∀ z ∈ R, 0 ≤ z ∧ z < 65536) (h0 : 0 < n) (hn : n ≤ 1048576) (hc : n ≤ c) :
    Calls Try.prog 62 #[.slice A n c] w (Lw.OwnRes 33 1 (Lw.intsV .u32 (Lw.upL R)) ((n + 1) / 2) w) := by
  have LR := Lib.hid (show R.length = n by have := RD.1; simpa [Lw.intsV] using this)
  obtain ⟨ad, rfl, had, hcell⟩ := RD.2 h0
  have HC := Lib.hid (show ∀ j, j < n → w.cell? (ad.add j) = some (.int .u32 (R.getD j 0)) from fun j hj => by
    have hl : j < R.length := by rw [LR.out]; exact hj
    refine hcell j _ ?_
    rw [List.getD_eq_getElem?_getD, List.getElem?_eq_getElem hl]
    exact Lw.intsV_get hl)
  have HB := Lib.hid hR
  have UP : Hid (Lw.upL R = (Lw.chk n ((n + 1) / 2)).map (Lw.upG R)) := by unfold Lw.upL; rw [LR.out]; exact rfl
  clear hcell RD hR
  refine (callsIn_wide (n := 4)).1 ?_
  refine callsIn_of_wp_marks Try.func62 rfl trivial ?_ rfl
  simp only [Try.ntmps62, List.size_toArray, List.length_cons, List.length_nil, Nat.reduceAdd, Nat.reduceSub, Array.replicate_succ, Array.replicate_zero, List.push_toArray, List.append_toArray, List.nil_append, List.cons_append]
  gi_wp2_with (refine ⟨trivial, ?_⟩; gi_at_call 83; refine (callsIn_wide.2 (chunk_two _ _ _ _)).mono ?_; rintro e w' ⟨rfl, rfl⟩)
  obtain ⟨wm, hwm⟩ : ∃ wm, ((w.alloc (.cells #[.slice none 0 0] 41)).alloc (.cells #[.slice (some ad) n c] 41)).alloc (.cells #[.int .i64 2] 3) = wm := ⟨_, rfl⟩
  have hsz : wm.heap.size = w.heap.size + 3 := by rw [← hwm]; simp
  have hBW : Below w.heap.size w wm := by rw [← hwm]; exact Lw.balloc (Lw.balloc (Lw.balloc (Below.refl _ _) _) _) _
  have bL : wm.heap[w.heap.size]? = some (.cells #[.slice none 0 0] 41 (0, 0)) := by rw [← hwm]; exact Lw.blk_alloc (Lw.blk_alloc (Lw.blk_new _ _ _) _) _
  have cS : wm.cell? ⟨w.heap.size + 1, 0, none⟩ = some (.slice (some ad) n c) := by
    have := Lw.blk_cell (show wm.heap[w.heap.size + 1]? = some (.cells #[.slice (some ad) n c] 41 (0, 0)) from by rw [← hwm]; exact Lw.blk_alloc (Lw.blk_new' (by simp) _ _) _) 0
    rw [this]; rfl
  have cN : wm.cell? ⟨w.heap.size + 2, 0, none⟩ = some (.int .i64 2) := by
    have := Lw.blk_cell (show wm.heap[w.heap.size + 2]? = some (.cells #[.int .i64 2] 3 (0, 0)) from by rw [← hwm]; exact Lw.blk_new' (by simp) _ _) 0
    rw [this]; rfl
  (try rw [hwm])
  refine wpIn_rangeFunc_ownG rfl (by omega) (gf := 92) (lb := #[.pointer (some ⟨w.heap.size + 1, 0, none⟩), .pointer (some ⟨w.heap.size + 2, 0, none⟩)]) rfl trivial (enters_of Try.func92 (by kernel_rfl) rfl)
    (chunk_stops (w.heap.size + 1) (w.heap.size + 2) n c ad hn hc _ (by omega) wm (by omega) (by omega) cS cN) Lw.KB.trans (Lw.KB.put (by omega) (by omega)) (Below.refl _ _) (fun _ => rfl)
    (fun pre W => w.heap.size + 2 < W.heap.size ∧ Below w.heap.size w W ∧ ∃ v, W.heap[w.heap.size]? = some (.cells #[v] 41 (0, 0)) ∧ W.ownsRow (w.heap.size + 3) 33 1 v pre.length (Lw.intsV .u32 ((pre.map Subtype.val).map (Lw.upG R))))
    (fun _ _ _ => False)
    (Lw.own_and (Lw.own_size _) (Lw.own_and (Lw.own_below (by omega) (Nat.le_refl _)) (Lw.own_ex fun v => Lw.own_and (Lw.blk_own _ _ _ (fun _ => rfl)) (Lw.own_row _ _ _))))
    (fun _ _ _ _ _ hs _ _ => hs)
    ⟨by omega, hBW, _, bL, World.ownsRow_nil _ _ _ _⟩
    (fun x => { tmps := #[.slice (some ad) n c, undef, .slice none 0 0, .pointer (some ⟨w.heap.size, 0, none⟩), .slice (some (ad.add x.1.1)) x.1.2 x.1.2, .slice (some ad) n c, .func (.func 92) #[] #[.pointer (some ⟨w.heap.size + 1, 0, none⟩), .pointer (some ⟨w.heap.size + 1 + 1, 0, none⟩)], .slice (some (ad.add x.1.1)) x.1.2 x.1.2, undef, undef, undef, undef, undef, undef, undef, undef, undef, undef, undef, undef, undef, undef, undef, undef, undef, undef, undef, undef, undef], defers := [] }) ?assign ?body ?done ?stop
  case assign =>
    intro l x W K hK
    gi_wp2
    exact hK
  case body =>
    rintro l pre ⟨⟨s, d⟩, ok⟩ W ⟨hws, hB, v, bl, own⟩ hlen
    obtain ⟨ok1, ok2⟩ := ok
    simp only at ok1 ok2
    obtain ⟨Av, gv, rfl, _⟩ := Lw.ownsForm own
    have c0 := Lw.blk_cell bl 0
    have f0 := Lw.blk_free bl 0
    simp at c0
    have hbD : Below w.heap.size w W.drew := Below.drew hB
    have hS0 : Lw.Sm w W.drew := Lw.sm_of hbD
    have hwd : W.drew.heap.size = W.heap.size := rfl
    refine wpIn_block ?_
    obtain ⟨a0, a1⟩ := Lw.getD_bd HB.out s
    obtain ⟨b0, b1⟩ := Lw.getD_bd HB.out (s + 1)
    have ha := HC.out s (by omega)
    have hab : (ad.add s).block < w.heap.size := by rw [Lw.add_block]; exact had
    have PL : Hid ((pre ++ [(⟨(s, d), ok1, ok2⟩ : Lw.Pc n)]).length = pre.length + 1) := by simp [Hid]
    have GS : Hid (Lw.intsV .u32 (((pre ++ [(⟨(s, d), ok1, ok2⟩ : Lw.Pc n)]).map Subtype.val).map (Lw.upG R)) = Lw.intsV .u32 ((pre.map Subtype.val).map (Lw.upG R)) ++ Lw.intsV .u32 [Lw.upG R (s, d)]) := by
      rw [List.map_append, List.map_append, Lw.intsV_app]; exact rfl
    have LEN := Lib.hid hlen
    rcases ok2 with rfl | rfl
    · have hG : Lw.upG R (s, 1) = R.getD s 0 := rfl
      obtain ⟨a, hax⟩ : ∃ a, R.getD s 0 = a := ⟨_, rfl⟩
      rw [hG] at GS
      rw [hax] at ha GS a0 a1
      have cA : (W.alloc (.cells #[.int .u32 a] 33)).cell? ⟨w.heap.size, 0, none⟩ = some (.slice Av pre.length gv) := by
        have := Lw.blk_cell (Lw.blk_alloc bl (.cells #[.int .u32 a] 33)) 0
        simpa using this
      gi_wp2
      refine Lw.wpIn_region_drew (S := Lw.Sm w) (by kernel_rfl) (fun ⟨_, _, h⟩ => h) (by kernel_rfl) hS0 (fun hHeld => ?_)
      (refine Lw.take1 (i := 1) (v := ?_) rfl (by kernel_rfl) (by kernel_rfl) (by kernel_rfl) (fun _ _ _ h => h) (Or.inl ⟨by rfl, ?_⟩) (by assumption) ?_; rotate_left 1; (focus (intro wS hSw; obtain ⟨hS1, hS2, hS3, hS4⟩ := hSw; go_simp <;> with_reducible rfl)); (try simp only [Act.put, List.setIfInBounds_toArray, List.set_cons_zero, List.set_cons_succ]))
      (refine Lw.take1 (i := 2) (v := ?_) rfl (by kernel_rfl) (by kernel_rfl) (by kernel_rfl) (fun _ _ _ h => h) (Or.inl ⟨by rfl, ?_⟩) (by assumption) ?_; rotate_left 1; (focus (intro wS hSw; obtain ⟨hS1, hS2, hS3, hS4⟩ := hSw; go_simp <;> with_reducible rfl)); (try simp only [Act.put, List.setIfInBounds_toArray, List.set_cons_zero, List.set_cons_succ]))
      (refine Lw.take1 (i := 3) (v := ?_) rfl (by kernel_rfl) (by kernel_rfl) (by kernel_rfl) (fun _ _ _ h => h) (Or.inl ⟨by rfl, ?_⟩) (by assumption) ?_; rotate_left 1; (focus (intro wS hSw; obtain ⟨hS1, hS2, hS3, hS4⟩ := hSw; go_simp <;> with_reducible rfl)); (try simp only [Act.put, List.setIfInBounds_toArray, List.set_cons_zero, List.set_cons_succ]))
      refine wpAnyH_ready (rs := [0, 4]) (by kernel_rfl) (by simp) ?_
      refine Lw.cons1 (i := 0) rfl (fun K hK => ?_) (Lw.cons1 (i := 4) rfl (fun K hK => ?_) AllReadyH.nil)
      · (go_simp; refine hK.out _ _ ?_ (fun hHeld => ?_); (focus exact hS0); clear hK K; (try simp only [Act.put, List.setIfInBounds_toArray, List.set_cons_zero, List.set_cons_succ]))
        (refine wpAnyH_ready (rs := [4]) (by kernel_rfl) (by simp) ?_; refine Lw.cons1 (i := 4) rfl (fun K hK => ?_) AllReadyH.nil; go_simp; refine hK.out _ _ ?_ (fun hHeld => ?_); (focus exact Lw.sm_of (Lw.balloc hbD _)); clear hK K; (try simp only [Act.put, List.setIfInBounds_toArray, List.set_cons_zero, List.set_cons_succ]))
        (refine wpAnyH_ready (rs := [5]) (by kernel_rfl) (by simp) ?_; refine Lw.cons1 (i := 5) rfl (fun K hK => ?_) AllReadyH.nil; refine Lw.step_app elU32 rfl _ _ rfl rfl ((Lw.own_drew own).alloc _) rfl (Lw.Rd.lit (Lw.blk_new' rfl _ _) rfl rfl) (Lw.intsV_one _ [a]) (by omega) (Lw.balloc hbD _) (by omega) (by simp; omega) ?_; intro v3 w3 own3 hb3 hg3 _; refine hK.out _ _ ?_ (fun hHeld => ?_); (focus exact Lw.sm_of hb3); clear hK K; (try simp only [Act.put, List.setIfInBounds_toArray, List.set_cons_zero, List.set_cons_succ]))
        obtain ⟨Aq, gq, rfl, _⟩ := Lw.ownsForm own3
        have BP3 := Lw.box_grown (Lw.blk_drew bl) (Lw.own_drew own) (by omega) hg3
        have E3 := Lw.app_end (Lw.own_drew own) (Lw.balloc (Below.refl _ _) _) hg3
        have f3 := Lw.blk_free BP3 0
        have g3 := Lw.blk_cell BP3 0
        simp at g3
        have HS3 := Nat.lt_of_lt_of_le hws ((show W.heap.size ≤ w3.heap.size from Nat.le_trans ((Below.refl W.heap.size W).size) E3.1.size))
        (refine wpAnyH_ready (rs := [6]) (by kernel_rfl) (by simp) ?_; refine Lw.cons1 (i := 6) rfl (fun K hK => ?_) AllReadyH.nil; go_simp; refine hK.out _ _ ?_ (fun hHeld => ?_); (focus exact Lw.sm_of (hb3.setCell (p := ⟨w.heap.size, 0, none⟩) (Nat.le_refl _) _)); clear hK K; (try simp only [Act.put, List.setIfInBounds_toArray, List.set_cons_zero, List.set_cons_succ]))
        refine wpAnyH_done (by kernel_rfl) ?_ _
        exact ⟨(((KeepsOthers.drew W).trans E3.1).trans (KeepsOthers.setCell _ _ _)).from _, ⟨(Below.heap_setCell _ _ _ _ (by show w.heap.size + 1 ≠ w.heap.size; omega)).trans ((E3.2 _ (by omega) (by omega)).trans ((Below.refl W.heap.size W).block _ (by show w.heap.size + 1 < W.heap.size; omega))), (Below.heap_setCell _ _ _ _ (by show w.heap.size + 2 ≠ w.heap.size; omega)).trans ((E3.2 _ (by omega) (by omega)).trans ((Below.refl W.heap.size W).block _ (by show w.heap.size + 2 < W.heap.size; omega)))⟩, by rw [World.size_setCell]; exact HS3, hb3.setCell (p := ⟨w.heap.size, 0, none⟩) (Nat.le_refl _) _, _, Lw.blk_set_same BP3 0 _, by rw [PL.out, GS.out]; exact Lw.bset_own own3 (by omega)⟩
      · (go_simp; refine hK.out _ _ ?_ (fun hHeld => ?_); (focus exact Lw.sm_of (Lw.balloc hbD _)); clear hK K; (try simp only [Act.put, List.setIfInBounds_toArray, List.set_cons_zero, List.set_cons_succ]))
        (refine wpAnyH_ready (rs := [0]) (by kernel_rfl) (by simp) ?_; refine Lw.cons1 (i := 0) rfl (fun K hK => ?_) AllReadyH.nil; go_simp; refine hK.out _ _ ?_ (fun hHeld => ?_); (focus exact Lw.sm_of (Lw.balloc hbD _)); clear hK K; (try simp only [Act.put, List.setIfInBounds_toArray, List.set_cons_zero, List.set_cons_succ]))
        (refine wpAnyH_ready (rs := [5]) (by kernel_rfl) (by simp) ?_; refine Lw.cons1 (i := 5) rfl (fun K hK => ?_) AllReadyH.nil; refine Lw.step_app elU32 rfl _ _ rfl rfl ((Lw.own_drew own).alloc _) rfl (Lw.Rd.lit (Lw.blk_new' rfl _ _) rfl rfl) (Lw.intsV_one _ [a]) (by omega) (Lw.balloc hbD _) (by omega) (by simp; omega) ?_; intro v3 w3 own3 hb3 hg3 _; refine hK.out _ _ ?_ (fun hHeld => ?_); (focus exact Lw.sm_of hb3); clear hK K; (try simp only [Act.put, List.setIfInBounds_toArray, List.set_cons_zero, List.set_cons_succ]))
        obtain ⟨Aq, gq, rfl, _⟩ := Lw.ownsForm own3
        have BP3 := Lw.box_grown (Lw.blk_drew bl) (Lw.own_drew own) (by omega) hg3
        have E3 := Lw.app_end (Lw.own_drew own) (Lw.balloc (Below.refl _ _) _) hg3
        have f3 := Lw.blk_free BP3 0
        have g3 := Lw.blk_cell BP3 0
        simp at g3
        have HS3 := Nat.lt_of_lt_of_le hws ((show W.heap.size ≤ w3.heap.size from Nat.le_trans ((Below.refl W.heap.size W).size) E3.1.size))
        (refine wpAnyH_ready (rs := [6]) (by kernel_rfl) (by simp) ?_; refine Lw.cons1 (i := 6) rfl (fun K hK => ?_) AllReadyH.nil; go_simp; refine hK.out _ _ ?_ (fun hHeld => ?_); (focus exact Lw.sm_of (hb3.setCell (p := ⟨w.heap.size, 0, none⟩) (Nat.le_refl _) _)); clear hK K; (try simp only [Act.put, List.setIfInBounds_toArray, List.set_cons_zero, List.set_cons_succ]))
        refine wpAnyH_done (by kernel_rfl) ?_ _
        exact ⟨(((KeepsOthers.drew W).trans E3.1).trans (KeepsOthers.setCell _ _ _)).from _, ⟨(Below.heap_setCell _ _ _ _ (by show w.heap.size + 1 ≠ w.heap.size; omega)).trans ((E3.2 _ (by omega) (by omega)).trans ((Below.refl W.heap.size W).block _ (by show w.heap.size + 1 < W.heap.size; omega))), (Below.heap_setCell _ _ _ _ (by show w.heap.size + 2 ≠ w.heap.size; omega)).trans ((E3.2 _ (by omega) (by omega)).trans ((Below.refl W.heap.size W).block _ (by show w.heap.size + 2 < W.heap.size; omega)))⟩, by rw [World.size_setCell]; exact HS3, hb3.setCell (p := ⟨w.heap.size, 0, none⟩) (Nat.le_refl _) _, _, Lw.blk_set_same BP3 0 _, by rw [PL.out, GS.out]; exact Lw.bset_own own3 (by omega)⟩
    · have hG : Lw.upG R (s, 2) = Lw.hsum (Lw.pairT (R.getD s 0) (R.getD (s + 1) 0)) := rfl
      have hb' := HC.out (s + 1) (by omega)
      rw [← Lw.add_add, Lw.add_succ' (ad.add s) 0] at hb'
      obtain ⟨a, hax⟩ : ∃ a, R.getD s 0 = a := ⟨_, rfl⟩
      obtain ⟨b, hbx⟩ : ∃ a, R.getD (s + 1) 0 = a := ⟨_, rfl⟩
      have hab2 : ((ad.add s).add 1).block < w.heap.size := by rw [Lw.add_block]; exact hab
      rw [hG] at GS
      rw [hax] at ha GS a0 a1
      rw [hbx] at hb' GS b0 b1
      have PT := Lib.hid (fun w => tree_pairText a b w a0 a1 b0 b1)
      have HO := Lib.hid (fun A c w R => hash_Of A 5 c (Lw.pairT a b) w R (Lw.pairT_byt _ _) (by decide))
      obtain ⟨h, hh⟩ : ∃ h, Lw.hsum (Lw.pairT a b) = h := ⟨_, rfl⟩
      rw [hh] at HO GS
      gi_wp2
      refine Lw.wpIn_region_drew (S := Lw.Sm w) (by kernel_rfl) (fun ⟨_, _, h⟩ => h) (by kernel_rfl) hS0 (fun hHeld => ?_)
      (refine Lw.take1 (i := 1) (v := ?_) rfl (by kernel_rfl) (by kernel_rfl) (by kernel_rfl) (fun _ _ _ h => h) (Or.inl ⟨by rfl, ?_⟩) (by assumption) ?_; rotate_left 1; (focus (intro wS hSw; obtain ⟨hS1, hS2, hS3, hS4⟩ := hSw; go_simp <;> with_reducible rfl)); (try simp only [Act.put, List.setIfInBounds_toArray, List.set_cons_zero, List.set_cons_succ]))
      (refine Lw.take1 (i := 2) (v := ?_) rfl (by kernel_rfl) (by kernel_rfl) (by kernel_rfl) (fun _ _ _ h => h) (Or.inl ⟨by rfl, ?_⟩) (by assumption) ?_; rotate_left 1; (focus (intro wS hSw; obtain ⟨hS1, hS2, hS3, hS4⟩ := hSw; go_simp <;> with_reducible rfl)); (try simp only [Act.put, List.setIfInBounds_toArray, List.set_cons_zero, List.set_cons_succ]))
      (refine Lw.take1 (i := 3) (v := ?_) rfl (by kernel_rfl) (by kernel_rfl) (by kernel_rfl) (fun _ _ _ h => h) (Or.inl ⟨by rfl, ?_⟩) (by assumption) ?_; rotate_left 1; (focus (intro wS hSw; obtain ⟨hS1, hS2, hS3, hS4⟩ := hSw; go_simp <;> with_reducible rfl)); (try simp only [Act.put, List.setIfInBounds_toArray, List.set_cons_zero, List.set_cons_succ]))
      (refine Lw.take1 (i := 4) (v := ?_) rfl (by kernel_rfl) (by kernel_rfl) (by kernel_rfl) (fun _ _ _ h => h) (Or.inl ⟨by rfl, ?_⟩) (by assumption) ?_; rotate_left 1; (focus (intro wS hSw; obtain ⟨hS1, hS2, hS3, hS4⟩ := hSw; go_simp <;> with_reducible rfl)); (try simp only [Act.put, List.setIfInBounds_toArray, List.set_cons_zero, List.set_cons_succ]))
      (refine Lw.take1 (i := 5) (v := ?_) rfl (by kernel_rfl) (by kernel_rfl) (by kernel_rfl) (fun _ _ _ h => h) (Or.inl ⟨by rfl, ?_⟩) (by assumption) ?_; rotate_left 1; (focus (intro wS hSw; obtain ⟨hS1, hS2, hS3, hS4⟩ := hSw; go_simp <;> with_reducible rfl)); (try simp only [Act.put, List.setIfInBounds_toArray, List.set_cons_zero, List.set_cons_succ]))
      (refine Lw.take1 (i := 6) (v := ?_) rfl (by kernel_rfl) (by kernel_rfl) (by kernel_rfl) (fun _ _ _ h => h) (Or.inl ⟨by rfl, ?_⟩) (by assumption) ?_; rotate_left 1; (focus (intro wS hSw; obtain ⟨hS1, hS2, hS3, hS4⟩ := hSw; go_simp <;> with_reducible rfl)); (try simp only [Act.put, List.setIfInBounds_toArray, List.set_cons_zero, List.set_cons_succ]))
      refine wpAnyH_ready (rs := [0, 7]) (by kernel_rfl) (by simp) ?_
      refine Lw.cons1 (i := 0) rfl (fun K hK => ?_) (Lw.cons1 (i := 7) rfl (fun K hK => ?_) AllReadyH.nil)
      · (go_simp; refine hK.out _ _ ?_ (fun hHeld => ?_); (focus exact hS0); clear hK K; (try simp only [Act.put, List.setIfInBounds_toArray, List.set_cons_zero, List.set_cons_succ]))
        refine wpAnyH_ready (rs := [7]) (by kernel_rfl) (by simp) ?_
        refine Lw.cons1 (i := 7) rfl (fun K hK => ?_) AllReadyH.nil
        (go_simp; go_at_call 66; (with_reducible refine (PT.out _).mono ?_); rintro e w1 ⟨A1, k1, rfl, own1, hb1⟩; refine hK.out _ _ ?_ (fun hHeld => ?_); (focus exact Lw.sm_keep hS0 hb1); clear hK K; (try simp only [Act.put, List.setIfInBounds_toArray, List.set_cons_zero, List.set_cons_succ]))
        have hs1 := hb1.size
        have hs1 : W.heap.size ≤ w1.heap.size := hs1
        have hB1 := Lw.bt hbD hb1
        have O1 := Lw.ownsBelow (Lw.own_drew own) (Nat.le_refl _) hb1
        have bl1 := (hb1.block w.heap.size (by show w.heap.size < W.heap.size; omega)).trans bl
        have d1 := Lw.blk_cell bl1 0
        simp at d1
        have RT := Lib.hid (Lw.Rd.of_own own1)
        clear own1
        refine wpAnyH_ready (rs := [8]) (by kernel_rfl) (by simp) ?_
        refine Lw.cons1 (i := 8) rfl (fun K hK => ?_) AllReadyH.nil
        (go_simp; go_at_call 53; (with_reducible refine (HO.out _ _ _ RT.out).mono ?_); rintro e w2 ⟨rfl, hb2⟩; refine hK.out _ _ ?_ (fun hHeld => ?_); (focus exact Lw.sm_of (Lw.bt hB1 hb2)); clear hK K; (try simp only [Act.put, List.setIfInBounds_toArray, List.set_cons_zero, List.set_cons_succ]))
        have hs2 := hb2.size
        have hB2 := Lw.bt hB1 hb2
        have O2 := Lw.ownsBelow O1 (Nat.le_refl _) hb2
        have bl2 := (hb2.block w.heap.size (by omega)).trans bl1
        have d2 := Lw.blk_cell bl2 0
        simp at d2
        have d3 := Lw.blk_cell (Lw.blk_alloc bl2 (.cells #[.int .u32 h] 33)) 0
        simp at d3
        have hW2 : Below W.heap.size W w2 := (show Below W.heap.size W w1 from (Below.drew (Below.refl _ W)).trans hb1).trans (hb2.mono hs1)
        (refine wpAnyH_ready (rs := [9]) (by kernel_rfl) (by simp) ?_; refine Lw.cons1 (i := 9) rfl (fun K hK => ?_) AllReadyH.nil; go_simp; refine hK.out _ _ ?_ (fun hHeld => ?_); (focus exact Lw.sm_of (Lw.balloc hB2 _)); clear hK K; (try simp only [Act.put, List.setIfInBounds_toArray, List.set_cons_zero, List.set_cons_succ]))
        (refine wpAnyH_ready (rs := [10]) (by kernel_rfl) (by simp) ?_; refine Lw.cons1 (i := 10) rfl (fun K hK => ?_) AllReadyH.nil; refine Lw.step_app elU32 rfl _ _ rfl rfl (O2.alloc _) rfl (Lw.Rd.lit (Lw.blk_new' rfl _ _) rfl rfl) (Lw.intsV_one _ [h]) (by omega) (Lw.balloc hB2 _) (by omega) (by simp; omega) ?_; intro v3 w3 own3 hb3 hg3 _; refine hK.out _ _ ?_ (fun hHeld => ?_); (focus exact Lw.sm_of hb3); clear hK K; (try simp only [Act.put, List.setIfInBounds_toArray, List.set_cons_zero, List.set_cons_succ]))
        obtain ⟨Aq, gq, rfl, _⟩ := Lw.ownsForm own3
        have BP3 := Lw.box_grown bl2 O2 (by omega) hg3
        have E3 := Lw.app_end O2 (Lw.balloc (Below.refl _ _) _) hg3
        have f3 := Lw.blk_free BP3 0
        have g3 := Lw.blk_cell BP3 0
        simp at g3
        have HS3 := Nat.lt_of_lt_of_le hws ((show W.heap.size ≤ w3.heap.size from Nat.le_trans (hW2.size) E3.1.size))
        (refine wpAnyH_ready (rs := [11]) (by kernel_rfl) (by simp) ?_; refine Lw.cons1 (i := 11) rfl (fun K hK => ?_) AllReadyH.nil; go_simp; refine hK.out _ _ ?_ (fun hHeld => ?_); (focus exact Lw.sm_of (hb3.setCell (p := ⟨w.heap.size, 0, none⟩) (Nat.le_refl _) _)); clear hK K; (try simp only [Act.put, List.setIfInBounds_toArray, List.set_cons_zero, List.set_cons_succ]))
        refine wpAnyH_done (by kernel_rfl) ?_ _
        exact ⟨(((Lw.ko_below hW2).trans E3.1).trans (KeepsOthers.setCell _ _ _)).from _, ⟨(Below.heap_setCell _ _ _ _ (by show w.heap.size + 1 ≠ w.heap.size; omega)).trans ((E3.2 _ (by omega) (by omega)).trans (hW2.block _ (by show w.heap.size + 1 < W.heap.size; omega))), (Below.heap_setCell _ _ _ _ (by show w.heap.size + 2 ≠ w.heap.size; omega)).trans ((E3.2 _ (by omega) (by omega)).trans (hW2.block _ (by show w.heap.size + 2 < W.heap.size; omega)))⟩, by rw [World.size_setCell]; exact HS3, hb3.setCell (p := ⟨w.heap.size, 0, none⟩) (Nat.le_refl _) _, _, Lw.blk_set_same BP3 0 _, by rw [PL.out, GS.out]; exact Lw.bset_own own3 (by omega)⟩
      · (go_simp; go_at_call 66; (with_reducible refine (PT.out _).mono ?_); rintro e w1 ⟨A1, k1, rfl, own1, hb1⟩; refine hK.out _ _ ?_ (fun hHeld => ?_); (focus exact Lw.sm_keep hS0 hb1); clear hK K; (try simp only [Act.put, List.setIfInBounds_toArray, List.set_cons_zero, List.set_cons_succ]))
        have hs1 := hb1.size
        have hs1 : W.heap.size ≤ w1.heap.size := hs1
        have hB1 := Lw.bt hbD hb1
        have O1 := Lw.ownsBelow (Lw.own_drew own) (Nat.le_refl _) hb1
        have bl1 := (hb1.block w.heap.size (by show w.heap.size < W.heap.size; omega)).trans bl
        have d1 := Lw.blk_cell bl1 0
        simp at d1
        have RT := Lib.hid (Lw.Rd.of_own own1)
        clear own1
        refine wpAnyH_ready (rs := [0, 8]) (by kernel_rfl) (by simp) ?_
        refine Lw.cons1 (i := 0) rfl (fun K hK => ?_) (Lw.cons1 (i := 8) rfl (fun K hK => ?_) AllReadyH.nil)
        · (go_simp; refine hK.out _ _ ?_ (fun hHeld => ?_); (focus exact Lw.sm_of hB1); clear hK K; (try simp only [Act.put, List.setIfInBounds_toArray, List.set_cons_zero, List.set_cons_succ]))
          refine wpAnyH_ready (rs := [8]) (by kernel_rfl) (by simp) ?_
          refine Lw.cons1 (i := 8) rfl (fun K hK => ?_) AllReadyH.nil
          (go_simp; go_at_call 53; (with_reducible refine (HO.out _ _ _ RT.out).mono ?_); rintro e w2 ⟨rfl, hb2⟩; refine hK.out _ _ ?_ (fun hHeld => ?_); (focus exact Lw.sm_of (Lw.bt hB1 hb2)); clear hK K; (try simp only [Act.put, List.setIfInBounds_toArray, List.set_cons_zero, List.set_cons_succ]))
          have hs2 := hb2.size
          have hB2 := Lw.bt hB1 hb2
          have O2 := Lw.ownsBelow O1 (Nat.le_refl _) hb2
          have bl2 := (hb2.block w.heap.size (by omega)).trans bl1
          have d2 := Lw.blk_cell bl2 0
          simp at d2
          have d3 := Lw.blk_cell (Lw.blk_alloc bl2 (.cells #[.int .u32 h] 33)) 0
          simp at d3
          have hW2 : Below W.heap.size W w2 := (show Below W.heap.size W w1 from (Below.drew (Below.refl _ W)).trans hb1).trans (hb2.mono hs1)
          (refine wpAnyH_ready (rs := [9]) (by kernel_rfl) (by simp) ?_; refine Lw.cons1 (i := 9) rfl (fun K hK => ?_) AllReadyH.nil; go_simp; refine hK.out _ _ ?_ (fun hHeld => ?_); (focus exact Lw.sm_of (Lw.balloc hB2 _)); clear hK K; (try simp only [Act.put, List.setIfInBounds_toArray, List.set_cons_zero, List.set_cons_succ]))
          (refine wpAnyH_ready (rs := [10]) (by kernel_rfl) (by simp) ?_; refine Lw.cons1 (i := 10) rfl (fun K hK => ?_) AllReadyH.nil; refine Lw.step_app elU32 rfl _ _ rfl rfl (O2.alloc _) rfl (Lw.Rd.lit (Lw.blk_new' rfl _ _) rfl rfl) (Lw.intsV_one _ [h]) (by omega) (Lw.balloc hB2 _) (by omega) (by simp; omega) ?_; intro v3 w3 own3 hb3 hg3 _; refine hK.out _ _ ?_ (fun hHeld => ?_); (focus exact Lw.sm_of hb3); clear hK K; (try simp only [Act.put, List.setIfInBounds_toArray, List.set_cons_zero, List.set_cons_succ]))
          obtain ⟨Aq, gq, rfl, _⟩ := Lw.ownsForm own3
          have BP3 := Lw.box_grown bl2 O2 (by omega) hg3
          have E3 := Lw.app_end O2 (Lw.balloc (Below.refl _ _) _) hg3
          have f3 := Lw.blk_free BP3 0
          have g3 := Lw.blk_cell BP3 0
          simp at g3
          have HS3 := Nat.lt_of_lt_of_le hws ((show W.heap.size ≤ w3.heap.size from Nat.le_trans (hW2.size) E3.1.size))
          (refine wpAnyH_ready (rs := [11]) (by kernel_rfl) (by simp) ?_; refine Lw.cons1 (i := 11) rfl (fun K hK => ?_) AllReadyH.nil; go_simp; refine hK.out _ _ ?_ (fun hHeld => ?_); (focus exact Lw.sm_of (hb3.setCell (p := ⟨w.heap.size, 0, none⟩) (Nat.le_refl _) _)); clear hK K; (try simp only [Act.put, List.setIfInBounds_toArray, List.set_cons_zero, List.set_cons_succ]))
          refine wpAnyH_done (by kernel_rfl) ?_ _
          exact ⟨(((Lw.ko_below hW2).trans E3.1).trans (KeepsOthers.setCell _ _ _)).from _, ⟨(Below.heap_setCell _ _ _ _ (by show w.heap.size + 1 ≠ w.heap.size; omega)).trans ((E3.2 _ (by omega) (by omega)).trans (hW2.block _ (by show w.heap.size + 1 < W.heap.size; omega))), (Below.heap_setCell _ _ _ _ (by show w.heap.size + 2 ≠ w.heap.size; omega)).trans ((E3.2 _ (by omega) (by omega)).trans (hW2.block _ (by show w.heap.size + 2 < W.heap.size; omega)))⟩, by rw [World.size_setCell]; exact HS3, hb3.setCell (p := ⟨w.heap.size, 0, none⟩) (Nat.le_refl _) _, _, Lw.blk_set_same BP3 0 _, by rw [PL.out, GS.out]; exact Lw.bset_own own3 (by omega)⟩
        · (go_simp; go_at_call 53; (with_reducible refine (HO.out _ _ _ RT.out).mono ?_); rintro e w2 ⟨rfl, hb2⟩; refine hK.out _ _ ?_ (fun hHeld => ?_); (focus exact Lw.sm_of (Lw.bt hB1 hb2)); clear hK K; (try simp only [Act.put, List.setIfInBounds_toArray, List.set_cons_zero, List.set_cons_succ]))
          have hs2 := hb2.size
          have hB2 := Lw.bt hB1 hb2
          have O2 := Lw.ownsBelow O1 (Nat.le_refl _) hb2
          have bl2 := (hb2.block w.heap.size (by omega)).trans bl1
          have d2 := Lw.blk_cell bl2 0
          simp at d2
          have d3 := Lw.blk_cell (Lw.blk_alloc bl2 (.cells #[.int .u32 h] 33)) 0
          simp at d3
          have hW2 : Below W.heap.size W w2 := (show Below W.heap.size W w1 from (Below.drew (Below.refl _ W)).trans hb1).trans (hb2.mono hs1)
          refine wpAnyH_ready (rs := [0, 9]) (by kernel_rfl) (by simp) ?_
          refine Lw.cons1 (i := 0) rfl (fun K hK => ?_) (Lw.cons1 (i := 9) rfl (fun K hK => ?_) AllReadyH.nil)
          · (go_simp; refine hK.out _ _ ?_ (fun hHeld => ?_); (focus exact Lw.sm_of hB2); clear hK K; (try simp only [Act.put, List.setIfInBounds_toArray, List.set_cons_zero, List.set_cons_succ]))
            (refine wpAnyH_ready (rs := [9]) (by kernel_rfl) (by simp) ?_; refine Lw.cons1 (i := 9) rfl (fun K hK => ?_) AllReadyH.nil; go_simp; refine hK.out _ _ ?_ (fun hHeld => ?_); (focus exact Lw.sm_of (Lw.balloc hB2 _)); clear hK K; (try simp only [Act.put, List.setIfInBounds_toArray, List.set_cons_zero, List.set_cons_succ]))
            (refine wpAnyH_ready (rs := [10]) (by kernel_rfl) (by simp) ?_; refine Lw.cons1 (i := 10) rfl (fun K hK => ?_) AllReadyH.nil; refine Lw.step_app elU32 rfl _ _ rfl rfl (O2.alloc _) rfl (Lw.Rd.lit (Lw.blk_new' rfl _ _) rfl rfl) (Lw.intsV_one _ [h]) (by omega) (Lw.balloc hB2 _) (by omega) (by simp; omega) ?_; intro v3 w3 own3 hb3 hg3 _; refine hK.out _ _ ?_ (fun hHeld => ?_); (focus exact Lw.sm_of hb3); clear hK K; (try simp only [Act.put, List.setIfInBounds_toArray, List.set_cons_zero, List.set_cons_succ]))
            obtain ⟨Aq, gq, rfl, _⟩ := Lw.ownsForm own3
            have BP3 := Lw.box_grown bl2 O2 (by omega) hg3
            have E3 := Lw.app_end O2 (Lw.balloc (Below.refl _ _) _) hg3
            have f3 := Lw.blk_free BP3 0
            have g3 := Lw.blk_cell BP3 0
            simp at g3
            have HS3 := Nat.lt_of_lt_of_le hws ((show W.heap.size ≤ w3.heap.size from Nat.le_trans (hW2.size) E3.1.size))
            (refine wpAnyH_ready (rs := [11]) (by kernel_rfl) (by simp) ?_; refine Lw.cons1 (i := 11) rfl (fun K hK => ?_) AllReadyH.nil; go_simp; refine hK.out _ _ ?_ (fun hHeld => ?_); (focus exact Lw.sm_of (hb3.setCell (p := ⟨w.heap.size, 0, none⟩) (Nat.le_refl _) _)); clear hK K; (try simp only [Act.put, List.setIfInBounds_toArray, List.set_cons_zero, List.set_cons_succ]))
            refine wpAnyH_done (by kernel_rfl) ?_ _
            exact ⟨(((Lw.ko_below hW2).trans E3.1).trans (KeepsOthers.setCell _ _ _)).from _, ⟨(Below.heap_setCell _ _ _ _ (by show w.heap.size + 1 ≠ w.heap.size; omega)).trans ((E3.2 _ (by omega) (by omega)).trans (hW2.block _ (by show w.heap.size + 1 < W.heap.size; omega))), (Below.heap_setCell _ _ _ _ (by show w.heap.size + 2 ≠ w.heap.size; omega)).trans ((E3.2 _ (by omega) (by omega)).trans (hW2.block _ (by show w.heap.size + 2 < W.heap.size; omega)))⟩, by rw [World.size_setCell]; exact HS3, hb3.setCell (p := ⟨w.heap.size, 0, none⟩) (Nat.le_refl _) _, _, Lw.blk_set_same BP3 0 _, by rw [PL.out, GS.out]; exact Lw.bset_own own3 (by omega)⟩
          · (go_simp; refine hK.out _ _ ?_ (fun hHeld => ?_); (focus exact Lw.sm_of (Lw.balloc hB2 _)); clear hK K; (try simp only [Act.put, List.setIfInBounds_toArray, List.set_cons_zero, List.set_cons_succ]))
            (refine wpAnyH_ready (rs := [0]) (by kernel_rfl) (by simp) ?_; refine Lw.cons1 (i := 0) rfl (fun K hK => ?_) AllReadyH.nil; go_simp; refine hK.out _ _ ?_ (fun hHeld => ?_); (focus exact Lw.sm_of (Lw.balloc hB2 _)); clear hK K; (try simp only [Act.put, List.setIfInBounds_toArray, List.set_cons_zero, List.set_cons_succ]))
            (refine wpAnyH_ready (rs := [10]) (by kernel_rfl) (by simp) ?_; refine Lw.cons1 (i := 10) rfl (fun K hK => ?_) AllReadyH.nil; refine Lw.step_app elU32 rfl _ _ rfl rfl (O2.alloc _) rfl (Lw.Rd.lit (Lw.blk_new' rfl _ _) rfl rfl) (Lw.intsV_one _ [h]) (by omega) (Lw.balloc hB2 _) (by omega) (by simp; omega) ?_; intro v3 w3 own3 hb3 hg3 _; refine hK.out _ _ ?_ (fun hHeld => ?_); (focus exact Lw.sm_of hb3); clear hK K; (try simp only [Act.put, List.setIfInBounds_toArray, List.set_cons_zero, List.set_cons_succ]))
            obtain ⟨Aq, gq, rfl, _⟩ := Lw.ownsForm own3
            have BP3 := Lw.box_grown bl2 O2 (by omega) hg3
            have E3 := Lw.app_end O2 (Lw.balloc (Below.refl _ _) _) hg3
            have f3 := Lw.blk_free BP3 0
            have g3 := Lw.blk_cell BP3 0
            simp at g3
            have HS3 := Nat.lt_of_lt_of_le hws ((show W.heap.size ≤ w3.heap.size from Nat.le_trans (hW2.size) E3.1.size))
            (refine wpAnyH_ready (rs := [11]) (by kernel_rfl) (by simp) ?_; refine Lw.cons1 (i := 11) rfl (fun K hK => ?_) AllReadyH.nil; go_simp; refine hK.out _ _ ?_ (fun hHeld => ?_); (focus exact Lw.sm_of (hb3.setCell (p := ⟨w.heap.size, 0, none⟩) (Nat.le_refl _) _)); clear hK K; (try simp only [Act.put, List.setIfInBounds_toArray, List.set_cons_zero, List.set_cons_succ]))
            refine wpAnyH_done (by kernel_rfl) ?_ _
            exact ⟨(((Lw.ko_below hW2).trans E3.1).trans (KeepsOthers.setCell _ _ _)).from _, ⟨(Below.heap_setCell _ _ _ _ (by show w.heap.size + 1 ≠ w.heap.size; omega)).trans ((E3.2 _ (by omega) (by omega)).trans (hW2.block _ (by show w.heap.size + 1 < W.heap.size; omega))), (Below.heap_setCell _ _ _ _ (by show w.heap.size + 2 ≠ w.heap.size; omega)).trans ((E3.2 _ (by omega) (by omega)).trans (hW2.block _ (by show w.heap.size + 2 < W.heap.size; omega)))⟩, by rw [World.size_setCell]; exact HS3, hb3.setCell (p := ⟨w.heap.size, 0, none⟩) (Nat.le_refl _) _, _, Lw.blk_set_same BP3 0 _, by rw [PL.out, GS.out]; exact Lw.bset_own own3 (by omega)⟩
  case done =>
    rintro D ys W hD hys ⟨hws, hB, v, bl, own⟩ hK
    have c0 := Lw.blk_cell bl 0
    simp at c0
    gi_wp2
    refine ⟨by simp, .inl ⟨_, _, rfl, run_takeDeferred hK, ?_⟩⟩
    rw [UP.out, ← hys]
    have hyl : ys.length = (n + 1) / 2 := by have := congrArg List.length hys; rw [List.length_map, Lw.chk_length] at this; exact this
    rw [hyl] at own
    obtain ⟨Aq, gq, rfl, _⟩ := Lw.ownsForm own
    refine ⟨_, results_tmp rfl _ _ _, Aq, gq, rfl, ?_, hB.trans (belowK_b (w := w) (Nat.le_refl _) W D _ _ (by omega) hK rfl rfl)⟩
    exact Lw.ownsBase (OwnFrom.putObj (β := Unit) (B := wm.heap.size) (s := ()) (Lw.own_row (fun _ => _) (fun _ => _) (fun _ => _)) (.deferred none) own hD hK rfl) (by omega)
  case stop =>
    rintro D c pre W _ _ h _
    exact h.elim
end Go.Proofs.Ytnlbnadjolfjpaa
