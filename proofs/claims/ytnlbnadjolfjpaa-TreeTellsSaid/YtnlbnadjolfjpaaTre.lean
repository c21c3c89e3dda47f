/- tree.node: the sum of the last text that is. -/
import Derived.Test.YtnlbnadjolfjpaaBkw
import Derived.Test.YtnlbnadjolfjpaaTab
import Derived.Test.YtnlbnadjolfjpaaBytes2
import Derived.Test.YtnlbnadjolfjpaaRegS
import Derived.Lib.SliceRun
namespace Lw
open Go Go.RowKit
theorem neq_nil {P : Program} (w : World) (t e : TypeId) (a : Option Addr) (n c : Nat) (h : P.underlying t = some (.slice e)) :
    (binOp .neq t (.slice a n c) (.slice none 0 0)).run P w = .ok (.bool (!a.isNone)) w := by
  simp only [binOp]
  simp [Op.equal, Op.maxDepth, Lib.run_equalIn_slice_nil w 9999 t e a n c 0 0 h]
theorem ko_below {W W' : World} (h : Below W.heap.size W W') : KeepsOthers W W' := ⟨h.size, fun k _ hk _ => (h.block k (Array.getElem?_eq_some_iff.1 hk).1).trans hk⟩
/-- a text, or none -/
def TxtOk (w : World) (r : TRow) : Prop := RowOk .u8 w r ∧ Byt r.zs ∧ r.n ≤ 1048576
abbrev RowN (w : World) := { r : TRow // TxtOk w r }
def rowsN (w : World) (T : List TRow) (h : ∀ r ∈ T, TxtOk w r) : List (RowN w) := T.pmap (fun r h => ⟨r, h⟩) h
theorem rowsN_map (w : World) (T : List TRow) (h) : (rowsN w T h).map (fun a => a.1) = T := by unfold rowsN; rw [List.map_pmap]; simp
/-- the sum of the last text that is, from behind -/
def nodF : List TRow → Int
  | [] => 0
  | r :: l => if r.A = none then nodF l else hsum r.zs
def nodV (T : List TRow) : Int := nodF T.reverse
theorem nodF_none : ∀ {l : List TRow}, (∀ r ∈ l, r.A = none) → nodF l = 0
  | [], _ => rfl
  | r :: l, h => by unfold nodF; rw [if_pos (h r (by simp))]; exact nodF_none fun x hx => h x (by simp [hx])
theorem nodF_app : ∀ {l : List TRow} {x : TRow} {m : List TRow}, (∀ r ∈ l, r.A = none) → ¬ x.A = none → nodF (l ++ x :: m) = hsum x.zs
  | [], x, m, _, hx => by show (if x.A = none then _ else hsum x.zs) = _; rw [if_neg hx]
  | r :: l, x, m, h, hx => by
    show (if r.A = none then nodF (l ++ x :: m) else _) = _
    rw [if_pos (h r (by simp))]; exact nodF_app (fun y hy => h y (by simp [hy])) hx
theorem bks_prefix {α : Type} (xs : List α) (m : Nat) : bks xs m <+: bks xs 0 := by
  unfold bks
  rw [List.drop_zero]
  obtain ⟨a, ha⟩ : ∃ a, xs.zipIdx = a ++ xs.zipIdx.drop m := ⟨_, (List.take_append_drop m _).symm⟩
  conv => rhs; rw [ha, List.reverse_append, List.map_append]
  exact List.prefix_append _ _
end Lw
set_option linter.unusedVariables false
set_option linter.unusedSimpArgs false
namespace Go.Proofs.Ytnlbnadjolfjpaa
open Go.RowKit
attribute [local go_sem] Oper.semAt_some
theorem node_end {w W : World} {D : Nat} {v V : Int} {tmps : Array Value} (h1 : W.heap[w.heap.size]? = some (.cells #[.int .u32 v] 33 (0, 0))) (hB : Below w.heap.size w W)
    (hK : W.heap[D]? = some (.deferred (some []))) (hd0 : w.heap.size ≤ D) (hd1 : w.heap.size ≠ D) (ht2 : tmps[2]? = some (.pointer (some ⟨w.heap.size, 0, none⟩))) (hb : v = V) :
    LeavesInM Fence.wide 4 Try.prog Try.f45 tmps (fun e w' => e = .returned (.int .u32 V) ∧ Below w.heap.size w w') [] FrameMode.returning (W.putObj D (Obj.deferred none)) := by
  have g := grownBy_putObj' W D (.deferred none)
  have c1 := Lw.blk_cell (Lw.blk_kept h1 g (fun e => hd1 (by cases e; rfl))) 0
  simp at c1
  subst hb
  refine ⟨.int .u32 v, ?_, rfl, hB.trans (belowK_b (w := w) (Nat.le_refl _) W D _ _ hd0 hK rfl rfl)⟩
  simp [results, Try.f45, go_sem, c1, ht2]
set_option maxRecDepth 100000 in
set_option maxHeartbeats 4000000 in
theorem tree_node (A : Option Addr) (n c : Nat) (T : List Lw.TRow) (w : World) (R : Lw.Rd w 1 A n (T.map Lw.TRow.v)) (hT : ∀ r ∈ T, Lw.TxtOk w r) (hn : n ≤ 1048576) :
    Calls Try.prog 45 #[.slice A n c] w fun e w' => e = .returned (.int .u32 (Lw.nodV T)) ∧ Below w.heap.size w w' := by
  have q := fun (w : World) (a : Option Addr) (n c : Nat) => Lw.neq_nil (P := Try.prog) w 40 5 a n c Try.underlying40
  have LT := Lib.hid (show T.length = n by have := R.1; simpa using this)
  have R := Lib.hid R
  refine (callsIn_wide (n := 4)).1 ?_
  refine callsIn_of_wp_marks Try.func45 rfl trivial ?_ rfl
  simp only [Try.ntmps45, List.size_toArray, List.length_cons, List.length_nil, Nat.reduceAdd, Nat.reduceSub, Array.replicate_succ, Array.replicate_zero, List.push_toArray, List.append_toArray, List.nil_append, List.cons_append]
  gi_wp2_with (first | (refine ⟨trivial, ?_⟩; gi_at_call 67; refine (callsIn_wide.2 (bkw_bytes _ _ _ _)).mono ?_; rintro e w' ⟨rfl, rfl⟩))
  have hBW : Below w.heap.size w ((w.alloc (.cells #[.int .u32 0] 33)).alloc (.cells #[.slice A n c] 32)) := Lw.balloc (Lw.balloc (Below.refl _ _) _) _
  obtain ⟨Ba, hBa, hA⟩ : ∃ Ba, Ba < w.heap.size + 2 ∧ (0 < n → ∀ ad, A = some ad → ad.block = Ba) ∧ (0 < n → Ba < w.heap.size) ∧ (n = 0 → Ba = w.heap.size + 1) := by
    rcases Nat.eq_zero_or_pos n with h0 | hp
    · exact ⟨w.heap.size + 1, by omega, fun h => by omega, fun h => by omega, fun _ => rfl⟩
    · obtain ⟨ad, rfl, hb, _⟩ := R.out.2 hp
      exact ⟨ad.block, by omega, fun _ ad' e => by injection e with e; rw [e], fun _ => hb, fun h => by omega⟩
  obtain ⟨hA, hBl, hB0⟩ := hA
  have hcS : ((w.alloc (.cells #[.int .u32 0] 33)).alloc (.cells #[.slice A n c] 32)).cell? ⟨w.heap.size + 1, 0, none⟩ = some (.slice A n c) := by
    have := Lw.blk_cell (Lw.blk_new' (W := w.alloc (.cells #[.int .u32 0] 33)) (b := w.heap.size + 1) (by simp) #[.slice A n c] 32) 0
    rw [this]; rfl
  have bR : ((w.alloc (.cells #[.int .u32 0] 33)).alloc (.cells #[.slice A n c] 32)).heap[w.heap.size]? = some (.cells #[.int .u32 0] 33 (0, 0)) := Lw.blk_alloc (Lw.blk_new _ _ _) _
  have RW : Lw.Rd ((w.alloc (.cells #[.int .u32 0] 33)).alloc (.cells #[.slice A n c] 32)) 1 A n ((Lw.rowsN w T hT).map (fun a => a.1.v)) := by
    have e : (Lw.rowsN w T hT).map (fun a => a.1.v) = T.map Lw.TRow.v := by
      have := congrArg (List.map Lw.TRow.v) (Lw.rowsN_map w T hT)
      rw [List.map_map] at this; exact this
    rw [e]; exact R.out.below (Nat.le_refl _) hBW
  have VN : Hid (∀ m, (∀ x ∈ Lw.bks (Lw.rowsN w T hT) m, x.2.1.A = none) → m = 0 → Lw.nodV T = 0) := fun m h hm => by
    subst hm
    refine Lw.nodF_none fun r hr => ?_
    have e := congrArg (List.map (fun a : Lw.RowN w => a.1)) (Lw.bks_snd (Lw.rowsN w T hT))
    rw [List.map_map, List.map_reverse, Lw.rowsN_map] at e
    rw [← e] at hr
    obtain ⟨x, hx, rfl⟩ := List.mem_map.1 hr
    exact h x hx
  have VS : Hid (∀ m p (x : Nat × Lw.RowN w), Lw.bks (Lw.rowsN w T hT) m = p ++ [x] → (∀ y ∈ p, y.2.1.A = none) → ¬ x.2.1.A = none → Lw.nodV T = Lw.hsum x.2.1.zs) := fun m p x h h1 h2 => by
    obtain ⟨q, hq⟩ := Lw.bks_prefix (Lw.rowsN w T hT) m
    have e := congrArg (List.map (fun a : Lw.RowN w => a.1)) (Lw.bks_snd (Lw.rowsN w T hT))
    rw [List.map_map, List.map_reverse, Lw.rowsN_map, ← hq, h] at e
    unfold Lw.nodV
    rw [← e]
    simp only [List.map_append, List.append_assoc, List.map_cons, List.map_nil, List.singleton_append]
    refine Lw.nodF_app (fun r hr => ?_) h2
    obtain ⟨y, hy, rfl⟩ := List.mem_map.1 hr
    exact h1 y hy
  refine wpIn_rangeFunc_ownG rfl (by omega) (gf := 85) (lb := #[.pointer (some ⟨w.heap.size + 1, 0, none⟩)]) rfl trivial (enters_of Try.func85 (by kernel_rfl) rfl)
    (bkw_bytes_stops (fun a : Lw.RowN w => a.1.v) (Lw.rowsN w T hT) (w.heap.size + 1) Ba n c A (by omega) _ (by omega) _ (by simp) (by simp; omega) hcS RW hA) Lw.KB.trans (Lw.KB.put (by simp) (by simp; omega)) (Below.refl _ _) (fun _ => rfl)
    (fun pre W => (∀ x ∈ pre, x.2.1.A = none) ∧ Below w.heap.size w W ∧ W.heap[w.heap.size]? = some (.cells #[.int .u32 0] 33 (0, 0)))
    (fun k pre W => (k = .ret) ∧ Below w.heap.size w W ∧ ∃ x : Nat × Lw.RowN w, (∃ p, pre = p ++ [x] ∧ (∀ y ∈ p, y.2.1.A = none) ∧ ¬ x.2.1.A = none) ∧ W.heap[w.heap.size]? = some (.cells #[.int .u32 (Lw.hsum x.2.1.zs)] 33 (0, 0)))
    (Lw.own_and (Lw.own_pure _) (Lw.own_and (Lw.own_below (by simp; omega) (Nat.le_refl _)) (Lw.blk_own _ _ _ (fun _ => rfl))))
    (fun k => Lw.own_and (Lw.own_pure _) (Lw.own_and (Lw.own_below (by simp; omega) (Nat.le_refl _)) (Lw.own_ex fun x => Lw.own_and (Lw.own_pure _) (Lw.blk_own _ _ _ (fun _ => rfl)))))
    ⟨by simp, hBW, bR⟩
    (fun x => { tmps := #[.slice A n c, undef, .pointer (some ⟨w.heap.size, 0, none⟩), undef, x.2.1.v, .slice A n c, .func (.func 85) #[] #[.pointer (some ⟨w.heap.size + 1, 0, none⟩)], .int .i64 (x.1 : Int), x.2.1.v, undef, undef, undef, undef], defers := [] }) ?assign ?body ?done ?stop
  case assign =>
    intro l x W K hK
    gi_wp2
    exact hK
  case body =>
    rintro l pre ⟨i, ⟨⟨qA, qn, qc, qzs⟩, ok, hq1, hq2⟩⟩ W ⟨hpre, hB, bres⟩ hlen
    have OKW := (ok.below (Nat.le_refl _) hB).1
    simp only at OKW hq1 hq2
    simp only [Lw.TRow.v]
    rcases qA with _ | ad
    · have hv : (!(none : Option Addr).isNone) = false := rfl
      gi_wp2
      refine ⟨KeepsFrom.refl _ _, Lw.KB.refl _ _ _, fun x hx => ?_, hB, bres⟩
      rcases List.mem_append.1 hx with h | h
      · exact hpre x h
      · simp at h; subst h; rfl
    · have hv : (!(some ad).isNone) = true := rfl
      have HO := Lib.hid (hash_Of (some ad) qn qc qzs W OKW hq1 hq2)
      gi_wp2_with (refine ⟨trivial, ?_⟩; gi_at_call 53; refine (CallsIn.inRound l (callsIn_wide.2 HO.out)).mono ?_; rintro e w1 ⟨rfl, hb1⟩; have br1 := (hb1.block w.heap.size (Lw.blk_lt bres)).trans bres; have c0 := Lw.blk_cell br1 0; have f0 := Lw.blk_free br1 0; simp at c0)
      have br1 := (hb1.block w.heap.size (Lw.blk_lt bres)).trans bres
      refine ⟨((Lw.ko_below hb1).trans (KeepsOthers.setCell _ _ _)).from _, rfl, (Lw.bt hB hb1).setCell (p := ⟨_, 0, none⟩) (Nat.le_refl _) _, _, ⟨pre, rfl, hpre, by simp⟩, ?_⟩
      exact Lw.blk_set_same br1 0 _
  case done =>
    rintro D ys W hD rfl ⟨hN, hB, bres⟩ hK
    have c0 := Lw.blk_cell bres 0
    have f0 := Lw.blk_free bres 0
    simp at c0
    have V0 := Lib.hid (VN.out 0 hN rfl)
    gi_wp2
    refine ⟨by simp, .inl ⟨_, _, rfl, run_takeDeferred ((KeepsOthers.setCell W ⟨w.heap.size, 0, none⟩ (.int .u32 0)).same D _ hK rfl), ?_⟩⟩
    refine node_end (Lw.blk_set_same bres 0 _) ((hB.setCell (p := ⟨_, 0, none⟩) (Nat.le_refl _) _)) ((KeepsOthers.setCell W ⟨w.heap.size, 0, none⟩ (.int .u32 0)).same D _ hK rfl) (by simp at hD; omega) (by simp at hD; omega) rfl V0.out.symm
  case stop =>
    rintro D k pre W hD ⟨m, hm, rfl⟩ ⟨rfl, hB, x, ⟨p, hp, h1, h2⟩, bres⟩ hK
    have V0 := Lib.hid (VS.out m p x hp h1 h2)
    gi_wp2
    refine ⟨by simp, .inl ⟨_, _, rfl, run_takeDeferred hK, ?_⟩⟩
    exact node_end bres hB hK (by simp at hD; omega) (by simp at hD; omega) rfl V0.out.symm
end Go.Proofs.Ytnlbnadjolfjpaa
