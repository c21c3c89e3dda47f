/- slices.Backward: the iterator over a slice from behind, for whatever loop body leaves the slice alone. -/
import Derived.Test.YtnlbnadjolfjpaaSl
import Derived.Test.YtnlbnadjolfjpaaRange
set_option linter.unusedVariables false
namespace Lw
open Go Go.RowKit
/-- the two blocks that the iterator reads lie as they lay -/
def KB (Bs Ba : Nat) (W W' : World) : Prop := W'.heap[Bs]? = W.heap[Bs]? ∧ W'.heap[Ba]? = W.heap[Ba]?
theorem KB.refl (Bs Ba : Nat) (W : World) : KB Bs Ba W W := ⟨rfl, rfl⟩
theorem KB.trans {Bs Ba : Nat} {A B C : World} (h : KB Bs Ba A B) (k : KB Bs Ba B C) : KB Bs Ba A C := ⟨k.1.trans h.1, k.2.trans h.2⟩
theorem cell_of_blk {W W' : World} (p : Addr) (h : W'.heap[p.block]? = W.heap[p.block]?) : W'.cell? p = W.cell? p := by unfold World.cell?; rw [h]
theorem KB.cells {Bs Ba : Nat} {W W' : World} (h : KB Bs Ba W W') (p : Addr) (hp : p.block = Bs ∨ p.block = Ba) : W'.cell? p = W.cell? p := by
  refine cell_of_blk p ?_
  rcases hp with e | e <;> rw [e]
  · exact h.1
  · exact h.2
theorem KB.put {Bs Ba : Nat} {w : World} (h1 : Bs < w.heap.size) (h2 : Ba < w.heap.size) (W : World) (l : Nat) (o o' : Obj) (hl : w.heap.size ≤ l) (h : W.heap[l]? = some o) (_ : o.isCells = false) (_ : o.isWalk = false) : KB Bs Ba W (W.putObj l o') := by
  have hlt := (Array.getElem?_eq_some_iff.1 h).1
  have g := grownBy_putObj' W l o'
  exact ⟨g.block Bs (by omega) (fun e => by cases e; omega), g.block Ba (by omega) (fun e => by cases e; omega)⟩
theorem KB.below {Bs Ba B : Nat} {W W' : World} (h : Below B W W') (h1 : Bs < B) (h2 : Ba < B) : KB Bs Ba W W' := ⟨h.block Bs h1, h.block Ba h2⟩
/-- what has come when m are left -/
def bks {α : Type} (xs : List α) (m : Nat) : List (Nat × α) := ((xs.zipIdx.drop m).reverse).map fun x => (x.2, x.1)
theorem bks_top {α : Type} (xs : List α) : bks xs xs.length = [] := by simp [bks]
theorem bks_length {α : Type} (xs : List α) (m : Nat) : (bks xs m).length = xs.length - m := by simp [bks]
theorem bks_succ {α : Type} {xs : List α} {m : Nat} (h : m < xs.length) : bks xs m = bks xs (m + 1) ++ [(m, xs[m])] := by
  unfold bks
  rw [List.drop_eq_getElem_cons (by simpa using h), List.reverse_cons, List.map_append]
  simp
theorem bks_snd {α : Type} : ∀ (xs : List α), (bks xs 0).map (·.2) = xs.reverse := by
  intro xs
  unfold bks
  rw [List.drop_zero, List.map_map, List.map_reverse]
  congr 1
  exact List.zipIdx_map_fst 0 xs
end Lw
namespace Go.Proofs.Ytnlbnadjolfjpaa
open Go.RowKit Go.Shelf
attribute [local go_sem] Oper.semAt_some
set_option maxRecDepth 100000 in
set_option maxHeartbeats 2000000 in
theorem bkw_bytes_run {α : Type} (enc : α → Value) (xs : List α) (Bs Ba len cap : Nat) (ad : Addr) (hl : xs.length = len) (hlen : len ≤ 1048576) (hBa : ad.block = Ba) (n l : Nat) (hn : 1 ≤ n) (J Jx : List (Nat × α) → World → Prop)
    (hY : ∀ pre x W, J pre W → pre.length < len → YieldAt Fence.wide (n - 1) Try.prog l #[.int .i64 (x.1 : Int), enc x.2] W fun e W' =>
      (e = .returned (.bool true) ∧ J (pre ++ [x]) W' ∧ Lw.KB Bs Ba W W') ∨ (e = .returned (.bool false) ∧ Jx (pre ++ [x]) W'))
    (W : World) (hBs : W.cell? ⟨Bs, 0, none⟩ = some (.slice (some ad) len cap)) (hc : ∀ j (h : j < xs.length), W.cell? (ad.add j) = some (enc xs[j])) (h0 : J [] W) :
    CallsIn Fence.wide n Try.prog 85 #[.func (.yield l) #[] #[], .pointer (some ⟨Bs, 0, none⟩)] W fun e W' => (∃ v, e = .returned v) ∧
      ((∃ ys, ys = Lw.bks xs 0 ∧ J ys W') ∨ (∃ pre, (∃ m, m ≤ len ∧ pre = Lw.bks xs m) ∧ Jx pre W')) := by
  refine callsIn_of_wp Try.func85 rfl trivial ?_ rfl
  simp only [Try.ntmps85, List.size_toArray, List.length_cons, List.length_nil, Nat.reduceAdd, Nat.reduceSub, Array.replicate_succ, Array.replicate_zero, List.push_toArray, List.append_toArray, List.nil_append, List.cons_append]
  gi_wp2
  gi_loopw [3] (fun i wr => ∃ m : Nat, m ≤ len ∧ i = .int .i64 ((m : Int) - 1) ∧ J (Lw.bks xs m) wr ∧ Lw.KB Bs Ba W wr) (fun i _ => (intOf i + 1).toNat)
  case atStart => exact ⟨len, Nat.le_refl _, by go_num, by rw [← hl, Lw.bks_top]; exact h0, Lw.KB.refl _ _ _⟩
  case round =>
    obtain ⟨m, hm, rfl, hJs, hk⟩ := hrel
    have hBs2 := (hk.cells ⟨Bs, 0, none⟩ (.inl rfl)).trans hBs
    cases m with
    | zero =>
      gi_wp2
      go_end0
      exact ⟨⟨_, rfl⟩, .inl ⟨_, rfl, hJs⟩⟩
    | succ m =>
      have hmx : m < xs.length := by omega
      have hcx := (hk.cells (ad.add m) (.inr (by rw [Lw.add_block]; exact hBa))).trans (hc m hmx)
      have hi : ((m + 1 : Nat) : Int) - 1 = (m : Int) := by omega
      rw [hi]
      obtain ⟨fn, tmps, assign, body, hy, hR⟩ := hY _ (m, xs[m]) wr hJs (by rw [Lw.bks_length]; omega)
      dsimp only at hy
      obtain ⟨v, hv⟩ : ∃ v, enc xs[m] = v := ⟨_, rfl⟩
      rw [hv] at hcx hy
      have hml : (m : Int) < (len : Int) := by omega
      clear hv hc
      gi_wp2
      refine hR.mono ?_
      rintro e W3 (⟨rfl, hJ3, hk3⟩ | ⟨rfl, hJx3⟩)
      · gi_wp2
        go_roundw
        case rel => exact ⟨m, by omega, by go_num, by rw [Lw.bks_succ hmx]; exact hJ3, hk.trans hk3⟩
        case measure => simp [intOf] <;> omega
      · gi_wp2
        refine bodyPost_ret (results_none rfl _ _ _) rfl ?_
        exact ⟨⟨_, rfl⟩, .inr ⟨_, ⟨m, by omega, (Lw.bks_succ hmx).symm⟩, hJx3⟩⟩
set_option maxRecDepth 100000 in
theorem bkw_bytes_nil {α : Type} (Bs : Nat) (n l : Nat) (J : List (Nat × α) → World → Prop) (W : World) (A : Option Addr) (cap : Nat) (hBs : W.cell? ⟨Bs, 0, none⟩ = some (.slice A 0 cap)) (h0 : J [] W) :
    CallsIn Fence.wide n Try.prog 85 #[.func (.yield l) #[] #[], .pointer (some ⟨Bs, 0, none⟩)] W fun e W' => (∃ v, e = .returned v) ∧ J [] W' := by
  refine callsIn_of_wp Try.func85 rfl trivial ?_ rfl
  simp only [Try.ntmps85, List.size_toArray, List.length_cons, List.length_nil, Nat.reduceAdd, Nat.reduceSub, Array.replicate_succ, Array.replicate_zero, List.push_toArray, List.append_toArray, List.nil_append, List.cons_append]
  gi_wp2
  gi_loopw [3] (fun i wr => i = .int .i64 (-1) ∧ J [] wr) (fun _ _ => 0)
  case atStart => exact ⟨by first | rfl | go_num, h0⟩
  case round =>
    obtain ⟨rfl, hJs⟩ := hrel
    gi_wp2
    go_end0
    exact ⟨⟨_, rfl⟩, hJs⟩
theorem bkw_bytes_stops {α : Type} (enc : α → Value) (xs : List α) (Bs Ba len cap : Nat) (A : Option Addr) (hlen : len ≤ 1048576) (n : Nat) (hn : 1 ≤ n) (w : World) (hBs : Bs < w.heap.size) (hBa : Ba < w.heap.size)
    (hs : w.cell? ⟨Bs, 0, none⟩ = some (.slice A len cap)) (R : Lw.Rd w 1 A len (xs.map enc)) (hA : 0 < len → ∀ ad, A = some ad → ad.block = Ba) :
    SeqStopsK Fence.wide n Try.prog 85 #[.pointer (some ⟨Bs, 0, none⟩)] (fun x : Nat × α => #[Value.int .i64 (x.1 : Int), enc x.2]) (Lw.KB Bs Ba) (fun ys => ys = Lw.bks xs 0)
      (fun pre => ∃ m, m ≤ len ∧ pre = Lw.bks xs m) len w := fun l J Jx W hW _ _ hY h0 => by
  have hs' := (hW.cell (p := ⟨Bs, 0, none⟩) hBs).trans hs
  have hl : xs.length = len := by have := R.1; simpa using this
  rcases Nat.eq_zero_or_pos len with rfl | hp
  · have hx : xs = [] := List.eq_nil_of_length_eq_zero hl
    subst hx
    exact (bkw_bytes_nil Bs n l J W A cap hs' h0).mono fun e W' ⟨he, hj⟩ => ⟨he, .inl ⟨_, rfl, hj⟩⟩
  · obtain ⟨ad, rfl, _, hc⟩ := R.2 hp
    exact bkw_bytes_run enc xs Bs Ba len cap ad hl hlen (hA hp ad rfl) n l hn J Jx hY W hs' (fun j hj => (hW.cell (p := ad.add j) (by rw [Lw.add_block, hA hp ad rfl]; exact hBa)).trans (hc j _ (by simp [hj]))) h0
theorem bkw_bytes (A : Option Addr) (len cap : Nat) (w : World) :
    Calls Try.prog 67 #[.slice A len cap] w fun e w' => e = .returned (.func (.func 85) #[] #[.pointer (some ⟨w.heap.size, 0, none⟩)]) ∧ w.alloc (.cells #[.slice A len cap] 32) = w' := by
  go_enter Try.func67, Try.ntmps67
  go_wp2
  go_ret
  exact ⟨rfl, rfl⟩

end Go.Proofs.Ytnlbnadjolfjpaa
