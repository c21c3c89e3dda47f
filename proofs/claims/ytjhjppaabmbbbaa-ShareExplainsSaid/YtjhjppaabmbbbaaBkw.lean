/- slices.Backward: the iterator over a slice from behind, for whatever loop body leaves the slice alone. -/
import Derived.Test.YtjhjppaabmbbbaaSl
import Derived.Test.YtjhjppaabmbbbaaRange
set_option linter.unusedVariables false
namespace Lw
open Go Go.RowKit
/-- the two blocks that the iterator reads lie as they lay -/
def KB (Bs Ba : Nat) (W W' : World) : Prop := W'.heap[Bs]? = W.heap[Bs]? ∧ W'.heap[Ba]? = W.heap[Ba]?
theorem KB.refl (Bs Ba : Nat) (W : World) : KB Bs Ba W W := ⟨rfl, rfl⟩
theorem KB.trans {Bs Ba : Nat} {A B C : World} (h : KB Bs Ba A B) (k : KB Bs Ba B C) : KB Bs Ba A C := ⟨k.1.trans h.1, k.2.trans h.2⟩
theorem cell_of_blk {W W' : World} (p : Addr) (h : W'.heap[p.block]? = W.heap[p.block]?) : W'.cell? p = W.cell? p := by unfold World.cell?; rw [h]
theorem KB.cells {Bs Ba : Nat} {W W' : World} (h : KB Bs Ba W W') (p : Addr) (hp : p.block = Bs ∨ p.block = Ba) : W'.cell? p = W.cell? p := by
  refine cell_of_blk p ?_
  rcases hp with e | e <;> rw [e]
  · exact h.1
  · exact h.2
theorem KB.put {Bs Ba : Nat} {w : World} (h1 : Bs < w.heap.size) (h2 : Ba < w.heap.size) (W : World) (l : Nat) (o o' : Obj) (hl : w.heap.size ≤ l) (h : W.heap[l]? = some o) (_ : o.isCells = false) (_ : o.isWalk = false) : KB Bs Ba W (W.putObj l o') := by
  have hlt := (Array.getElem?_eq_some_iff.1 h).1
  have g := grownBy_putObj' W l o'
  exact ⟨g.block Bs (by omega) (fun e => by cases e; omega), g.block Ba (by omega) (fun e => by cases e; omega)⟩
theorem KB.below {Bs Ba B : Nat} {W W' : World} (h : Below B W W') (h1 : Bs < B) (h2 : Ba < B) : KB Bs Ba W W' := ⟨h.block Bs h1, h.block Ba h2⟩
/-- what has come when m are left -/
def bks {α : Type} (xs : List α) (m : Nat) : List (Nat × α) := ((xs.zipIdx.drop m).reverse).map fun x => (x.2, x.1)
theorem bks_top {α : Type} (xs : List α) : bks xs xs.length = [] := by simp [bks]
theorem bks_length {α : Type} (xs : List α) (m : Nat) : (bks xs m).length = xs.length - m := by simp [bks]
theorem bks_succ {α : Type} {xs : List α} {m : Nat} (h : m < xs.length) : bks xs m = bks xs (m + 1) ++ [(m, xs[m])] := by
  unfold bks
  rw [List.drop_eq_getElem_cons (by simpa using h), List.reverse_cons, List.map_append]
  simp
theorem bks_snd {α : Type} : ∀ (xs : List α), (bks xs 0).map (·.2) = xs.reverse := by
  intro xs
  unfold bks
  rw [List.drop_zero, List.map_map, List.map_reverse]
  congr 1
  exact List.zipIdx_map_fst 0 xs
end Lw
namespace Go.Proofs.Ytjhjppaabmbbbaa
open Go.RowKit Go.Shelf
attribute [local go_sem] Oper.semAt_some
end Go.Proofs.Ytjhjppaabmbbbaa
