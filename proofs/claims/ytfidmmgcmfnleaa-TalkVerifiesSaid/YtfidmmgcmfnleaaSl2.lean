/- Two rows of a call's own: an append to the one leaves the other. -/
import Derived.Test.YtfidmmgcmfnleaaSl
set_option linter.unusedVariables false
set_option linter.unusedSimpArgs false
namespace Lw
open Go Go.RowKit
theorem app_two {w0 W X w3 : World} {base e n n' : Nat} {p m p' : Value} {xs ys : List Value} {o : Obj} (hB : Below w0.heap.size w0 W) (hX : Below W.heap.size W X) (hb0 : w0.heap.size < base)
    (op : W.ownsRow base e 1 p n xs) (om : W.ownsRow base e 1 m n' ys) (ne : p.ownBlock ≠ m.ownBlock) (hg : X.grownBy w3 p.ownBlock) (hat : p'.ownBlock = p.ownBlock ∨ p'.ownBlock = some X.heap.size) (box : W.heap[w0.heap.size]? = some o) :
    w3.ownsRow base e 1 m n' ys ∧ p'.ownBlock ≠ m.ownBlock ∧ w3.heap[w0.heap.size]? = some o ∧ Below w0.heap.size w0 w3 ∧ (∀ b, W.heap.size ≤ b → b < X.heap.size → w3.heap[b]? = X.heap[b]?) ∧ X.heap.size ≤ w3.heap.size := by
  have hlt : w0.heap.size < W.heap.size := (Array.getElem?_eq_some_iff.1 box).1
  have hsz := hX.size
  refine ⟨(ownsBelow om (Nat.le_refl _) hX).kept hg (.inr (Ne.symm ne)), ?_, ?_, (bt hB hX).grown hg (by have := hB.size; omega) (fun k hk => by have := (op.lt k hk).1; omega), ?_, hg.size⟩
  · rcases hat with e1 | e1
    · rw [e1]; exact ne
    · rw [e1]; intro e2
      have := (om.lt _ e2.symm).2; omega
  · rw [hg.block w0.heap.size (by omega) (fun e2 => by have := (op.lt _ e2.symm).1; omega), hX.block _ hlt]; exact box
  · intro b h1 h2
    exact hg.block b h2 (fun e2 => by have := (op.lt _ e2.symm).2; omega)
theorem cells_new' {W : World} {b : Nat} (hb : W.heap.size = b) (cs : Array Value) (t : TypeId) : ∀ j u, cs.toList[j]? = some u → (W.alloc (.cells cs t)).cell? ((⟨b, 0, none⟩ : Addr).add j) = some u := by rw [← hb]; exact cells_new W cs t
/-- six cells of two blocks of the call's own are kept over a call that makes memory -/
theorem gs_keep6 {w w1 w2 : World} {b d : Nat} {x0 x1 x2 x3 y0 y1 : Value} (h0 : w1.cell? ⟨b, 0, none⟩ = some x0) (h1 : w1.cell? ⟨b, 1, none⟩ = some x1) (h2 : w1.cell? ⟨b, 2, none⟩ = some x2) (h3 : w1.cell? ⟨b, 3, none⟩ = some x3) (g0 : w1.cell? ⟨d, 0, none⟩ = some y0) (g1 : w1.cell? ⟨d, 1, none⟩ = some y1) (hl : b < w1.heap.size) (hd : d < w1.heap.size) (hB : Below w.heap.size w w1) (hb : Below w1.heap.size w1 w2) :
    w2.cell? ⟨b, 0, none⟩ = some x0 ∧ w2.cell? ⟨b, 1, none⟩ = some x1 ∧ w2.cell? ⟨b, 2, none⟩ = some x2 ∧ w2.cell? ⟨b, 3, none⟩ = some x3 ∧ w2.cell? ⟨d, 0, none⟩ = some y0 ∧ w2.cell? ⟨d, 1, none⟩ = some y1 ∧ b < w2.heap.size ∧ d < w2.heap.size ∧ Below w.heap.size w w2 :=
  ⟨(hb.cell (p := ⟨b, 0, none⟩) hl).trans h0, (hb.cell (p := ⟨b, 1, none⟩) hl).trans h1, (hb.cell (p := ⟨b, 2, none⟩) hl).trans h2, (hb.cell (p := ⟨b, 3, none⟩) hl).trans h3, (hb.cell (p := ⟨d, 0, none⟩) hd).trans g0, (hb.cell (p := ⟨d, 1, none⟩) hd).trans g1, by have := hb.size; omega, by have := hb.size; omega, bt hB hb⟩
end Lw
