/- Regions that draw, walked by hand, with calls that make memory: the condition on the world is that all blocks of a world w0 stand. -/
import Derived.Test.YtlgegdmnbhoepaaWk
import Derived.Test.YtlgegdmnbhoepaaRegT
import Derived.Test.YtlgegdmnbhoepaaSl

namespace Lw
open Go Go.RowKit
/-- what stood in w0 stands in w -/
def Sm (w0 w : World) : Prop := (∀ p : Addr, p.block < w0.heap.size → w.cell? p = w0.cell? p) ∧ (∀ p : Addr, p.block < w0.heap.size → w.frozen? p = w0.frozen? p) ∧ w0.heap.size ≤ w.heap.size ∧ Below w0.heap.size w0 w
theorem sm_of {w0 w : World} (h : Below w0.heap.size w0 w) : Sm w0 w := ⟨fun _ hp => h.cell hp, fun _ hp => h.frozen hp, h.size, h⟩
theorem sm_bel {w0 w : World} (h : Sm w0 w) : Below w0.heap.size w0 w := h.2.2.2
theorem sm_drew (w0 : World) : Sm w0 w0.drew := sm_of (Below.drew (Below.refl _ _))
theorem sm_drew' {w0 w : World} (h : Sm w0 w) : Sm w0 w.drew := sm_of (Below.drew h.2.2.2)
theorem own_drew {w : World} {base e size n : Nat} {v : Value} {xs : List Value} (h : w.ownsRow base e size v n xs) : w.drew.ownsRow base e size v n xs := h
theorem Rd.drew {w : World} {sz n : Nat} {A : Option Addr} {xs : List Value} (h : Rd w sz A n xs) : Rd w.drew sz A n xs := h
theorem blk_drew {W : World} {b : Nat} {o : Option Obj} (h : W.heap[b]? = o) : W.drew.heap[b]? = o := h
theorem sm_keep {w0 w w' : World} (h : Sm w0 w) (hb : Below w.heap.size w w') : Sm w0 w' := sm_of (bt h.2.2.2 hb)
end Lw
