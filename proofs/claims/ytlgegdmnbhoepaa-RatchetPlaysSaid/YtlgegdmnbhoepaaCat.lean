/- slices.Grow of nil and slices.Concat of two rows. -/
import Derived.Test.YtlgegdmnbhoepaaApp
namespace Lw
open Go Go.RowKit
/-- 'append(nil, make([]T, n)...)' at the operation, for a walk that says what became of the world -/
theorem wpList_made {P : Program} {w : World} {ops : Array Oper} {rest : List Oper} {o : Oper} {a : Act} {Q : Exit → Act → World → Prop} {t tn e : TypeId} {z : Value} {bytes : Nat} (hel : El P t e z 1 bytes) {kn k : IntKind} (htn : P.underlying tn = some (.int kn)) (hgd : o.guard = none) (s x : Operand)
    (ho : o.op = .call { callee := .builtin .append, args := #[s, x], argTypes := #[t, tn] }) (hs : a.eval s = .slice none 0 0) {n : Nat} (hx : a.eval x = .int k (n : Int)) (h0 : 0 < n) (hn : n ≤ 16777216)
    (h : ∀ c cs, n ≤ c → c ≤ maxLen → cs.size = c → wpList P ops Q rest (a.put o.dst (.slice (some ⟨w.heap.size, 0, none⟩) n c)) (w.drew.alloc (.cells cs e))) : wpList P ops Q (o :: rest) a w := by
  obtain ⟨c, cs, hr, h1, h2, h3⟩ := made_own (w := w) (ty := o.type) hel htn (k := k) n h0 hn
  exact Lib.wpList_append_run w hgd s x t tn ho _ _ hs hx _ _ hr (h c cs h1 h2 h3)
end Lw
