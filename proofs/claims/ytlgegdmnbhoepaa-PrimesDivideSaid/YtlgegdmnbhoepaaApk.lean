/- An append onto a row of the call's own, one element of one cell: what was read of the row before is read still. -/
import Derived.Test.YtlgegdmnbhoepaaApp
import Derived.Maps.AppendAt
import Derived.OwnWalkIn
import Derived.Test.YtlgegdmnbhoepaaRange
set_option linter.unusedVariables false
set_option linter.unusedSimpArgs false
namespace Lw
open Go Go.RowKit
theorem own_apart1 {w w' : World} {b e s n g cap : Nat} {xs : List Value} {r : Option Nat} (h : w.ownsRow b e s (.slice (some ⟨g, 0, none⟩) n cap) n xs) (hg : w.grownBy w' r) (hr : r ≠ some g) : w'.ownsRow b e s (.slice (some ⟨g, 0, none⟩) n cap) n xs := by
  obtain ⟨hl, h2⟩ := h
  refine ⟨hl, ?_⟩
  rcases h2 with ⟨h0, h1⟩ | ⟨g', cap', cur, hu, hbg, hh, rest⟩
  · exact .inl ⟨h0, h1⟩
  · refine .inr ⟨g', cap', cur, hu, hbg, ?_, rest⟩
    have e : g = g' := by injection hu with hu; injection hu with hu; injection hu
    subst e
    exact (hg.block g (Array.getElem?_eq_some_iff.1 hh).1 (fun e => hr e.symm)).trans hh
theorem abc_row1 {β : Type} {c base e sz g : Nat} (hg : g ≠ c) (n cap : β → Nat) (xs : β → List Value) : AbC c (fun (s : β) W => W.ownsRow base e sz (.slice (some ⟨g, 0, none⟩) (n s) (cap s)) (n s) (xs s)) :=
  fun s W W' row hs hgr hr => own_apart1 hs hgr fun h => hg (hr g h)
theorem own_row1 {β : Type} {B base e sz g : Nat} (n cap : β → Nat) (xs : β → List Value) : OwnFrom B (fun (s : β) W => W.ownsRow base e sz (.slice (some ⟨g, 0, none⟩) (n s) (cap s)) (n s) (xs s)) := by
  intro s W W' row h hgr hr
  refine own_apart1 h hgr fun e => ?_
  obtain ⟨_, o', h', hn⟩ := hr g e
  rcases h.2 with ⟨h0, _⟩ | ⟨g', cap', cur, hu, hbg, hh, rest⟩
  · cases h0
  · have e : g = g' := by injection hu with hu; injection hu with hu; injection hu
    subst e
    rw [hh] at h'; cases h'; cases hn
section
variable {P : Program} {w : World}
/-- one element is appended: the same block, or a new one and nothing old has turned -/
theorem run_app_sharp {t ty e : TypeId} {z : Value} {bytes base : Nat} (hel : El P t e z 1 bytes) {g n cap : Nat} {xs : List Value} (hown : w.ownsRow base e 1 (.slice (some ⟨g, 0, none⟩) n cap) n xs) {ad : Addr} {c : Nat} {u : Value} (hu : w.cell? ad = some u) (h1 : u.oneCell' = true) (hm : n + 1 ≤ 16777216) (hbase : base ≤ w.heap.size) :
    ∃ v' w', (Builtin.append_ #[t, t] ty #[.slice (some ⟨g, 0, none⟩) n cap, .slice (some ad) 1 c]).run P w = .ok v' w' ∧ w'.ownsRow base e 1 v' (n + 1) (xs ++ [u]) ∧ w.grownBy w' (some g) ∧ (v'.ownBlock = some g ∨ (v'.ownBlock = some w.heap.size ∧ w.grownBy w' none)) := by
  obtain ⟨ht, hz, h0, hb, i, hi, hiz, hsz, hby⟩ := hel
  have hbound : (n + 1) * bytes ≤ 140737488355328 := by have := Nat.mul_le_mul hm hb; omega
  have hnews : ∀ (j : Nat) (x : Value), [u][j]? = some x → w.cell? (ad.add j) = some x := fun j x hx => by
    cases j with
    | zero => simp at hx; subst hx; rw [add_zero']; exact hu
    | succ j => simp at hx
  obtain ⟨v', w', hr, h2, h3, h4, h5⟩ := run_append_own_at (P := P) w base t ty e i z 1 bytes ht hi hiz hsz hby hz h0 _ n xs hown ad 1 c [u] rfl hnews (by intro x hx; simp at hx; subst hx; exact h1) (max_of (by omega)) hbound hbase
  refine ⟨v', w', hr, h2, h3, ?_⟩
  rcases h5 with h5 | h5
  · exact .inl h5
  · refine .inr ⟨h5, ?_⟩
    have hlen : xs.length = n * i.size := by rw [hsz]; exact hown.1
    have holds : ∀ j x, xs[j]? = some x → w.cell? ((⟨g, 0, none⟩ : Addr).add j) = some x := hown.cells (g := g) rfl
    by_cases hroom : n + 1 ≤ cap
    · rcases hown.2 with ⟨h0, _⟩ | ⟨g', cap', cur, he, hbg, hg, hnc, hcm, hcs, htake⟩
      · cases h0
      · injection he with he1 he2 he3
        injection he1 with he1
        injection he1 with he1
        subst he1 he3
        have hr2 := run_append_room (P := P) w t ty e i ht hi g n cap cur hg ad 1 c [u] (by rw [hsz]; rfl) hnews (by intro x hx; simp at hx; subst hx; exact h1) hroom (by rw [hsz]; simp; omega)
        rw [hr] at hr2
        injection hr2 with hr2 _
        subst hr2
        have := (Array.getElem?_eq_some_iff.1 hg).1
        simp [Value.ownBlock] at h5
        omega
    · have hr2 := run_append_grow (P := P) w t ty e i z ht hi hiz ⟨g, 0, none⟩ n cap xs hlen holds ad 1 c [u] (by rw [hsz]; rfl) hnews (by omega) (by omega) (growslice_fits (by omega) (by rw [hby]; exact hbound))
      rw [hr] at hr2
      injection hr2 with _ hr2
      subst hr2
      have h := World.grownBy_alloc w.drew (.cells (xs.toArray ++ #[u] ++ Builtin.zeroCells z.cells (grownCap w (n + 1) cap e - (n + 1))) e) none
      exact ⟨h.os, h.tape, h.output, h.size, h.block⟩
theorem wpListIn_app1 {F : Fence} {k : Nat} {ops : Array Oper} {rest : List Oper} {o : Oper} {a : Act} {Q : Exit → Act → World → Prop} {t e : TypeId} {z : Value} {bytes base : Nat} (hel : El P t e z 1 bytes) (hgd : o.guard = none) (s x : Operand)
    (ho : o.op = .call { callee := .builtin .append, args := #[s, x], argTypes := #[t, t] }) {g n cap : Nat} {xs : List Value} (hs : a.eval s = .slice (some ⟨g, 0, none⟩) n cap) (hown : w.ownsRow base e 1 (.slice (some ⟨g, 0, none⟩) n cap) n xs) {ad : Addr} {c : Nat} (hx : a.eval x = .slice (some ad) 1 c) {u : Value} (hu : w.cell? ad = some u) (h1 : u.oneCell' = true) (hm : n + 1 ≤ 16777216) (hbase : base ≤ w.heap.size)
    (hK : ∀ v' w', w'.ownsRow base e 1 v' (n + 1) (xs ++ [u]) → w.grownBy w' (some g) → (v'.ownBlock = some g ∨ (v'.ownBlock = some w.heap.size ∧ w.grownBy w' none)) → wpListIn F k P ops Q rest (a.put o.dst v') w') : wpListIn F k P ops Q (o :: rest) a w := by
  refine wpListIn_plain hgd fun K hK' => ?_
  obtain ⟨v', w', hr, h2, h3, h4⟩ := run_app_sharp (ty := o.type) (c := c) hel hown hu h1 hm hbase
  unfold Oper.wpIn
  refine ⟨?_, ?_⟩
  · simp [Oper.about, ho, resolve, Target.leads, Sem.run_pure]
  · rw [Oper.semAt_plain F _ _ (by rw [ho]; intro c hc; cases hc)]
    simp [execOp, ho, resolve, invoke, builtin, hs, hx, hr, Result.andThen]
    exact hK' _ _ (hK v' w' h2 h3 h4)
end
end Lw
