/- append onto a row of the call's own, the source any slice that reads as a list (nil let in): the operation and what it leaves. -/
import Derived.Test.YtlgegdmnbhoepaaSl
import Derived.Test.YtlgegdmnbhoepaaRange
import Derived.Lib.AppendZeros
import Derived.BigFrame
import Derived.Laws.MakeOwn
set_option linter.unusedVariables false
set_option linter.unusedSimpArgs false
namespace Lw
open Go Go.RowKit
/-- what the program says of a slice type t, its elements' type e: the element's zero value, its cells, its bytes -/
def El (P : Program) (t e : TypeId) (z : Value) (size bytes : Nat) : Prop :=
  P.underlying t = some (.slice e) ∧ z.cells.size = size ∧ 0 < size ∧ bytes ≤ 4096 ∧ ∃ i, P.info? e = some i ∧ i.zero = some z ∧ i.size = size ∧ i.bytes = bytes
theorem El.mk' {P : Program} {t e : TypeId} {z : Value} {size bytes : Nat} (h : P.underlying t = some (.slice e)) (hi : (P.info? e).map (fun i => (i.zero, i.size, i.bytes)) = some (some z, size, bytes)) (hz : z.cells.size = size) (h0 : 0 < size) (hb : bytes ≤ 4096) : El P t e z size bytes :=
  ⟨h, hz, h0, hb, info_parts hi⟩
section
variable {P : Program} {w : World}
theorem run_app {t ty e : TypeId} {z : Value} {size bytes base : Nat} (hel : El P t e z size bytes) {v : Value} {n : Nat} {xs : List Value} (hown : w.ownsRow base e size v n xs) {A : Option Addr} {m c : Nat} {news : List Value} (R : Rd w size A m news) (h1 : ∀ u ∈ news, u.oneCell' = true) (hm : n + m ≤ 16777216) (hbase : base ≤ w.heap.size) :
    ∃ v' w', (Builtin.append_ #[t, t] ty #[v, .slice A m c]).run P w = .ok v' w' ∧ w'.ownsRow base e size v' (n + m) (xs ++ news) ∧ w.grownBy w' v.ownBlock ∧ (v'.ownBlock = v.ownBlock ∨ v'.ownBlock = some w.heap.size) := by
  obtain ⟨ht, hz, h0, hb, i, hi, hiz, hsz, hby⟩ := hel
  have hbound : (n + m) * bytes ≤ 140737488355328 := by
    have := Nat.mul_le_mul hm hb; omega
  rcases A with _ | ad
  · have hm0 : m = 0 := by
      rcases Nat.eq_zero_or_pos m with h | h
      · exact h
      · obtain ⟨_, h2, _⟩ := R.2 h; cases h2
    subst hm0
    have hn : news = [] := List.eq_nil_of_length_eq_zero (by simpa using R.1)
    subst hn
    refine ⟨v, w, ?_, by simpa using hown, World.grownBy.refl w _, .inl rfl⟩
    rcases hown.2 with ⟨rfl, rfl⟩ | ⟨g, cap, cur, rfl, _, _, hnc, _⟩
    · simp [Builtin.append_, run_underlying ht, Go.sizeOf, typeInfo, hi, Builtin.lenOf, Builtin.firstCells]
    · simp [Builtin.append_, run_underlying ht, Go.sizeOf, typeInfo, hi, Builtin.lenOf, Builtin.firstCells, hnc, storeCells]
  · have hc : ∀ j u, news[j]? = some u → w.cell? (ad.add j) = some u := by
      intro j u hu
      rcases Nat.eq_zero_or_pos m with h | h
      · subst h
        have hn : news = [] := List.eq_nil_of_length_eq_zero (by simpa using R.1)
        subst hn; simp at hu
      · obtain ⟨ad', h2, _, h3⟩ := R.2 h
        injection h2 with h2; subst h2; exact h3 j u hu
    obtain ⟨v', w', a, b, c', _, d⟩ := run_append_own_at (P := P) w base t ty e i z size bytes ht hi hiz hsz hby hz h0 v n xs hown ad m c news R.1 hc h1 (max_of (by omega)) hbound hbase
    exact ⟨v', w', a, b, c', d⟩
theorem wp_app {o : Oper} {a : Act} {K : Act → World → Prop} {Q : Exit → Act → World → Prop} {t e : TypeId} {z : Value} {size bytes base : Nat} (hel : El P t e z size bytes) (s x : Operand)
    (ho : o.op = .call { callee := .builtin .append, args := #[s, x], argTypes := #[t, t] }) {v : Value} {n : Nat} {xs : List Value} (hs : a.eval s = v) (hown : w.ownsRow base e size v n xs) {A : Option Addr} {m c : Nat} {news : List Value} (hx : a.eval x = .slice A m c) (R : Rd w size A m news) (h1 : ∀ u ∈ news, u.oneCell' = true) (hm : n + m ≤ 16777216)
    {w0 : World} (hB : Below w0.heap.size w0 w) (hb0 : w0.heap.size ≤ base) (hbase : base ≤ w.heap.size)
    (h : ∀ v' w', w'.ownsRow base e size v' (n + m) (xs ++ news) → Below w0.heap.size w0 w' → w.grownBy w' v.ownBlock → (v'.ownBlock = v.ownBlock ∨ v'.ownBlock = some w.heap.size) → K (a.put o.dst v') w') : o.wp P a w K Q := by
  obtain ⟨v', w', hr, h2, h3, h4⟩ := run_app (ty := o.type) (c := c) hel hown R h1 hm hbase
  unfold Oper.wp execOp
  simp only [ho, resolve, invoke, builtin, Sem.run_bind, Sem.run_pure, Result.andThen_ok, List.map_toArray, List.map_cons, List.map_nil, hs, hx, hr]
  exact h v' w' h2 (grown_own hB hown hb0 h3) h3 h4
theorem wpList_app {ops : Array Oper} {rest : List Oper} {o : Oper} {a : Act} {Q : Exit → Act → World → Prop} {t e : TypeId} {z : Value} {size bytes base : Nat} (hel : El P t e z size bytes) (hgd : o.guard = none) (s x : Operand)
    (ho : o.op = .call { callee := .builtin .append, args := #[s, x], argTypes := #[t, t] }) {v : Value} {n : Nat} {xs : List Value} (hs : a.eval s = v) (hown : w.ownsRow base e size v n xs) {A : Option Addr} {m c : Nat} {news : List Value} (hx : a.eval x = .slice A m c) (R : Rd w size A m news) (h1 : ∀ u ∈ news, u.oneCell' = true) (hm : n + m ≤ 16777216)
    {w0 : World} (hB : Below w0.heap.size w0 w) (hb0 : w0.heap.size ≤ base) (hbase : base ≤ w.heap.size)
    (h : ∀ v' w', w'.ownsRow base e size v' (n + m) (xs ++ news) → Below w0.heap.size w0 w' → w.grownBy w' v.ownBlock → (v'.ownBlock = v.ownBlock ∨ v'.ownBlock = some w.heap.size) → wpList P ops Q rest (a.put o.dst v') w') : wpList P ops Q (o :: rest) a w :=
  wpList_plain hgd fun _ hK => wp_app hel s x ho hs hown hx R h1 hm hB hb0 hbase fun v' w' h2 h3 h4 h5 => hK _ _ (h v' w' h2 h3 h4 h5)
theorem wpList_app_g {ops : Array Oper} {rest : List Oper} {o : Oper} {a : Act} {Q : Exit → Act → World → Prop} {t e : TypeId} {z : Value} {size bytes base : Nat} (hel : El P t e z size bytes) (hw : Region.wanted o (yielded ops a.tmps) = true) (s x : Operand)
    (ho : o.op = .call { callee := .builtin .append, args := #[s, x], argTypes := #[t, t] }) {v : Value} {n : Nat} {xs : List Value} (hs : a.eval s = v) (hown : w.ownsRow base e size v n xs) {A : Option Addr} {m c : Nat} {news : List Value} (hx : a.eval x = .slice A m c) (R : Rd w size A m news) (h1 : ∀ u ∈ news, u.oneCell' = true) (hm : n + m ≤ 16777216)
    {w0 : World} (hB : Below w0.heap.size w0 w) (hb0 : w0.heap.size ≤ base) (hbase : base ≤ w.heap.size)
    (h : ∀ v' w', w'.ownsRow base e size v' (n + m) (xs ++ news) → Below w0.heap.size w0 w' → w.grownBy w' v.ownBlock → (v'.ownBlock = v.ownBlock ∨ v'.ownBlock = some w.heap.size) → wpList P ops Q rest (a.put o.dst v') w') : wpList P ops Q (o :: rest) a w :=
  BigFrame.wpList_want hw fun _ hK => wp_app hel s x ho hs hown hx R h1 hm hB hb0 hbase fun v' w' h2 h3 h4 h5 => hK _ _ (h v' w' h2 h3 h4 h5)
theorem step_app {ops : Array Oper} {o : Oper} {a : Act} {K : Act → World → Prop} {Q : Exit → Act → World → Prop} {E : Prop} {t e : TypeId} {z : Value} {size bytes base : Nat} (hel : El P t e z size bytes) (hgd : o.guard = none) (s x : Operand)
    (ho : o.op = .call { callee := .builtin .append, args := #[s, x], argTypes := #[t, t] }) {v : Value} {n : Nat} {xs : List Value} (hs : a.eval s = v) (hown : w.ownsRow base e size v n xs) {A : Option Addr} {m c : Nat} {news : List Value} (hx : a.eval x = .slice A m c) (R : Rd w size A m news) (h1 : ∀ u ∈ news, u.oneCell' = true) (hm : n + m ≤ 16777216)
    {w0 : World} (hB : Below w0.heap.size w0 w) (hb0 : w0.heap.size ≤ base) (hbase : base ≤ w.heap.size)
    (h : ∀ v' w', w'.ownsRow base e size v' (n + m) (xs ++ news) → Below w0.heap.size w0 w' → w.grownBy w' v.ownBlock → (v'.ownBlock = v.ownBlock ∨ v'.ownBlock = some w.heap.size) → K (a.put o.dst v') w') : if Region.wanted o (yielded ops a.tmps) = true then Oper.wp P o a w K Q else E := by
  have hw : Region.wanted o (yielded ops a.tmps) = true := by simp [Region.wanted, hgd]
  rw [if_pos hw]
  exact wp_app hel s x ho hs hown hx R h1 hm hB hb0 hbase h
/-- a new row of zeros: 'append(nil, make([]T, n)...)' -/
theorem made_own {t tn ty e : TypeId} {z : Value} {bytes : Nat} (hel : El P t e z 1 bytes) {kn k : IntKind} (htn : P.underlying tn = some (.int kn)) (n : Nat) (h0 : 0 < n) (hn : n ≤ 16777216) :
    ∃ c cs, (Builtin.append_ #[t, tn] ty #[.slice none 0 0, .int k n]).run P w = .ok (.slice (some ⟨w.heap.size, 0, none⟩) n c) (w.drew.alloc (.cells cs e)) ∧ n ≤ c ∧ c ≤ maxLen ∧ cs.size = c := by
  obtain ⟨ht, hz, h0', hb, i, hi, hiz, hsz, hby⟩ := hel
  have hbound : n * i.bytes ≤ 281474976710656 := by
    rw [hby]; have := Nat.mul_le_mul hn hb; omega
  refine ⟨_, _, Lib.run_append_nil_zeros w t tn ty e i z k kn ht htn hi hiz n h0 (by omega) (by omega) hbound, grownCap_ge .., grownCap_le_maxLen _ _ _ _ (max_of (by omega)), ?_⟩
  have := grownCap_ge w n 0 e
  simp only [Array.size_append, size_zeroCells, hz]
  omega
end
/-- an element of a row of the call's own is set -/
theorem own_set {w : World} {base e n c g i : Nat} {v : Value} {xs : List Value} (h : w.ownsRow base e 1 (.slice (some ⟨g, 0, none⟩) n c) n xs) (hi : i < n) : (w.setCell ⟨g, i, none⟩ v).ownsRow base e 1 (.slice (some ⟨g, 0, none⟩) n c) n (xs.set i v) := by
  obtain ⟨hl, h2⟩ := h
  refine ⟨by simpa using hl, ?_⟩
  rcases h2 with ⟨h0, _⟩ | ⟨g', cap, cur, hv, hbg, hh, hnc, hcm, hcs, htake⟩
  · cases h0
  · injection hv with e1 e2 e3
    injection e1 with e1
    injection e1 with e1
    subst e1 e3
    refine .inr ⟨g, c, cur.setIfInBounds i v, rfl, hbg, ?_, hnc, hcm, by simpa using hcs, ?_⟩
    · simp [World.setCell, Array.getElem?_modify, hh]
    · rw [← htake, Array.toList_setIfInBounds, List.take_set]
/-- its cell, and that it may be written -/
theorem own_cell {w : World} {base e n c g i : Nat} {v : Value} {xs : List Value} (h : w.ownsRow base e 1 (.slice (some ⟨g, 0, none⟩) n c) n xs) (hv : xs[i]? = some v) : w.cell? ⟨g, i, none⟩ = some v ∧ w.frozen? ⟨g, i, none⟩ = false ∧ base ≤ g ∧ g < w.heap.size := by
  have h1 := h.cells (g := g) rfl i v hv
  have e : (⟨g, 0, none⟩ : Addr).add i = ⟨g, i, none⟩ := by unfold Addr.add; split <;> simp_all
  rw [e] at h1
  refine ⟨h1, ?_⟩
  rcases h.2 with ⟨h0, _⟩ | ⟨g', cap, cur, hv, hbg, hh, _⟩
  · cases h0
  · injection hv with e1 e2 e3
    injection e1 with e1
    injection e1 with e1
    subst e1
    exact ⟨by simp [World.frozen?, hh], hbg, blk_lt hh⟩
/-- a block that is known whole is the call's own -/
theorem own_blk {w : World} {base g e size n : Nat} {cs : List Value} (h : w.heap[g]? = some (.cells cs.toArray e (0, 0))) (hn : cs.length = n * size) (hm : n ≤ 16777216) (hb : base ≤ g) : w.ownsRow base e size (.slice (some ⟨g, 0, none⟩) n n) n cs :=
  ⟨hn, .inr ⟨g, n, cs.toArray, rfl, hb, h, Nat.le_refl _, max_of (by omega), by simpa using hn, by rw [← hn]; exact List.take_length⟩⟩
/-- 'make([]T, n)' -/
theorem run_mk {P : Program} {t e : TypeId} {z : Value} {bytes : Nat} (hel : El P t e z 1 bytes) (hz : z.cells = #[z]) (kl kc : IntKind) (n : Nat) (hn : n ≤ 16777216) (w : World) :
    (Instr.makeSlice t (.int kl (n : Int)) (.int kc (n : Int))).run P w = .ok (.slice (some ⟨w.heap.size, 0, none⟩) n n) (w.alloc (.cells (List.replicate n z).toArray e)) := by
  obtain ⟨ht, _, h0, hb, i, hi, hiz, hsz, hby⟩ := hel
  have hbound : (i.bytes : Int) * (n : Int) ≤ 281474976710656 := by
    rw [hby, Int.mul_comm]
    have := Nat.mul_le_mul hn hb
    have h2 : ((n * bytes : Nat) : Int) ≤ 281474976710656 := by omega
    rwa [Int.natCast_mul] at h2
  have hr := run_make w t e i z ht hi hiz kl kc n n (by omega) (by omega) hbound (by omega)
  rw [hr]
  simp only [Int.toNat_natCast, hsz, Nat.mul_one]
  have : madeCells z.cells n = (List.replicate n z).toArray := by
    rw [hz]
    apply Array.ext
    · simp [madeCells]
    · intro j h1 h2
      simp [madeCells, Nat.mod_one]
  rw [this]
/-- an element of an array of integers -/
theorem run_index_arr {P : Program} {t e : TypeId} {n : Nat} {k kk : IntKind} {cs : Array Value} (ht : P.underlying t = some (.array n e)) (he : P.underlying e = some (.int kk)) (hs : (P.info? e).map (·.size) = some 1) (i : Nat) (hi : i < n) {v : Value} (hv : cs[i]? = some v) (w : World) :
    (Instr.index t (.agg cs) (.int k (i : Int))).run P w = .ok v w := by
  have h1 : (0 : Int) ≤ (i : Int) := by omega
  obtain ⟨j, hj, hj1⟩ : ∃ j, P.info? e = some j ∧ j.size = 1 := by
    rcases h : P.info? e with _ | j
    · rw [h] at hs; simp at hs
    · rw [h] at hs; exact ⟨j, rfl, by simpa using hs⟩
  simp [Instr.index, asIntOf, run_underlying ht, run_underlying he, Go.sizeOf, typeInfo, hj, hj1, part, isAgg, hi, hv]
/-- a literal slice is the call's own -/
theorem own_lit (w : World) {base e size n : Nat} {cs : Array Value} {xs : List Value} (hx : cs.toList = xs) (hn : xs.length = n * size) (hm : n ≤ 16777216) (hb : base ≤ w.heap.size) : (w.alloc (.cells cs e)).ownsRow base e size (.slice (some ⟨w.heap.size, 0, none⟩) n n) n xs := by
  subst hx
  refine ⟨hn, .inr ⟨w.heap.size, n, cs, rfl, hb, heap_alloc_new _ _, Nat.le_refl _, max_of (by omega), by simpa using hn, ?_⟩⟩
  rw [← hn]; exact List.take_length
end Lw
