/- A map of counts: what it says after k numbers; whether a number stands twice (plain). -/
import Derived.Below
import Derived.Maps.OwnOps
import Derived.Maps.OwnSet
import Derived.Maps.Views
namespace Lw
open Go Go.RowKit Go.Maps
/-- are two of the first k the same? -/
def DupP (zs : List Int) (k : Nat) : Prop := ∃ i j, j < i ∧ i < k ∧ zs.getD i 0 = zs.getD j 0
theorem dup_mono {zs : List Int} {k : Nat} (h : DupP zs k) : DupP zs (k + 1) := by
  obtain ⟨i, j, h1, h2, h3⟩ := h
  exact ⟨i, j, h1, by omega, h3⟩
theorem dup_next {zs : List Int} {k : Nat} (h : DupP zs (k + 1)) : DupP zs k ∨ ∃ j, j < k ∧ zs.getD k 0 = zs.getD j 0 := by
  obtain ⟨i, j, h1, h2, h3⟩ := h
  by_cases e : i = k
  · subst e; exact .inr ⟨j, h1, h3⟩
  · exact .inl ⟨i, j, h1, by omega, h3⟩
/-- what a map of counts says after k numbers -/
def CntR (zs : List Int) (k : Nat) (D : DataW Unit) : Prop := (∀ z : Int, Maps.has D (.int .i64 z) = true ↔ ∃ j, j < k ∧ zs.getD j 0 = z) ∧ ((Maps.size D = k ∧ ¬ DupP zs k) ∨ (Maps.size D < k ∧ DupP zs k))
theorem cnt_zero (zs : List Int) : CntR zs 0 (.map []) := ⟨fun z => ⟨fun h => (by cases h), fun ⟨j, h, _⟩ => (by omega)⟩, .inl ⟨rfl, fun ⟨i, j, h1, h2, _⟩ => (by omega)⟩⟩
theorem cnt_next {zs : List Int} {k : Nat} {D : DataW Unit} (hD : Maps.Tidy D) (hM : Maps.IsMap D) (h : CntR zs k D) {z : Int} (hz : zs.getD k 0 = z) (hk : WideAt.IsKeyLit (.int .i64 z)) (d : DataW Unit) : CntR zs (k + 1) (D.put (.int .i64 z) d) := by
  obtain ⟨h1, h2⟩ := h
  refine ⟨fun y => ?_, ?_⟩
  · by_cases e : y = z
    · subst e
      rw [Maps.has_put_same hM hk d]
      exact ⟨fun _ => ⟨k, by omega, hz⟩, fun _ => rfl⟩
    · rw [Maps.has_put_other (by intro h; injection h with _ h; exact e h) d, h1 y]
      refine ⟨fun ⟨j, hj, hy⟩ => ⟨j, (by omega), hy⟩, fun ⟨j, hj, hy⟩ => ⟨j, ?_, hy⟩⟩
      rcases Nat.lt_or_ge j k with h | h
      · exact h
      · have hjk : j = k := by omega
        subst hjk
        exact absurd (hy.symm.trans hz) e
  · rw [Maps.size_put hD d]
    by_cases e : Maps.has D (.int .i64 z) = true
    · rw [if_pos e]
      obtain ⟨j, hj, hy⟩ := (h1 z).1 e
      refine .inr ⟨by rcases h2 with h | h <;> omega, k, j, hj, by omega, hz.trans hy.symm⟩
    · rw [if_neg e]
      rcases h2 with ⟨h3, h4⟩ | ⟨h3, h4⟩
      · refine .inl ⟨by omega, fun hd => ?_⟩
        rcases dup_next hd with h5 | ⟨j, hj, hy⟩
        · exact h4 h5
        · exact e ((h1 z).2 ⟨j, hj, hy.symm.trans hz⟩)
      · exact .inr ⟨by omega, dup_mono h4⟩
theorem cnt_end {zs : List Int} {n : Nat} {D : DataW Unit} (h : CntR zs n D) : (Maps.size D < n ↔ DupP zs n) ∧ Maps.size D ≤ n := by
  rcases h.2 with ⟨h1, h2⟩ | ⟨h1, h2⟩
  · exact ⟨⟨fun h => by omega, fun h => absurd h h2⟩, by omega⟩
  · exact ⟨⟨fun _ => h2, fun _ => h1⟩, by omega⟩
end Lw
