/- An argument that is a row of integers, in the words of the walks. -/
import Derived.Test.YtlgegdmnbhoepaaSl
namespace Lw
open Go Go.RowKit
theorem cell_lt {w : World} {p : Addr} {v : Value} (h : w.cell? p = some v) : p.block < w.heap.size := by
  rcases Nat.lt_or_ge p.block w.heap.size with h1 | h1
  · exact h1
  · simp [World.cell?, Array.getElem?_eq_none h1] at h
theorem IsRow.rd {k : IntKind} {w : World} {a : Option Addr} {len cap : Nat} {zs : List Int} (h : IsRow k w a len cap zs) :
    Rd w 1 a len (intsV k (zs.take len)) ∧ len ≤ cap ∧ (zs.take len).length = len ∧ cap ≤ maxLen ∧ ∀ z ∈ zs.take len, (Lit.int k z).wf = true := by
  rcases h with ⟨rfl, rfl, rfl, rfl⟩ | ⟨x, rfl, h1, h2, h3, h4, h5⟩
  · exact ⟨Rd.nil _ _ _, Nat.le_refl _, rfl, by unfold maxLen; omega, by simp⟩
  · have hl : (zs.take len).length = len := by rw [List.length_take]; omega
    refine ⟨⟨by rw [intsV_length, hl]; omega, fun h0 => ⟨x, rfl, ?_, fun j u hu => ?_⟩⟩, h1, hl, h2, fun z hz => h5 z (List.mem_of_mem_take hz)⟩
    · have := cell_lt (h4 0 (by omega))
      rwa [add_block] at this
    · have hj : j < len := by
        have := (List.getElem?_eq_some_iff.1 hu).1
        rwa [intsV_length, hl] at this
      have hj2 : j < zs.length := by omega
      rw [intsV_get (by rw [hl]; exact hj)] at hu
      injection hu with hu
      subst hu
      rw [h4 j hj2]
      simp [List.getElem_take, List.getD_eq_getElem?_getD, hj2]
end Lw
