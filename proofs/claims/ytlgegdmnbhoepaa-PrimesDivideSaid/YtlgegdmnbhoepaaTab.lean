/- A table: a slice of rows of numbers that came in. -/
import Derived.Test.YtlgegdmnbhoepaaOpen
namespace Lw
open Go Go.RowKit
/-- a row: where it lies, how long, its numbers -/
structure TRow where
  A : Option Addr
  n : Nat
  c : Nat
  zs : List Int
def TRow.v (r : TRow) : Value := .slice r.A r.n r.c
def RowOk (k : IntKind) (w : World) (r : TRow) : Prop := Rd w 1 r.A r.n (intsV k r.zs) ∧ r.n ≤ maxLen ∧ ∀ z ∈ r.zs, (Lit.int k z).wf = true
def Tab (k : IntKind) (w : World) (A : Option Addr) (n : Nat) (T : List TRow) : Prop := Rd w 1 A n (T.map TRow.v) ∧ ∀ r ∈ T, RowOk k w r
theorem RowOk.len {k : IntKind} {w : World} {r : TRow} (h : RowOk k w r) : r.zs.length = r.n := by have := h.1.1; simpa [intsV] using this
theorem RowOk.below {k : IntKind} {w w' : World} {r : TRow} (h : RowOk k w r) {B : Nat} (hB : w.heap.size ≤ B) (hb : Below B w w') : RowOk k w' r := ⟨h.1.below hB hb, h.2⟩
theorem Tab.len {k : IntKind} {w : World} {A : Option Addr} {n : Nat} {T : List TRow} (h : Tab k w A n T) : T.length = n := by have := h.1.1; simpa using this
theorem Tab.below {k : IntKind} {w w' : World} {A : Option Addr} {n : Nat} {T : List TRow} (h : Tab k w A n T) {B : Nat} (hB : w.heap.size ≤ B) (hb : Below B w w') : Tab k w' A n T :=
  ⟨h.1.below hB hb, fun r hr => (h.2 r hr).below hB hb⟩
/-- its k-th row, in the walk's words -/
theorem Tab.at_ {kk : IntKind} {w : World} {A : Option Addr} {n k : Nat} {T : List TRow} (h : Tab kk w A n T) (hk : k < n) :
    ∃ (hl : k < T.length) (ad : Addr), A = some ad ∧ ad.block < w.heap.size ∧ w.cell? (ad.add k) = some (.slice T[k].A T[k].n T[k].c) ∧ RowOk kk w T[k] := by
  have hl : k < T.length := by rw [h.len]; exact hk
  obtain ⟨ad, e, hb, hc⟩ := h.1.at1 (x := T[k].v) hk (by simp [hl])
  exact ⟨hl, ad, e, hb, hc, h.2 _ (List.getElem_mem hl)⟩
theorem list1 {k : IntKind} : ∀ {L : List (List Value)}, (∀ vs ∈ L, All2 [IsI k] vs) → ∃ T : List Int, L.flatten = intsV k T ∧ ∀ t ∈ T, (Lit.int k t).wf = true
  | [], _ => ⟨[], rfl, by simp⟩
  | vs :: L, h => by
    obtain ⟨T, hT, hw⟩ := list1 (L := L) fun z hz => h z (by simp [hz])
    have h0 := h vs (by simp)
    cases h0 with | cons a h1 => cases h1 with | nil =>
      obtain ⟨n0, rfl, w0⟩ := a
      exact ⟨n0 :: T, by simp [hT, intsV], by intro t ht; simp at ht; rcases ht with rfl | ht; exact w0; exact hw t ht⟩
theorem row_of {k : IntKind} {w : World} {A : Option Addr} {len cap : Nat} (h : IsSl w [IsI k] A len cap) : ∃ zs, RowOk k w ⟨A, len, cap, zs⟩ := by
  obtain ⟨L, h1, h2, h3⟩ := h.list (by simp)
  obtain ⟨T, hT, hw⟩ := list1 h2
  rw [hT] at h3
  exact ⟨T, h3, by have := h.1; have := h.2.1; show len ≤ maxLen; omega, hw⟩
theorem list_rows {k : IntKind} {w : World} : ∀ {L : List (List Value)}, (∀ vs ∈ L, All2 [IsS w [IsI k]] vs) → ∃ T : List TRow, L.flatten = T.map TRow.v ∧ ∀ t ∈ T, RowOk k w t
  | [], _ => ⟨[], rfl, by simp⟩
  | vs :: L, h => by
    obtain ⟨T, hT, hw⟩ := list_rows (L := L) fun z hz => h z (by simp [hz])
    have h0 := h vs (by simp)
    cases h0 with | cons a h1 => cases h1 with | nil =>
      obtain ⟨A, l, c, rfl, hs⟩ := a
      obtain ⟨zs, hz⟩ := row_of hs
      exact ⟨⟨A, l, c, zs⟩ :: T, by simp [hT, TRow.v], by intro t ht; simp at ht; rcases ht with rfl | ht; exact hz; exact hw t ht⟩
theorem tab_of {k : IntKind} {w : World} {A : Option Addr} {len cap : Nat} (h : IsSl w [IsS w [IsI k]] A len cap) : ∃ T, Tab k w A len T := by
  obtain ⟨L, h1, h2, h3⟩ := h.list (by simp)
  obtain ⟨T, hT, hw⟩ := list_rows h2
  rw [hT] at h3
  exact ⟨T, h3, hw⟩
theorem any_take {α : Type} {p : α → Bool} {T : List α} {k : Nat} (h : k < T.length) (h1 : (T.take k).any p = false) (h2 : p T[k] = false) : (T.take (k + 1)).any p = false := by
  rw [List.take_succ_eq_append_getElem h, List.any_append, h1]; simp [h2]
theorem any_at {α : Type} {p : α → Bool} {T : List α} {k : Nat} (h : k < T.length) (h2 : p T[k] = true) : T.any p = true := List.any_eq_true.2 ⟨_, List.getElem_mem h, h2⟩
end Lw
