/- tree.Clash: the first texts with one sum. -/
import Derived.Test.YtnlbnadjolfjpaaTri
import Derived.Test.YtnlbnadjolfjpaaBeq
import Derived.Test.YtnlbnadjolfjpaaHelp
namespace Lw
open Go Go.RowKit
/-- which texts are -/
def shpL (L : List (Option (List Int))) : List Bool := L.map Option.isSome
def NeL (L : List (Option (List Int))) : Prop := ∀ b, some b ∈ L → b ≠ [] ∧ b.length ≤ 5000 ∧ Byt b
theorem pairT_ne (a b : Int) : pairT a b ≠ [] ∧ (pairT a b).length ≤ 5000 ∧ Byt (pairT a b) := ⟨by rw [pairT_eq]; simp, by rw [pairT_eq]; simp, pairT_byt a b⟩
theorem lead_shape : ∀ (f n i : Nat) (L M L' M' : List (Option (List Int))) (ps qs ps' qs' : List Int), shpL L = shpL M → leadL f n i L ps = some (L', ps') → leadL f n i M qs = some (M', qs') → shpL L' = shpL M'
  | 0, n, i, L, M, L', M', ps, qs, ps', qs', h, h1, h2 => by
    unfold leadL at h1 h2; injection h1 with h1; injection h2 with h2; injection h1 with h1 _; injection h2 with h2 _; subst h1 h2; exact h
  | f + 1, n, i, L, M, L', M', ps, qs, ps', qs', h, h1, h2 => by
    by_cases hn : n ≤ 1
    · rw [lead_end hn] at h1 h2; injection h1 with h1; injection h2 with h2; injection h1 with h1 _; injection h2 with h2 _; subst h1 h2; exact h
    · by_cases hc : i % 2 = 0 ∧ n ≤ i + 1
      · rw [lead_none hn hc.1 hc.2] at h1 h2
        exact lead_shape f _ _ _ _ _ _ _ _ _ _ (by unfold shpL at *; simp [h]) h1 h2
      · rcases ps with _ | ⟨x, ps⟩
        · rw [lead_out hn hc] at h1; cases h1
        · rcases qs with _ | ⟨y, qs⟩
          · rw [lead_out hn hc] at h2; cases h2
          · rcases Nat.mod_two_eq_zero_or_one i with hi | hi
            · rw [lead_even hn hi (fun h => hc ⟨hi, h⟩)] at h1 h2
              exact lead_shape f _ _ _ _ _ _ _ _ _ _ (by unfold shpL at *; simp [h]) h1 h2
            · rw [lead_odd hn hi] at h1 h2
              exact lead_shape f _ _ _ _ _ _ _ _ _ _ (by unfold shpL at *; simp [h]) h1 h2
theorem lead_ne : ∀ (f n i : Nat) (L L' : List (Option (List Int))) (ps ps' : List Int), NeL L → leadL f n i L ps = some (L', ps') → NeL L'
  | 0, n, i, L, L', ps, ps', h, h1 => by
    unfold leadL at h1; injection h1 with h1; injection h1 with h1 _; subst h1; exact h
  | f + 1, n, i, L, L', ps, ps', h, h1 => by
    by_cases hn : n ≤ 1
    · rw [lead_end hn] at h1; injection h1 with h1; injection h1 with h1 _; subst h1; exact h
    · have ap : ∀ a b, NeL (L ++ [some (pairT a b)]) := fun a b c hc => by
        rcases List.mem_append.1 hc with hc | hc
        · exact h c hc
        · simp at hc; subst hc; exact pairT_ne a b
      by_cases hc : i % 2 = 0 ∧ n ≤ i + 1
      · rw [lead_none hn hc.1 hc.2] at h1
        exact lead_ne f _ _ _ _ _ _ (fun c hc => by rcases List.mem_append.1 hc with hc | hc; exact h c hc; simp at hc) h1
      · rcases ps with _ | ⟨x, ps⟩
        · rw [lead_out hn hc] at h1; cases h1
        · rcases Nat.mod_two_eq_zero_or_one i with hi | hi
          · rw [lead_even hn hi (fun h => hc ⟨hi, h⟩)] at h1
            exact lead_ne f _ _ _ _ _ _ (ap _ _) h1
          · rw [lead_odd hn hi] at h1
            exact lead_ne f _ _ _ _ _ _ (ap _ _) h1
theorem okL_some {r : Option (List (Option (List Int)) × List Int)} {L : List (Option (List Int))} (h : okL r = some L) : r = some (L, []) := by
  unfold okL at h
  split at h
  · injection h with h; subst h; rfl
  · cases h
theorem texts_some {n i : Nat} {leaf ps : List Int} {L : List (Option (List Int))} (h : textsL n i leaf ps = some L) : leadL 64 n i [some (0 :: leaf)] ps = some (L, []) := by
  unfold textsL at h
  split at h
  · cases h
  · exact okL_some h
theorem leaf_ne {leaf : List Int} (hb : Byt leaf) (hl : leaf.length < 4096) : NeL [some (0 :: leaf)] := fun b hb' => by
  have e : b = 0 :: leaf := by simpa using hb'
  subst e
  exact ⟨by simp, by simp only [List.length_cons]; omega, leafT_byt hb⟩
theorem texts_ne {n i : Nat} {leaf ps : List Int} {L : List (Option (List Int))} (hb : Byt leaf) (hl : leaf.length < 4096) (h : textsL n i leaf ps = some L) : NeL L :=
  lead_ne 64 n i _ L ps [] (leaf_ne hb hl) (texts_some h)
theorem texts_shape {n i : Nat} {a b ps qs : List Int} {L M : List (Option (List Int))} (h1 : textsL n i a ps = some L) (h2 : textsL n i b qs = some M) : shpL L = shpL M :=
  lead_shape 64 n i [some (0 :: a)] [some (0 :: b)] L M ps qs [] [] rfl (texts_some h1) (texts_some h2)
/-- two texts at one place with one sum -/
def Eqk (L M : List (Option (List Int))) (k : Nat) : Prop := ∃ x y, L[k]? = some (some x) ∧ M[k]? = some (some y) ∧ hsum x = hsum y
theorem last_some : ∀ (L : List (Option (List Int))), (∀ x ∈ L, x = none) ∨ ∃ k b, L[k]? = some (some b) ∧ nodL L = hsum b ∧ ∀ j, k < j → j < L.length → L[j]? = some none := by
  intro L
  induction h : L.reverse generalizing L with
  | nil => exact .inl (by have : L = [] := by simpa using h
                          subst this; simp)
  | cons x r ih =>
    have e : L = r.reverse ++ [x] := by have := congrArg List.reverse h; simpa using this
    subst e
    rcases x with _ | b
    · rcases ih r.reverse (by simp) with h1 | ⟨k, b, h1, h2, h3⟩
      · exact .inl fun x hx => by rcases List.mem_append.1 hx with hx | hx; exact h1 x hx; simpa using hx
      · have hk : k < r.reverse.length := (List.getElem?_eq_some_iff.1 h1).1
        refine .inr ⟨k, b, by rw [List.getElem?_append_left hk]; exact h1, by rw [nodL_none]; exact h2, fun j hj hjl => ?_⟩
        by_cases hj2 : j < r.reverse.length
        · rw [List.getElem?_append_left hj2]; exact h3 j hj hj2
        · have : j = r.reverse.length := by simp at hjl hj2 ⊢; omega
          subst this
          simp
    · refine .inr ⟨r.reverse.length, b, by simp, nodL_some _ _, fun j hj hjl => by simp at hj hjl; omega⟩
theorem shp_at {L M : List (Option (List Int))} (h : shpL L = shpL M) (k : Nat) : (∃ x, L[k]? = some (some x)) ↔ ∃ y, M[k]? = some (some y) := by
  have e : (shpL L)[k]? = (shpL M)[k]? := by rw [h]
  unfold shpL at e
  rw [List.getElem?_map, List.getElem?_map] at e
  rcases h1 : L[k]? with _ | (_ | x) <;> rcases h2 : M[k]? with _ | (_ | y) <;> rw [h1, h2] at e <;> simp at e ⊢
theorem shp_len {L M : List (Option (List Int))} (h : shpL L = shpL M) : L.length = M.length := by have := congrArg List.length h; simpa [shpL] using this
theorem ex_eqk {L M : List (Option (List Int))} (h : shpL L = shpL M) (hs : ∃ x, some x ∈ L) (hn : nodL L = nodL M) : ∃ k, Eqk L M k := by
  rcases last_some L with h1 | ⟨k, b, h1, h2, h3⟩
  · obtain ⟨x, hx⟩ := hs
    have := h1 _ hx
    cases this
  · rcases last_some M with g1 | ⟨j, c, g1, g2, g3⟩
    · obtain ⟨y, hy⟩ := (shp_at h k).1 ⟨b, h1⟩
      have := g1 _ (List.mem_of_getElem? hy)
      cases this
    · have hk : k < L.length := (List.getElem?_eq_some_iff.1 h1).1
      have hj : j < M.length := (List.getElem?_eq_some_iff.1 g1).1
      have hlen := shp_len h
      have hkj : k = j := by
        rcases Nat.lt_trichotomy k j with hlt | heq | hgt
        · obtain ⟨x, hx⟩ := (shp_at h j).2 ⟨c, g1⟩
          rw [h3 j hlt (by omega)] at hx; cases hx
        · exact heq
        · obtain ⟨y, hy⟩ := (shp_at h k).1 ⟨b, h1⟩
          rw [g3 k hgt (by omega)] at hy; cases hy
      subst hkj
      exact ⟨k, b, c, h1, g1, by rw [← h2, ← g2, hn]⟩
open Classical in
theorem first_eqk {L M : List (Option (List Int))} (h : ∃ k, Eqk L M k) : ∃ k, Eqk L M k ∧ ∀ j, j < k → ¬ Eqk L M j := by
  obtain ⟨k, hk⟩ := h
  induction k using Nat.strongRecOn with
  | ind k ih =>
    by_cases h2 : ∃ j, j < k ∧ Eqk L M j
    · obtain ⟨j, h3, h4⟩ := h2
      exact ih j h3 h4
    · exact ⟨k, hk, fun j hj h3 => h2 ⟨j, hj, h3⟩⟩
theorem lead_head : ∀ (f n i : Nat) (L L' : List (Option (List Int))) (ps ps' : List Int) (b : List Int), some b ∈ L → leadL f n i L ps = some (L', ps') → some b ∈ L'
  | 0, n, i, L, L', ps, ps', b, h, h1 => by
    unfold leadL at h1; injection h1 with h1; injection h1 with h1 _; subst h1; exact h
  | f + 1, n, i, L, L', ps, ps', b, h, h1 => by
    by_cases hn : n ≤ 1
    · rw [lead_end hn] at h1; injection h1 with h1; injection h1 with h1 _; subst h1; exact h
    · by_cases hc : i % 2 = 0 ∧ n ≤ i + 1
      · rw [lead_none hn hc.1 hc.2] at h1
        exact lead_head f _ _ _ _ _ _ b (List.mem_append_left _ h) h1
      · rcases ps with _ | ⟨x, ps⟩
        · rw [lead_out hn hc] at h1; cases h1
        · rcases Nat.mod_two_eq_zero_or_one i with hi | hi
          · rw [lead_even hn hi (fun h => hc ⟨hi, h⟩)] at h1
            exact lead_head f _ _ _ _ _ _ b (List.mem_append_left _ h) h1
          · rw [lead_odd hn hi] at h1
            exact lead_head f _ _ _ _ _ _ b (List.mem_append_left _ h) h1
theorem texts_head {n i : Nat} {leaf ps : List Int} {L : List (Option (List Int))} (h : textsL n i leaf ps = some L) : ∃ x, some x ∈ L := ⟨0 :: leaf, lead_head 64 n i _ L ps [] (0 :: leaf) List.mem_cons_self (texts_some h)⟩
/-- a list of texts: what stands at k -/
theorem TxL.at_ {w : World} {C : Option Addr} {m : Nat} {T : List TRow} {L : List (Option (List Int))} (h : TxL w C m T) (hT : T.map topt = L) {k : Nat} (hk : k < m) :
    ∃ (hl : k < T.length) (ad : Addr), C = some ad ∧ ad.block < w.heap.size ∧ w.cell? (ad.add k) = some (.slice T[k].A T[k].n T[k].c) ∧ TxtOk w T[k] ∧ L[k]? = some (topt T[k]) := by
  obtain ⟨R, O, hlen⟩ := h
  have hl : k < T.length := by omega
  obtain ⟨ad, e, hb, hc⟩ := R.at1 (x := .slice T[k].A T[k].n T[k].c) hk (by rw [List.getElem?_map, List.getElem?_eq_getElem hl]; rfl)
  exact ⟨hl, ad, e, hb, hc, O _ (List.getElem_mem hl), by rw [← hT, List.getElem?_map, List.getElem?_eq_getElem hl]; rfl⟩
theorem TxL.below {w w' : World} {C : Option Addr} {m : Nat} {T : List TRow} (h : TxL w C m T) {B : Nat} (hB : w.heap.size ≤ B) (hb : Below B w w') : TxL w' C m T :=
  ⟨h.1.below hB hb, fun r hr => txtOk_below (h.2.1 r hr) hB hb, h.2.2⟩
end Lw
