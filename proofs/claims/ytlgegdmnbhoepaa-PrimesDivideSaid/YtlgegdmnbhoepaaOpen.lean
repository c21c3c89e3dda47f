/- An argument that is a slice (of numbers, of truths, of structs of such, of slices): what its memory holds, in one predicate. -/
import Derived.Test.YtlgegdmnbhoepaaRow
import Derived.Deep.Slices
import Derived.Deep.Fields
import Derived.ChangeSame
import Derived.ChangeShapes
namespace Lw
open Go Go.RowKit Go.ChangeShapes Go.WideShapes Go.Deep
/-- each cell meets its predicate -/
inductive All2 : List (Value → Prop) → List Value → Prop
  | nil : All2 [] []
  | cons {p : Value → Prop} {v : Value} {ps : List (Value → Prop)} {vs : List Value} : p v → All2 ps vs → All2 (p :: ps) (v :: vs)
theorem All2.length_eq {ps : List (Value → Prop)} {vs : List Value} (h : All2 ps vs) : ps.length = vs.length := by
  induction h with
  | nil => rfl
  | cons _ _ ih => simp [ih]
/-- a number of a kind; a truth -/
def IsI (k : IntKind) (v : Value) : Prop := ∃ n, v = .int k n ∧ (Lit.int k n).wf = true
def IsB (v : Value) : Prop := ∃ b, v = .bool b
/-- a slice whose elements are cells that meet ps, one by one -/
def IsSl (w : World) (ps : List (Value → Prop)) (A : Option Addr) (len cap : Nat) : Prop :=
  len ≤ cap ∧ cap ≤ maxLen ∧ ((A = none ∧ len = 0) ∨ ∃ x, A = some x ∧ ∀ i, i < len → ∃ vs : List Value, All2 ps vs ∧ ∀ j u, vs[j]? = some u → w.cell? (x.add (i * ps.length + j)) = some u)
/-- a value that is such a slice -/
def IsS (w : World) (ps : List (Value → Prop)) (v : Value) : Prop := ∃ A len cap, v = .slice A len cap ∧ IsSl w ps A len cap
section
variable {H : Type} {enc : TypeId × Value → H} {P : Program} {w : World} {base : Nat} {spare : Nat → Bool} {held : Bool}
/-- whatever reads at type t meets p -/
def Meets (enc : TypeId × Value → H) (P : Program) (w : World) (base : Nat) (spare : Nat → Bool) (held : Bool) (t : TypeId) (p : Value → Prop) : Prop := ∀ n v y, DataW.trod enc P w base spare held n t [v] = some y → p v
theorem meets_int {t : TypeId} {k : IntKind} (h : P.underlying t = some (.int k)) : Meets enc P w base spare held t (IsI k) := by
  intro n v y hv
  obtain ⟨m, e, _, wf⟩ := DataW.trod_int h hv
  simp at e
  exact ⟨m, e, wf⟩
theorem meets_bool {t : TypeId} (h : P.underlying t = some .bool) : Meets enc P w base spare held t IsB := by
  intro n v y hv
  obtain ⟨m, e, _⟩ := DataW.trod_bool h hv
  simp at e
  exact ⟨m, e⟩
def FOk (enc : TypeId × Value → H) (P : Program) (w : World) (base : Nat) (spare : Nat → Bool) (held : Bool) : List Field → List (Value → Prop) → Prop
  | [], [] => True
  | f :: fs, p :: ps => Meets enc P w base spare held f.type p ∧ FOk enc P w base spare held fs ps
  | _, _ => False
theorem fok_nil : FOk enc P w base spare held [] [] := trivial
theorem fok_cons {f : Field} {fs : List Field} {p : Value → Prop} {ps : List (Value → Prop)} (h : Meets enc P w base spare held f.type p) (h2 : FOk enc P w base spare held fs ps) : FOk enc P w base spare held (f :: fs) (p :: ps) := ⟨h, h2⟩
theorem fok_len {fs : List Field} {ps : List (Value → Prop)} : FOk enc P w base spare held fs ps → fs.length = ps.length := by
  induction fs generalizing ps with
  | nil => intro h; cases ps with
    | nil => rfl
    | cons p ps => cases h
  | cons f fs ih => intro h; cases ps with
    | nil => cases h
    | cons p ps => simp [ih h.2]
theorem fok_all {fs : List Field} {ps : List (Value → Prop)} (hf : FOk enc P w base spare held fs ps) {vs : List Value} (hl : vs.length = fs.length)
    (h : ∀ (j : Nat) (f : Field), fs[j]? = some f → ∃ (n : Nat) (y : DataW H × List MemPlace) (v : Value), vs[j]? = some v ∧ DataW.trod enc P w base spare held n f.type [v] = some y) : All2 ps vs := by
  induction fs generalizing ps vs with
  | nil => cases ps with
    | nil => cases vs with
      | nil => exact .nil
      | cons v vs => simp at hl
    | cons p ps => cases hf
  | cons f fs ih => cases ps with
    | nil => cases hf
    | cons p ps => cases vs with
      | nil => simp at hl
      | cons v vs =>
        obtain ⟨n, y, v', hv, ht⟩ := h 0 f rfl
        simp at hv; subst hv
        refine .cons (hf.1 n _ y ht) (ih hf.2 (by simpa using hl) fun j f' hj => ?_)
        exact h (j + 1) f' (by simpa using hj)
theorem sl_fields {t e : TypeId} {fs : Array Field} {ps : List (Value → Prop)} (ht : P.underlying t = some (.slice e)) (he : P.underlying e = some (.struct fs)) (hone : oneCellFields P fs = true) (hC : P.cellsOf e = fs.size)
    (hf : FOk enc P w base spare held fs.toList ps) {A : Option Addr} {len cap n : Nat} {y : DataW H × List MemPlace} (h : DataW.trod enc P w base spare held n t [.slice A len cap] = some y) : IsSl w ps A len cap := by
  have hpl : ps.length = fs.size := by rw [← fok_len hf]; simp
  rcases open_slice ht h with ⟨h0, _⟩ | ⟨a, l, c, m, n', D, Pl, hcs, hb, hl, hm, hmm, hx, hi⟩
  · simp at h0; obtain ⟨rfl, rfl, rfl⟩ := h0
    exact ⟨Nat.le_refl _, by unfold maxLen; omega, .inl ⟨rfl, rfl⟩⟩
  · simp at hcs; obtain ⟨rfl, rfl, rfl⟩ := hcs
    refine ⟨hl, hm, .inr ⟨a, rfl, fun i hil => ?_⟩⟩
    have him : i < m := by rw [hmm]; split <;> omega
    obtain ⟨cs', hc, ht'⟩ := hi i him
    rw [hC] at hc
    obtain ⟨ys, n'', hn', hy, hlen, hyl, hfd⟩ := DataW.trod_struct he ht'
    obtain ⟨_, hcl, hat⟩ := World.cells?_some hc
    refine ⟨cs', fok_all hf (by simpa using hcl) fun j f hj => ?_, fun j u hu => ?_⟩
    · have hj' : fs[j]? = some f := by simpa using hj
      obtain ⟨ho, hk⟩ := hone_of hone j f hj'
      have hjl : j < fs.size := (Array.getElem?_eq_some_iff.1 hj').1
      have h1 := hfd j f hj'
      rw [ho, hk, take1_drop cs' j undef (by omega)] at h1
      have hys : ys[j]? = some (ys[j]'(by omega)) := List.getElem?_eq_getElem (by omega)
      have e : cs'.getD j undef = cs'[j]'(by omega) := by rw [List.getD_eq_getElem?_getD, List.getElem?_eq_getElem (by omega)]; rfl
      rw [e] at h1
      exact ⟨n'', ys[j]'(by omega), cs'[j]'(by omega), List.getElem?_eq_getElem (by omega), h1.trans hys⟩
    · have hjl : j < fs.size := by have := (List.getElem?_eq_some_iff.1 hu).1; omega
      rw [hpl, ← Go.Deep.add_add, hat j hjl]
      exact hu
theorem sl_one {t e : TypeId} {p : Value → Prop} (ht : P.underlying t = some (.slice e)) (hC : P.cellsOf e = 1) (hf : Meets enc P w base spare held e p) {A : Option Addr} {len cap n : Nat} {y : DataW H × List MemPlace}
    (h : DataW.trod enc P w base spare held n t [.slice A len cap] = some y) : IsSl w [p] A len cap := by
  rcases open_slice1 ht hC h with ⟨h0, _⟩ | ⟨a, l, c, m, n', V, D, Pl, hcs, hb, hl, hm, hmm, hx, hi⟩
  · simp at h0; obtain ⟨rfl, rfl, rfl⟩ := h0
    exact ⟨Nat.le_refl _, by unfold maxLen; omega, .inl ⟨rfl, rfl⟩⟩
  · simp at hcs; obtain ⟨rfl, rfl, rfl⟩ := hcs
    refine ⟨hl, hm, .inr ⟨a, rfl, fun i hil => ?_⟩⟩
    have him : i < m := by rw [hmm]; split <;> omega
    obtain ⟨hc, ht'⟩ := hi i him
    refine ⟨[V i], .cons (hf _ _ _ ht') .nil, fun j u hu => ?_⟩
    match j, hu with
    | 0, hu => simp at hu; subst hu; simpa using hc
theorem meets_slice {t e : TypeId} {ps : List (Value → Prop)} (ht : P.underlying t = some (.slice e)) (hf : ∀ (A : Option Addr) (len cap n : Nat) (y : DataW H × List MemPlace), DataW.trod enc P w base spare held n t [.slice A len cap] = some y → IsSl w ps A len cap) : Meets enc P w base spare held t (IsS w ps) := by
  intro n v y hv
  rcases open_slice ht hv with ⟨h0, _⟩ | ⟨a, l, c, m, n', D, Pl, hcs, _⟩
  · simp at h0; subst h0; exact ⟨_, _, _, rfl, hf _ _ _ _ _ hv⟩
  · simp at hcs; subst hcs; exact ⟨_, _, _, rfl, hf _ _ _ _ _ hv⟩
end
/-- the elements, as a list of rows of cells -/
theorem IsSl.list {w : World} {ps : List (Value → Prop)} {A : Option Addr} {len cap : Nat} (h : IsSl w ps A len cap) (h0 : 0 < ps.length) :
    ∃ L : List (List Value), L.length = len ∧ (∀ vs ∈ L, All2 ps vs) ∧ Rd w ps.length A len L.flatten := by
  obtain ⟨hl, hm, h⟩ := h
  rcases h with ⟨rfl, rfl⟩ | ⟨x, rfl, hi⟩
  · exact ⟨[], rfl, by simp, Rd.nil _ _ _⟩
  · have key : ∀ n, n ≤ len → ∃ L : List (List Value), L.length = n ∧ (∀ vs ∈ L, All2 ps vs) ∧ L.flatten.length = n * ps.length ∧ ∀ j u, L.flatten[j]? = some u → w.cell? (x.add j) = some u := by
      intro n
      induction n with
      | zero => intro _; exact ⟨[], rfl, by simp, by simp, by simp⟩
      | succ n ih =>
        intro hn
        obtain ⟨L, h1, h2, h3, h4⟩ := ih (by omega)
        obtain ⟨vs, hv, hc⟩ := hi n (by omega)
        have hvl : ps.length = vs.length := hv.length_eq
        refine ⟨L ++ [vs], by simp [h1], fun z hz => ?_, ?_, fun j u hu => ?_⟩
        · rcases List.mem_append.1 hz with hz | hz
          · exact h2 z hz
          · simp at hz; subst hz; exact hv
        · simp only [List.flatten_append, List.length_append, h3, List.flatten_cons, List.flatten_nil, List.append_nil, ← hvl, Nat.succ_mul]
        · simp only [List.flatten_append, List.flatten_cons, List.flatten_nil, List.append_nil] at hu
          by_cases hj : j < n * ps.length
          · rw [List.getElem?_append_left (by omega)] at hu; exact h4 j u hu
          · rw [List.getElem?_append_right (by omega), h3] at hu
            have := hc _ u hu
            rwa [show n * ps.length + (j - n * ps.length) = j by omega] at this
    obtain ⟨L, h1, h2, h3, h4⟩ := key len (Nat.le_refl _)
    refine ⟨L, h1, h2, h3, fun hp => ⟨x, rfl, ?_, h4⟩⟩
    have : 0 < L.flatten.length := by rw [h3]; exact Nat.mul_pos hp h0
    have := cell_lt (h4 0 _ (List.getElem?_eq_getElem this))
    rwa [add_block] at this
/-- rows of three numbers -/
theorem list3 {k0 k1 k2 : IntKind} : ∀ {L : List (List Value)}, (∀ vs ∈ L, All2 [IsI k0, IsI k1, IsI k2] vs) → ∃ T : List (Int × Int × Int), L = T.map (fun t => [.int k0 t.1, .int k1 t.2.1, .int k2 t.2.2]) ∧ ∀ t ∈ T, (Lit.int k0 t.1).wf = true ∧ (Lit.int k1 t.2.1).wf = true ∧ (Lit.int k2 t.2.2).wf = true
  | [], _ => ⟨[], rfl, by simp⟩
  | vs :: L, h => by
    obtain ⟨T, hT, hw⟩ := list3 (L := L) fun z hz => h z (by simp [hz])
    have h0 := h vs (by simp)
    cases h0 with | cons a h1 => cases h1 with | cons b h2 => cases h2 with | cons c h3 => cases h3 with | nil =>
      obtain ⟨n0, rfl, w0⟩ := a
      obtain ⟨n1, rfl, w1⟩ := b
      obtain ⟨n2, rfl, w2⟩ := c
      exact ⟨(n0, n1, n2) :: T, by simp [hT], by intro t ht; simp at ht; rcases ht with rfl | ht; exact ⟨w0, w1, w2⟩; exact hw t ht⟩
/-- rows of two numbers -/
theorem list2 {k0 k1 : IntKind} : ∀ {L : List (List Value)}, (∀ vs ∈ L, All2 [IsI k0, IsI k1] vs) → ∃ T : List (Int × Int), L = T.map (fun t => [.int k0 t.1, .int k1 t.2]) ∧ ∀ t ∈ T, (Lit.int k0 t.1).wf = true ∧ (Lit.int k1 t.2).wf = true
  | [], _ => ⟨[], rfl, by simp⟩
  | vs :: L, h => by
    obtain ⟨T, hT, hw⟩ := list2 (L := L) fun z hz => h z (by simp [hz])
    have h0 := h vs (by simp)
    cases h0 with | cons a h1 => cases h1 with | cons b h2 => cases h2 with | nil =>
      obtain ⟨n0, rfl, w0⟩ := a
      obtain ⟨n1, rfl, w1⟩ := b
      exact ⟨(n0, n1) :: T, by simp [hT], by intro t ht; simp at ht; rcases ht with rfl | ht; exact ⟨w0, w1⟩; exact hw t ht⟩
end Lw
