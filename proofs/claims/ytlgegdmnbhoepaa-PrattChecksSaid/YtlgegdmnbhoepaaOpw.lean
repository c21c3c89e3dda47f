/- An argument that is a slice of structs with rows in them, and how long those rows are (each read slice takes fewer than 2^47 bytes). -/
import Derived.Test.YtlgegdmnbhoepaaOpen
import Derived.SizedLaws
namespace Lw
open Go Go.RowKit Go.ChangeShapes Go.WideShapes Go.Deep
/-- a row of eight-byte numbers, and how long it may be -/
def IsSb (w : World) (ps : List (Value → Prop)) (v : Value) : Prop := ∃ A len cap, v = .slice A len cap ∧ IsSl w ps A len cap ∧ len ≤ 17592186043904
section
variable {H : Type} {enc : TypeId × Value → H} {P : Program} {w : World} {base : Nat} {spare : Nat → Bool} {held : Bool}
def MeetsW (enc : TypeId × Value → H) (P : Program) (w : World) (base : Nat) (spare : Nat → Bool) (held : Bool) (t : TypeId) (p : Value → Prop) : Prop := ∀ n v y, DataW.trod enc P w base spare held n t [v] = some y → (∀ m ∈ y.1.weights P t, m ≤ reachBytes) → p v
theorem meetsW_of {t : TypeId} {p : Value → Prop} (h : Meets enc P w base spare held t p) : MeetsW enc P w base spare held t p := fun n v y hv _ => h n v y hv
theorem meetsW_row {t e : TypeId} {p : Value → Prop} (ht : P.underlying t = some (.slice e)) (hC : P.cellsOf e = 1) (hb : P.bytesOf e = 8) (hf : Meets enc P w base spare held e p) : MeetsW enc P w base spare held t (IsSb w [p]) := by
  intro n v y hv hw
  rcases open_slice ht hv with ⟨h0, _⟩ | ⟨a, l, c, m, n', D, Pl, hcs, _, hl, _, _, hx, _⟩
  · simp at h0; subst h0; exact ⟨_, _, _, rfl, sl_one ht hC hf hv, by omega⟩
  · simp at hcs; subst hcs
    refine ⟨_, _, _, rfl, sl_one ht hC hf hv, ?_⟩
    subst hx
    have := hw _ (by simp only [DataW.weights, ht]; exact List.mem_cons_self)
    rw [hb, List.length_map, List.length_map, List.length_range] at this
    unfold reachBytes at this
    omega
def FOkW (enc : TypeId × Value → H) (P : Program) (w : World) (base : Nat) (spare : Nat → Bool) (held : Bool) : List Field → List (Value → Prop) → Prop
  | [], [] => True
  | f :: fs, p :: ps => MeetsW enc P w base spare held f.type p ∧ FOkW enc P w base spare held fs ps
  | _, _ => False
theorem fokW_nil : FOkW enc P w base spare held [] [] := trivial
theorem fokW_cons {f : Field} {fs : List Field} {p : Value → Prop} {ps : List (Value → Prop)} (h : MeetsW enc P w base spare held f.type p) (h2 : FOkW enc P w base spare held fs ps) : FOkW enc P w base spare held (f :: fs) (p :: ps) := ⟨h, h2⟩
theorem fokW_len {fs : List Field} {ps : List (Value → Prop)} : FOkW enc P w base spare held fs ps → fs.length = ps.length := by
  induction fs generalizing ps with
  | nil => intro h; cases ps with
    | nil => rfl
    | cons p ps => cases h
  | cons f fs ih => intro h; cases ps with
    | nil => cases h
    | cons p ps => simp [ih h.2]
theorem fokW_all {fs : List Field} {ps : List (Value → Prop)} (hf : FOkW enc P w base spare held fs ps) {vs : List Value} (hl : vs.length = fs.length)
    (h : ∀ (j : Nat) (f : Field), fs[j]? = some f → ∃ (n : Nat) (y : DataW H × List MemPlace) (v : Value), vs[j]? = some v ∧ DataW.trod enc P w base spare held n f.type [v] = some y ∧ ∀ m ∈ y.1.weights P f.type, m ≤ reachBytes) : All2 ps vs := by
  induction fs generalizing ps vs with
  | nil => cases ps with
    | nil => cases vs with
      | nil => exact .nil
      | cons v vs => simp at hl
    | cons p ps => cases hf
  | cons f fs ih => cases ps with
    | nil => cases hf
    | cons p ps => cases vs with
      | nil => simp at hl
      | cons v vs =>
        obtain ⟨n, y, v', hv, ht, hw⟩ := h 0 f rfl
        simp at hv; subst hv
        refine .cons (hf.1 n _ y ht hw) (ih hf.2 (by simpa using hl) fun j f' hj => ?_)
        exact h (j + 1) f' (by simpa using hj)
theorem weightsAll_mem {e : TypeId} {d : DataW H} {m : Nat} (hm : m ∈ d.weights P e) : ∀ {L : List (DataW H)}, d ∈ L → m ∈ DataW.weightsAll P e L
  | x :: L, h => by
    simp only [DataW.weightsAll, List.mem_append]
    rcases List.mem_cons.1 h with rfl | h
    · exact .inl hm
    · exact .inr (weightsAll_mem hm h)
theorem slw_fields {t e : TypeId} {fs : Array Field} {ps : List (Value → Prop)} (ht : P.underlying t = some (.slice e)) (he : P.underlying e = some (.struct fs)) (hone : oneCellFields P fs = true) (hC : P.cellsOf e = fs.size)
    (hf : FOkW enc P w base spare held fs.toList ps) {A : Option Addr} {len cap n : Nat} {y : DataW H × List MemPlace} (h : DataW.trod enc P w base spare held n t [.slice A len cap] = some y) (hw : ∀ m ∈ y.1.weights P t, m ≤ reachBytes) : IsSl w ps A len cap := by
  have hpl : ps.length = fs.size := by rw [← fokW_len hf]; simp
  rcases open_slice ht h with ⟨h0, _⟩ | ⟨a, l, c, m, n', D, Pl, hcs, hb, hl, hm, hmm, hx, hi⟩
  · simp at h0; obtain ⟨rfl, rfl, rfl⟩ := h0
    exact ⟨Nat.le_refl _, by unfold maxLen; omega, .inl ⟨rfl, rfl⟩⟩
  · simp at hcs; obtain ⟨rfl, rfl, rfl⟩ := hcs
    refine ⟨hl, hm, .inr ⟨a, rfl, fun i hil => ?_⟩⟩
    have him : i < m := by rw [hmm]; split <;> omega
    obtain ⟨cs', hc, ht'⟩ := hi i him
    rw [hC] at hc
    have hwD : ∀ m ∈ (D i).weights P e, m ≤ reachBytes := fun m hm => hw m (by
      rw [hx]
      simp only [DataW.weights, ht]
      refine List.mem_cons_of_mem _ (List.mem_append_left _ (weightsAll_mem hm ?_))
      exact List.mem_map.2 ⟨i, List.mem_range.2 hil, rfl⟩)
    obtain ⟨ys, n'', hn', hy, hlen, hyl, hfd⟩ := DataW.trod_struct he ht'
    obtain ⟨_, hcl, hat⟩ := World.cells?_some hc
    have hD : D i = .agg (ys.map (·.1)) := congrArg Prod.fst hy
    refine ⟨cs', fokW_all hf (by simpa using hcl) fun j f hj => ?_, fun j u hu => ?_⟩
    · have hj' : fs[j]? = some f := by simpa using hj
      obtain ⟨ho, hk⟩ := hone_of hone j f hj'
      have hjl : j < fs.size := (Array.getElem?_eq_some_iff.1 hj').1
      have h1 := hfd j f hj'
      rw [ho, hk, take1_drop cs' j undef (by omega)] at h1
      have hys : ys[j]? = some (ys[j]'(by omega)) := List.getElem?_eq_getElem (by omega)
      have e : cs'.getD j undef = cs'[j]'(by omega) := by rw [List.getD_eq_getElem?_getD, List.getElem?_eq_getElem (by omega)]; rfl
      rw [e] at h1
      refine ⟨n'', ys[j]'(by omega), cs'[j]'(by omega), List.getElem?_eq_getElem (by omega), h1.trans hys, fun m hm => hwD m ?_⟩
      rw [hD]
      simp only [DataW.weights, he]
      exact DataW.weights_mem_each (j := j) (t := f.type) (d := (ys[j]'(by omega)).1) (by rw [List.getElem?_map, hj]; rfl) (by rw [List.getElem?_map, hys]; rfl) m hm
    · have hjl : j < fs.size := by have := (List.getElem?_eq_some_iff.1 hu).1; omega
      rw [hpl, ← Go.Deep.add_add, hat j hjl]
      exact hu
end
end Lw
