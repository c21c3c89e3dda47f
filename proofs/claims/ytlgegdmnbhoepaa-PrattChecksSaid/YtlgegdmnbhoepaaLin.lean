/- Lines of a proof of a prime, as they came in; when a line holds, plain. -/
import Derived.Test.YtlgegdmnbhoepaaTab
import Derived.Test.YtlgegdmnbhoepaaOpw
import Derived.Test.YtlgegdmnbhoepaaPow
import Derived.Test.YtlgegdmnbhoepaaApp
import Derived.Test.YtlgegdmnbhoepaaRegS
namespace Lw
open Go Go.RowKit
structure LineT where
  N : Int
  G : Int
  r : TRow
def LineT.cs (x : LineT) : List Value := [.int .i64 x.N, .int .i64 x.G, x.r.v]
def linesV (l : List LineT) : List Value := l.flatMap LineT.cs
theorem linesV_length (l : List LineT) : (linesV l).length = l.length * 3 := by
  induction l with
  | nil => rfl
  | cons x l ih => simp only [linesV, List.flatMap_cons, List.length_append, List.length_cons, LineT.cs, List.length_nil] at *; omega
theorem linesV_get : ∀ {l : List LineT} {i : Nat} (h : i < l.length), (linesV l)[i * 3 + 0]? = some (.int .i64 l[i].N) ∧ (linesV l)[i * 3 + 1]? = some (.int .i64 l[i].G) ∧ (linesV l)[i * 3 + 2]? = some (.slice l[i].r.A l[i].r.n l[i].r.c)
  | x :: l, 0, _ => by simp [linesV, LineT.cs, TRow.v]
  | x :: l, i + 1, h => by
    have ih := linesV_get (l := l) (i := i) (by simpa using h)
    have e : linesV (x :: l) = x.cs ++ linesV l := by simp [linesV]
    have hl : x.cs.length = 3 := rfl
    rw [e, List.getElem?_append_right (by omega), List.getElem?_append_right (by omega), List.getElem?_append_right (by omega), hl]
    simp only [List.getElem_cons_succ]
    rw [show (i + 1) * 3 + 0 - 3 = i * 3 + 0 from by omega, show (i + 1) * 3 + 1 - 3 = i * 3 + 1 from by omega, show (i + 1) * 3 + 2 - 3 = i * 3 + 2 from by omega]
    exact ih
/-- a slice of lines -/
def Lin (w : World) (A : Option Addr) (n : Nat) (l : List LineT) : Prop := Rd w 3 A n (linesV l) ∧ ∀ x ∈ l, RowOk .i64 w x.r ∧ (Lit.int .i64 x.N).wf = true ∧ (Lit.int .i64 x.G).wf = true
theorem Lin.len {w : World} {A : Option Addr} {n : Nat} {l : List LineT} (h : Lin w A n l) : l.length = n := by have := h.1.1; rw [linesV_length] at this; omega
theorem Lin.below {w w' : World} {A : Option Addr} {n : Nat} {l : List LineT} (h : Lin w A n l) {B : Nat} (hB : w.heap.size ≤ B) (hb : Below B w w') : Lin w' A n l :=
  ⟨h.1.below hB hb, fun r hr => ⟨(h.2 r hr).1.below hB hb, (h.2 r hr).2⟩⟩
theorem lin_list {w : World} : ∀ {L : List (List Value)}, (∀ vs ∈ L, All2 [IsI .i64, IsI .i64, IsSb w [IsI .i64]] vs) → ∃ T : List LineT, L = T.map LineT.cs ∧ (∀ x ∈ T, RowOk .i64 w x.r ∧ (Lit.int .i64 x.N).wf = true ∧ (Lit.int .i64 x.G).wf = true) ∧ ∀ x ∈ T, x.r.n ≤ 17592186043904
  | [], _ => ⟨[], rfl, by simp, by simp⟩
  | vs :: L, h => by
    obtain ⟨T, hT, hw, hb⟩ := lin_list (L := L) fun z hz => h z (by simp [hz])
    have h0 := h vs (by simp)
    cases h0 with | cons a h1 => cases h1 with | cons b h2 => cases h2 with | cons c h3 => cases h3 with | nil =>
      obtain ⟨n0, rfl, w0⟩ := a
      obtain ⟨n1, rfl, w1⟩ := b
      obtain ⟨A, l, cp, rfl, hs, hl⟩ := c
      obtain ⟨zs, hz⟩ := row_of hs
      exact ⟨⟨n0, n1, ⟨A, l, cp, zs⟩⟩ :: T, by simp [hT, LineT.cs, TRow.v], by intro t ht; simp at ht; rcases ht with rfl | ht; exact ⟨hz, w0, w1⟩; exact hw t ht, by intro t ht; simp at ht; rcases ht with rfl | ht; exact hl; exact hb t ht⟩
theorem IsSl.lines {w : World} {A : Option Addr} {n c : Nat} (h : IsSl w [IsI .i64, IsI .i64, IsSb w [IsI .i64]] A n c) : ∃ l, Lin w A n l ∧ ∀ x ∈ l, x.r.n ≤ 17592186043904 := by
  obtain ⟨L, _, h2, R⟩ := h.list (by simp)
  obtain ⟨T, hT, hw, hb⟩ := lin_list h2
  refine ⟨T, ⟨?_, hw⟩, hb⟩
  rw [hT] at R
  have : linesV T = (T.map LineT.cs).flatten := by unfold linesV; rw [List.flatMap_def]
  rw [this]; exact R
/-- divided by q as often as may be -/
def strN (q : Int) : Nat → Int → Int
  | 0, x => x
  | f + 1, x => if x % q = 0 then strN q f (x / q) else x
theorem str_half {q x : Int} {k : Nat} (hq : 2 ≤ q) (h0 : 1 ≤ x) (h1 : x < 2 ^ (k + 1)) (hd : x % q = 0) : 1 ≤ x / q ∧ x / q < 2 ^ k ∧ x / q < x := by
  have e := Int.emod_add_mul_ediv x q
  rw [hd, Int.zero_add] at e
  have h2 : 0 ≤ x / q := Int.ediv_nonneg (by omega) (by omega)
  have h3 : x / q ≠ 0 := by intro h; rw [h, Int.mul_zero] at e; omega
  have h4 : 2 * (x / q) ≤ q * (x / q) := Int.mul_le_mul_of_nonneg_right hq h2
  rw [Int.pow_succ] at h1
  omega
theorem strN_stable {q : Int} (hq : 2 ≤ q) : ∀ (k : Nat) (x : Int), 1 ≤ x → x < 2 ^ k → strN q (k + 1) x = strN q k x
  | 0, x, h0, h1 => by have h1 : x < 1 := h1; omega
  | k + 1, x, h0, h1 => by
    show (if x % q = 0 then strN q (k + 1) (x / q) else x) = if x % q = 0 then strN q k (x / q) else x
    split
    · rename_i hd
      obtain ⟨h2, h3, _⟩ := str_half hq h0 h1 hd
      rw [strN_stable hq k _ h2 h3]
    · rfl
def strip (q x : Int) : Int := strN q 21 x
theorem strip_step {q x : Int} (hq : 2 ≤ q) (h0 : 1 ≤ x) (h1 : x < 2097152) (hd : x % q = 0) : strip q x = strip q (x / q) := by
  obtain ⟨h2, h3, _⟩ := str_half (k := 20) hq h0 (by omega) hd
  show (if x % q = 0 then strN q 20 (x / q) else x) = strN q (20 + 1) (x / q)
  rw [if_pos hd, strN_stable hq 20 _ h2 h3]
theorem strip_stop {q x : Int} (hd : ¬ x % q = 0) : strip q x = x := if_neg hd
theorem strN_bd {q : Int} (hq : 2 ≤ q) : ∀ (k : Nat) (x : Int), 1 ≤ x → x < 2 ^ 21 → 1 ≤ strN q k x ∧ strN q k x ≤ x
  | 0, x, h0, _ => ⟨h0, Int.le_refl _⟩
  | k + 1, x, h0, h1 => by
    unfold strN
    split
    · rename_i hd
      obtain ⟨h2, h3, h4⟩ := str_half (k := 20) hq h0 h1 hd
      have := strN_bd hq k (x / q) h2 (by omega)
      omega
    · exact ⟨h0, Int.le_refl _⟩
/-- the N of a line -/
def qAt (Ns : List Int) (k : Int) : Int := Ns.getD k.toNat 0
def okK (Ns : List Int) (N : Int) (i : Nat) (k : Int) : Prop := 0 ≤ k ∧ k < i ∧ (N - 1) % qAt Ns k = 0
def lef (Ns : List Int) (N : Int) (F : List Int) : Nat → Int
  | 0 => N - 1
  | j + 1 => strip (qAt Ns (F.getD j 0)) (lef Ns N F j)
/-- when a line holds -/
def HoldP (Ns : List Int) (i : Nat) (N G : Int) (F : List Int) : Prop :=
  N = 2 ∨ ((3 ≤ N ∧ N ≤ 1048576 ∧ 1 ≤ G ∧ G < N) ∧ pw G (N - 1) N = 1 ∧ (∀ j, j < F.length → okK Ns N i (F.getD j 0)) ∧ lef Ns N F F.length = 1 ∧ ∀ j, j < F.length → ¬ pw G ((N - 1) / qAt Ns (F.getD j 0)) N = 1)
def HdR (Q : Prop) (w : World) (e : Ending) (w' : World) : Prop := (∃ r : Bool, e = .returned (.bool r) ∧ (r = true ↔ Q)) ∧ Below w.heap.size w w'
theorem lef_bd {Ns : List Int} {N : Int} {i : Nat} {F : List Int} (hN : 3 ≤ N) (hN2 : N ≤ 1048576) (hq : ∀ k, k < i → 2 ≤ Ns.getD k 0) : ∀ j, (∀ j', j' < j → okK Ns N i (F.getD j' 0)) → 1 ≤ lef Ns N F j ∧ lef Ns N F j < 1048576
  | 0, _ => by show 1 ≤ N - 1 ∧ N - 1 < 1048576; omega
  | j + 1, h => by
    have h1 := lef_bd hN hN2 hq j fun j' hj => h j' (by omega)
    obtain ⟨k0, k1, _⟩ := h j (by omega)
    have h2 : 2 ≤ qAt Ns (F.getD j 0) := hq _ (by omega)
    have h3 := strN_bd h2 21 (lef Ns N F j) h1.1 (by omega)
    show 1 ≤ strN _ 21 _ ∧ strN _ 21 _ < _
    omega
end Lw
