/- Slices: a slice that reads as a list of cells; a slice that a call has made; the appends. -/
import Derived.Test.YtlgegdmnbhoepaaWk
import Derived.OneCell
import Derived.Laws.OwnMore
import Derived.Maps.AppendAt
set_option linter.unusedVariables false
set_option linter.unusedSimpArgs false
namespace Lw
open Go Go.RowKit
/-- the n elements of a slice, of sz cells each, are the cells xs -/
def Rd (w : World) (sz : Nat) (A : Option Addr) (n : Nat) (xs : List Value) : Prop :=
  xs.length = n * sz ∧ (0 < n → ∃ ad, A = some ad ∧ ad.block < w.heap.size ∧ ∀ j u, xs[j]? = some u → w.cell? (ad.add j) = some u)
theorem belowDrewN {B : Nat} {a w : World} (h : Below B a w) (n : Nat) : Below B a (w.drewN n) := ⟨h.os, h.tape, h.output, h.size, h.block⟩
theorem balloc {w W : World} (h : Below w.heap.size w W) (o : Obj) : Below w.heap.size w (W.alloc o) := h.alloc h.size o
theorem bset {w W : World} {p : Addr} (h : Below w.heap.size w W) (hp : w.heap.size ≤ p.block) (v : Value) : Below w.heap.size w (W.setCell p v) := h.setCell hp v
theorem bdrewN {w W : World} (h : Below w.heap.size w W) (n : Nat) : Below w.heap.size w (W.drewN n) := belowDrewN h n
theorem add_block (a : Addr) (n : Nat) : (a.add n).block = a.block := by unfold Addr.add; split <;> rfl
theorem add_add (a : Addr) (i j : Nat) : (a.add i).add j = a.add (i + j) := by
  unfold Addr.add
  by_cases hi : i = 0 <;> by_cases hj : j = 0 <;> simp [hi, hj, Nat.add_assoc]
theorem Rd.nil (w : World) (sz : Nat) (A : Option Addr) : Rd w sz A 0 [] := ⟨by simp, fun h => absurd h (by omega)⟩
theorem Rd.below {w w' : World} {sz n : Nat} {A : Option Addr} {xs : List Value} (h : Rd w sz A n xs) {B : Nat} (hB : w.heap.size ≤ B) (hb : Below B w w') : Rd w' sz A n xs :=
  ⟨h.1, fun hn => by
    obtain ⟨ad, e, hlt, hc⟩ := h.2 hn
    exact ⟨ad, e, by have := hb.size; omega, fun j u hu => (hb.cell (p := ad.add j) (by rw [add_block]; omega)).trans (hc j u hu)⟩⟩
theorem Rd.alloc {w : World} {sz n : Nat} {A : Option Addr} {xs : List Value} (h : Rd w sz A n xs) (o : Obj) : Rd (w.alloc o) sz A n xs :=
  h.below (Nat.le_refl _) ((Below.refl _ _).alloc (Nat.le_refl _) o)
theorem Rd.drewN {w : World} {sz n : Nat} {A : Option Addr} {xs : List Value} (h : Rd w sz A n xs) (k : Nat) : Rd (w.drewN k) sz A n xs := h
/-- the slice value, its cells, in the walk's words -/
theorem Rd.at_ {w : World} {sz n k : Nat} {A : Option Addr} {xs : List Value} (h : Rd w sz A n xs) (hk : k < n) :
    ∃ ad, A = some ad ∧ ad.block < w.heap.size ∧ ∀ j u, xs[k * sz + j]? = some u → w.cell? ((ad.add (k * sz)).add j) = some u := by
  obtain ⟨ad, e, hlt, hc⟩ := h.2 (by omega)
  exact ⟨ad, e, hlt, fun j u hu => by rw [add_add]; exact hc _ _ hu⟩
theorem add_zero' (a : Addr) : a.add 0 = a := rfl
theorem add_succ' (a : Addr) (j : Nat) : a.add (j + 1) = ⟨a.block, a.off + (j + 1), none⟩ := by unfold Addr.add; simp
/-- elements of one cell -/
theorem Rd.at1 {w : World} {n k : Nat} {A : Option Addr} {xs : List Value} {x : Value} (h : Rd w 1 A n xs) (hk : k < n) (h0 : xs[k]? = some x) :
    ∃ ad, A = some ad ∧ ad.block < w.heap.size ∧ w.cell? (ad.add k) = some x := by
  obtain ⟨ad, e, hb, hc⟩ := h.2 (by omega)
  exact ⟨ad, e, hb, hc _ _ h0⟩
/-- elements of two cells, as the walk spells their addresses -/
theorem Rd.at2 {w : World} {n k : Nat} {A : Option Addr} {xs : List Value} {x y : Value} (h : Rd w 2 A n xs) (hk : k < n) (h0 : xs[k * 2 + 0]? = some x) (h1 : xs[k * 2 + 1]? = some y) :
    ∃ ad, A = some ad ∧ ad.block < w.heap.size ∧ w.cell? (ad.add (k * 2)) = some x ∧ w.cell? ⟨(ad.add (k * 2)).block, (ad.add (k * 2)).off + 1, none⟩ = some y := by
  obtain ⟨ad, e, hb, hc⟩ := h.at_ hk
  refine ⟨ad, e, hb, ?_, ?_⟩
  · have := hc 0 _ h0; rwa [add_zero'] at this
  · have := hc 1 _ h1; rwa [add_succ'] at this
theorem Rd.of_own {w : World} {base sz n c : Nat} {A : Option Addr} {e : TypeId} {xs : List Value} (h : w.ownsRow base e sz (.slice A n c) n xs) : Rd w sz A n xs := by
  refine ⟨h.1, fun hn => ?_⟩
  rcases h.2 with ⟨_, h0⟩ | ⟨g, cap, cur, hv, hb, hh, _⟩
  · omega
  · have hA : A = some ⟨g, 0, none⟩ := by injection hv
    subst hA
    exact ⟨_, rfl, (Array.getElem?_eq_some_iff.1 hh).1, h.cells (g := g) rfl⟩
/-- four cells of a block of the call's own are kept over a call that makes memory -/
theorem gs_keep {w w1 w2 : World} {b : Nat} {x0 x1 x2 x3 : Value} (h0 : w1.cell? ⟨b, 0, none⟩ = some x0) (h1 : w1.cell? ⟨b, 1, none⟩ = some x1) (h2 : w1.cell? ⟨b, 2, none⟩ = some x2) (h3 : w1.cell? ⟨b, 3, none⟩ = some x3) (hl : b < w1.heap.size) (hB : Below w.heap.size w w1) (hb : Below w1.heap.size w1 w2) :
    w2.cell? ⟨b, 0, none⟩ = some x0 ∧ w2.cell? ⟨b, 1, none⟩ = some x1 ∧ w2.cell? ⟨b, 2, none⟩ = some x2 ∧ w2.cell? ⟨b, 3, none⟩ = some x3 ∧ b < w2.heap.size ∧ Below w.heap.size w w2 :=
  ⟨(hb.cell (p := ⟨b, 0, none⟩) hl).trans h0, (hb.cell (p := ⟨b, 1, none⟩) hl).trans h1, (hb.cell (p := ⟨b, 2, none⟩) hl).trans h2, (hb.cell (p := ⟨b, 3, none⟩) hl).trans h3, by have := hb.size; omega, bt hB hb⟩
/-- a slice of a block that is known whole -/
theorem Rd.lit {w : World} {b n sz : Nat} {cs : Array Value} {t : TypeId} {xs : List Value} (h : w.heap[b]? = some (.cells cs t (0, 0))) (hx : cs.toList = xs) (hl : xs.length = n * sz) : Rd w sz (some ⟨b, 0, none⟩) n xs :=
  ⟨hl, fun _ => ⟨_, rfl, (Array.getElem?_eq_some_iff.1 h).1, fun j u hu => by
    have e : (⟨b, 0, none⟩ : Addr).add j = ⟨b, j, none⟩ := by unfold Addr.add; split <;> simp_all
    rw [e, cell_of_row _ _ _ cs t (0, 0) h, ← Array.getElem?_toList, hx]; exact hu⟩⟩
theorem ownsForm {w : World} {base sz n : Nat} {v : Value} {e : TypeId} {xs : List Value} (h : w.ownsRow base e sz v n xs) : ∃ A c, v = .slice A n c ∧ n ≤ c ∧ c ≤ maxLen ∧ (A = none ∨ ∃ g, A = some ⟨g, 0, none⟩ ∧ base ≤ g ∧ g < w.heap.size) := by
  rcases h.2 with ⟨rfl, rfl⟩ | ⟨g, cap, cur, rfl, hb, hh, hc, hm, _⟩
  · exact ⟨none, 0, rfl, Nat.le_refl _, by unfold maxLen; omega, .inl rfl⟩
  · exact ⟨_, cap, rfl, hc, hm, .inr ⟨g, rfl, hb, (Array.getElem?_eq_some_iff.1 hh).1⟩⟩
theorem ownsBelow {w w' : World} {base B sz n : Nat} {v : Value} {e : TypeId} {xs : List Value} (h : w.ownsRow base e sz v n xs) (hB : w.heap.size ≤ B) (hb : Below B w w') : w'.ownsRow base e sz v n xs := by
  refine ⟨h.1, ?_⟩
  rcases h.2 with hn | ⟨g, cap, cur, rfl, hg, hh, rest⟩
  · exact .inl hn
  · have hlt := (Array.getElem?_eq_some_iff.1 hh).1
    exact .inr ⟨g, cap, cur, rfl, hg, (hb.block g (by omega)).trans hh, rest⟩
theorem ownsBase {w : World} {base base' sz n : Nat} {v : Value} {e : TypeId} {xs : List Value} (h : w.ownsRow base e sz v n xs) (hb : base' ≤ base) : w.ownsRow base' e sz v n xs := by
  refine ⟨h.1, ?_⟩
  rcases h.2 with hn | ⟨g, cap, cur, rfl, hg, rest⟩
  · exact .inl hn
  · exact .inr ⟨g, cap, cur, rfl, by omega, rest⟩
/-- what a call hands back that has made a slice -/
def OwnRes (T sz : Nat) (xs : List Value) (n : Nat) (w : World) (e : Ending) (w' : World) : Prop :=
  ∃ A c, e = .returned (.slice A n c) ∧ w'.ownsRow w.heap.size T sz (.slice A n c) n xs ∧ Below w.heap.size w w'
/-- behind an append onto a row of the call's own -/
theorem grown_own {w0 w w' : World} {base sz n : Nat} {v : Value} {e : TypeId} {xs : List Value} (hB : Below w0.heap.size w0 w) (h : w.ownsRow base e sz v n xs) (hb : w0.heap.size ≤ base) (hg : w.grownBy w' v.ownBlock) : Below w0.heap.size w0 w' :=
  hB.grown hg hB.size (fun k hk => by have := (h.lt k hk).1; omega)
theorem cells_new (w : World) (cs : Array Value) (t : TypeId) : ∀ j u, cs.toList[j]? = some u → (w.alloc (.cells cs t)).cell? ((⟨w.heap.size, 0, none⟩ : Addr).add j) = some u := by
  intro j u hu
  have e : (⟨w.heap.size, 0, none⟩ : Addr).add j = ⟨w.heap.size, j, none⟩ := by unfold Addr.add; split <;> simp_all
  rw [e, cell_of_row _ _ _ cs t (0, 0) (heap_alloc_new w _)]
  simpa using hu
/-- integers as cells -/
def intsV (k : IntKind) (zs : List Int) : List Value := zs.map (.int k)
theorem intsV_length (k : IntKind) (zs : List Int) : (intsV k zs).length = zs.length := by simp [intsV]
theorem intsV_get {k : IntKind} {zs : List Int} {i : Nat} (h : i < zs.length) : (intsV k zs)[i]? = some (.int k zs[i]) := by simp [intsV, h]
theorem intsV_one (k : IntKind) (zs : List Int) : ∀ u ∈ intsV k zs, u.oneCell' = true := by
  intro u hu; obtain ⟨x, _, rfl⟩ := List.mem_map.1 hu; rfl
theorem one1 (k : IntKind) (a : Int) : ∀ u ∈ [Value.int k a], u.oneCell' = true := by intro u hu; simp at hu; subst hu; rfl
theorem one2 (k l : IntKind) (a b : Int) : ∀ u ∈ [Value.int k a, Value.int l b], u.oneCell' = true := by intro u hu; simp at hu; rcases hu with rfl | rfl <;> rfl
theorem max_of {n : Nat} (h : n ≤ 140737488355328) : n ≤ maxLen := by unfold maxLen; omega
theorem grow_ok {w0 w : World} (hB : Below w0.heap.size w0 w) (o : Obj) : w0.heap.size ≤ (w.alloc o).heap.size := by have := hB.size; simp; omega
/-- pairs of integers as cells: structs of two integer fields -/
def pairsV (k l : IntKind) (zs : List (Int × Int)) : List Value := zs.flatMap fun x => [.int k x.1, .int l x.2]
theorem pairsV_length (k l : IntKind) (zs : List (Int × Int)) : (pairsV k l zs).length = zs.length * 2 := by
  induction zs with
  | nil => rfl
  | cons x zs ih => simp only [pairsV, List.flatMap_cons, List.length_append, List.length_cons, List.length_nil] at *; omega
theorem pairsV_append (k l : IntKind) (a b : List (Int × Int)) : pairsV k l (a ++ b) = pairsV k l a ++ pairsV k l b := by simp [pairsV]
theorem pairsV_get {k l : IntKind} : ∀ {zs : List (Int × Int)} {i : Nat} (h : i < zs.length), (pairsV k l zs)[i * 2 + 0]? = some (.int k zs[i].1) ∧ (pairsV k l zs)[i * 2 + 1]? = some (.int l zs[i].2)
  | x :: zs, 0, _ => by simp [pairsV]
  | x :: zs, i + 1, h => by
    have ih := pairsV_get (k := k) (l := l) (zs := zs) (i := i) (by simpa using h)
    have e : pairsV k l (x :: zs) = [.int k x.1, .int l x.2] ++ pairsV k l zs := by simp [pairsV]
    rw [e, List.getElem?_append_right (by simp; omega), List.getElem?_append_right (by simp; omega)]
    simp only [List.length_cons, List.length_nil, List.getElem_cons_succ]
    rw [show (i + 1) * 2 + 0 - (0 + 1 + 1) = i * 2 + 0 from by omega, show (i + 1) * 2 + 1 - (0 + 1 + 1) = i * 2 + 1 from by omega]
    exact ih
/-- elements of three cells -/
theorem Rd.at3 {w : World} {n k : Nat} {A : Option Addr} {xs : List Value} {x y z : Value} (h : Rd w 3 A n xs) (hk : k < n) (h0 : xs[k * 3 + 0]? = some x) (h1 : xs[k * 3 + 1]? = some y) (h2 : xs[k * 3 + 2]? = some z) :
    ∃ ad, A = some ad ∧ ad.block < w.heap.size ∧ w.cell? (ad.add (k * 3)) = some x ∧ w.cell? ⟨(ad.add (k * 3)).block, (ad.add (k * 3)).off + 1, none⟩ = some y ∧ w.cell? ⟨(ad.add (k * 3)).block, (ad.add (k * 3)).off + 2, none⟩ = some z := by
  obtain ⟨ad, e, hb, hc⟩ := h.at_ hk
  refine ⟨ad, e, hb, ?_, ?_, ?_⟩
  · have := hc 0 _ h0; rwa [add_zero'] at this
  · have := hc 1 _ h1; rwa [add_succ'] at this
  · have := hc 2 _ h2; rwa [add_succ'] at this
/-- structs of three integer fields -/
def tripsV (zs : List (Int × Int × Int)) : List Value := zs.flatMap fun x => [.int .i64 x.1, .int .i64 x.2.1, .int .i64 x.2.2]
theorem tripsV_length (zs : List (Int × Int × Int)) : (tripsV zs).length = zs.length * 3 := by
  induction zs with
  | nil => rfl
  | cons x zs ih => simp only [tripsV, List.flatMap_cons, List.length_append, List.length_cons, List.length_nil] at *; omega
theorem tripsV_get : ∀ {zs : List (Int × Int × Int)} {i : Nat} (h : i < zs.length), (tripsV zs)[i * 3 + 0]? = some (.int .i64 zs[i].1) ∧ (tripsV zs)[i * 3 + 1]? = some (.int .i64 zs[i].2.1) ∧ (tripsV zs)[i * 3 + 2]? = some (.int .i64 zs[i].2.2)
  | x :: zs, 0, _ => by simp [tripsV]
  | x :: zs, i + 1, h => by
    have ih := tripsV_get (zs := zs) (i := i) (by simpa using h)
    have e : tripsV (x :: zs) = [.int .i64 x.1, .int .i64 x.2.1, .int .i64 x.2.2] ++ tripsV zs := by simp [tripsV]
    rw [e, List.getElem?_append_right (by simp; omega), List.getElem?_append_right (by simp; omega), List.getElem?_append_right (by simp; omega)]
    simp only [List.length_cons, List.length_nil, List.getElem_cons_succ]
    rw [show (i + 1) * 3 + 0 - (0 + 1 + 1 + 1) = i * 3 + 0 from by omega, show (i + 1) * 3 + 1 - (0 + 1 + 1 + 1) = i * 3 + 1 from by omega, show (i + 1) * 3 + 2 - (0 + 1 + 1 + 1) = i * 3 + 2 from by omega]
    exact ih
/-- only block b, and what is new, has turned -/
theorem grown_set {a w : World} {b : Nat} {i : Nat} (h : Below a.heap.size a w) (v : Value) : a.grownBy (w.setCell ⟨b, i, none⟩ v) (some b) :=
  ⟨h.os, h.tape, h.output, by simpa [World.setCell] using h.size, fun j hj hne => (Below.heap_setCell w ⟨b, i, none⟩ v j (by rintro rfl; exact hne rfl)).trans (h.block j hj)⟩
theorem grown_below {a w : World} {b B : Nat} (h : a.grownBy w (some b)) (hB : B ≤ b) (hs : B ≤ a.heap.size) : Below B a w :=
  ⟨h.os, h.tape, h.output, h.size, fun j hj => h.block j (by omega) (by intro e; injection e; omega)⟩
end Lw
