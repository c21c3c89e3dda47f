/-
  Lines of a proof of a prime, as they came in; when a line holds, plain.
  Tables: is a row bad? The least and the greatest of a row.
  pratt.generates.
  pratt.holds and the reference's Holds.
-/
import Derived.Test.YtfocpbknckmmaaaKPrattMakes1
namespace Lw
open Go Go.RowKit
structure LineT where
  N : Int
  G : Int
  r : TRow
def LineT.cs (x : LineT) : List Value := [.int .i64 x.N, .int .i64 x.G, x.r.v]
def linesV (l : List LineT) : List Value := l.flatMap LineT.cs
theorem linesV_length (l : List LineT) : (linesV l).length = l.length * 3 := by
  induction l with
  | nil => rfl
  | cons x l ih => simp only [linesV, List.flatMap_cons, List.length_append, List.length_cons, LineT.cs, List.length_nil] at *; omega
theorem linesV_get : ∀ {l : List LineT} {i : Nat} (h : i < l.length), (linesV l)[i * 3 + 0]? = some (.int .i64 l[i].N) ∧ (linesV l)[i * 3 + 1]? = some (.int .i64 l[i].G) ∧ (linesV l)[i * 3 + 2]? = some (.slice l[i].r.A l[i].r.n l[i].r.c)
  | x :: l, 0, _ => by simp [linesV, LineT.cs, TRow.v]
  | x :: l, i + 1, h => by
    have ih := linesV_get (l := l) (i := i) (by simpa using h)
    have e : linesV (x :: l) = x.cs ++ linesV l := by simp [linesV]
    have hl : x.cs.length = 3 := rfl
    rw [e, List.getElem?_append_right (by omega), List.getElem?_append_right (by omega), List.getElem?_append_right (by omega), hl]
    simp only [List.getElem_cons_succ]
    rw [show (i + 1) * 3 + 0 - 3 = i * 3 + 0 from by omega, show (i + 1) * 3 + 1 - 3 = i * 3 + 1 from by omega, show (i + 1) * 3 + 2 - 3 = i * 3 + 2 from by omega]
    exact ih
/-- a slice of lines -/
def Lin (w : World) (A : Option Addr) (n : Nat) (l : List LineT) : Prop := Rd w 3 A n (linesV l) ∧ ∀ x ∈ l, RowOk .i64 w x.r ∧ (Lit.int .i64 x.N).wf = true ∧ (Lit.int .i64 x.G).wf = true
theorem Lin.len {w : World} {A : Option Addr} {n : Nat} {l : List LineT} (h : Lin w A n l) : l.length = n := by have := h.1.1; rw [linesV_length] at this; omega
theorem Lin.below {w w' : World} {A : Option Addr} {n : Nat} {l : List LineT} (h : Lin w A n l) {B : Nat} (hB : w.heap.size ≤ B) (hb : Below B w w') : Lin w' A n l :=
  ⟨h.1.below hB hb, fun r hr => ⟨(h.2 r hr).1.below hB hb, (h.2 r hr).2⟩⟩
theorem lin_list {w : World} : ∀ {L : List (List Value)}, (∀ vs ∈ L, All2 [IsI .i64, IsI .i64, IsSb w [IsI .i64]] vs) → ∃ T : List LineT, L = T.map LineT.cs ∧ (∀ x ∈ T, RowOk .i64 w x.r ∧ (Lit.int .i64 x.N).wf = true ∧ (Lit.int .i64 x.G).wf = true) ∧ ∀ x ∈ T, x.r.n ≤ 17592186043904
  | [], _ => ⟨[], rfl, by simp, by simp⟩
  | vs :: L, h => by
    obtain ⟨T, hT, hw, hb⟩ := lin_list (L := L) fun z hz => h z (by simp [hz])
    have h0 := h vs (by simp)
    cases h0 with | cons a h1 => cases h1 with | cons b h2 => cases h2 with | cons c h3 => cases h3 with | nil =>
      obtain ⟨n0, rfl, w0⟩ := a
      obtain ⟨n1, rfl, w1⟩ := b
      obtain ⟨A, l, cp, rfl, hs, hl⟩ := c
      obtain ⟨zs, hz⟩ := row_of hs
      exact ⟨⟨n0, n1, ⟨A, l, cp, zs⟩⟩ :: T, by simp [hT, LineT.cs, TRow.v], by intro t ht; simp at ht; rcases ht with rfl | ht; exact ⟨hz, w0, w1⟩; exact hw t ht, by intro t ht; simp at ht; rcases ht with rfl | ht; exact hl; exact hb t ht⟩
theorem IsSl.lines {w : World} {A : Option Addr} {n c : Nat} (h : IsSl w [IsI .i64, IsI .i64, IsSb w [IsI .i64]] A n c) : ∃ l, Lin w A n l ∧ ∀ x ∈ l, x.r.n ≤ 17592186043904 := by
  obtain ⟨L, _, h2, R⟩ := h.list (by simp)
  obtain ⟨T, hT, hw, hb⟩ := lin_list h2
  refine ⟨T, ⟨?_, hw⟩, hb⟩
  rw [hT] at R
  have : linesV T = (T.map LineT.cs).flatten := by unfold linesV; rw [List.flatMap_def]
  rw [this]; exact R
/-- divided by q as often as may be -/
def strN (q : Int) : Nat → Int → Int
  | 0, x => x
  | f + 1, x => if x % q = 0 then strN q f (x / q) else x
theorem str_half {q x : Int} {k : Nat} (hq : 2 ≤ q) (h0 : 1 ≤ x) (h1 : x < 2 ^ (k + 1)) (hd : x % q = 0) : 1 ≤ x / q ∧ x / q < 2 ^ k ∧ x / q < x := by
  have e := Int.emod_add_mul_ediv x q
  rw [hd, Int.zero_add] at e
  have h2 : 0 ≤ x / q := Int.ediv_nonneg (by omega) (by omega)
  have h3 : x / q ≠ 0 := by intro h; rw [h, Int.mul_zero] at e; omega
  have h4 : 2 * (x / q) ≤ q * (x / q) := Int.mul_le_mul_of_nonneg_right hq h2
  rw [Int.pow_succ] at h1
  omega
theorem strN_stable {q : Int} (hq : 2 ≤ q) : ∀ (k : Nat) (x : Int), 1 ≤ x → x < 2 ^ k → strN q (k + 1) x = strN q k x
  | 0, x, h0, h1 => by have h1 : x < 1 := h1; omega
  | k + 1, x, h0, h1 => by
    show (if x % q = 0 then strN q (k + 1) (x / q) else x) = if x % q = 0 then strN q k (x / q) else x
    split
    · rename_i hd
      obtain ⟨h2, h3, _⟩ := str_half hq h0 h1 hd
      rw [strN_stable hq k _ h2 h3]
    · rfl
def stripI (q x : Int) : Int := strN q 21 x
theorem stripI_step {q x : Int} (hq : 2 ≤ q) (h0 : 1 ≤ x) (h1 : x < 2097152) (hd : x % q = 0) : stripI q x = stripI q (x / q) := by
  obtain ⟨h2, h3, _⟩ := str_half (k := 20) hq h0 (by omega) hd
  show (if x % q = 0 then strN q 20 (x / q) else x) = strN q (20 + 1) (x / q)
  rw [if_pos hd, strN_stable hq 20 _ h2 h3]
theorem stripI_stop {q x : Int} (hd : ¬ x % q = 0) : stripI q x = x := if_neg hd
theorem strN_bd {q : Int} (hq : 2 ≤ q) : ∀ (k : Nat) (x : Int), 1 ≤ x → x < 2 ^ 21 → 1 ≤ strN q k x ∧ strN q k x ≤ x
  | 0, x, h0, _ => ⟨h0, Int.le_refl _⟩
  | k + 1, x, h0, h1 => by
    unfold strN
    split
    · rename_i hd
      obtain ⟨h2, h3, h4⟩ := str_half (k := 20) hq h0 h1 hd
      have := strN_bd hq k (x / q) h2 (by omega)
      omega
    · exact ⟨h0, Int.le_refl _⟩
/-- the N of a line -/
def qAt (Ns : List Int) (k : Int) : Int := Ns.getD k.toNat 0
def okK (Ns : List Int) (N : Int) (i : Nat) (k : Int) : Prop := 0 ≤ k ∧ k < i ∧ (N - 1) % qAt Ns k = 0
def lef (Ns : List Int) (N : Int) (F : List Int) : Nat → Int
  | 0 => N - 1
  | j + 1 => stripI (qAt Ns (F.getD j 0)) (lef Ns N F j)
/-- when a line holds -/
def HoldP (Ns : List Int) (i : Nat) (N G : Int) (F : List Int) : Prop :=
  N = 2 ∨ ((3 ≤ N ∧ N ≤ 1048576 ∧ 1 ≤ G ∧ G < N) ∧ pw G (N - 1) N = 1 ∧ (∀ j, j < F.length → okK Ns N i (F.getD j 0)) ∧ lef Ns N F F.length = 1 ∧ ∀ j, j < F.length → ¬ pw G ((N - 1) / qAt Ns (F.getD j 0)) N = 1)
def HdR (Q : Prop) (w : World) (e : Ending) (w' : World) : Prop := (∃ r : Bool, e = .returned (.bool r) ∧ (r = true ↔ Q)) ∧ Below w.heap.size w w'
theorem lef_bd {Ns : List Int} {N : Int} {i : Nat} {F : List Int} (hN : 3 ≤ N) (hN2 : N ≤ 1048576) (hq : ∀ k, k < i → 2 ≤ Ns.getD k 0) : ∀ j, (∀ j', j' < j → okK Ns N i (F.getD j' 0)) → 1 ≤ lef Ns N F j ∧ lef Ns N F j < 1048576
  | 0, _ => by show 1 ≤ N - 1 ∧ N - 1 < 1048576; omega
  | j + 1, h => by
    have h1 := lef_bd hN hN2 hq j fun j' hj => h j' (by omega)
    obtain ⟨k0, k1, _⟩ := h j (by omega)
    have h2 : 2 ≤ qAt Ns (F.getD j 0) := hq _ (by omega)
    have h3 := strN_bd h2 21 (lef Ns N F j) h1.1 (by omega)
    show 1 ≤ strN _ 21 _ ∧ strN _ 21 _ < _
    omega
end Lw
namespace Lw
open Go Go.RowKit
def Big (m n : Nat) : Prop := m < n
def Odd (m n : Nat) : Prop := n ≠ m
instance (m n : Nat) : Decidable (Big m n) := inferInstanceAs (Decidable (m < n))
instance (m n : Nat) : Decidable (Odd m n) := inferInstanceAs (Decidable (n ≠ m))
theorem Big.t {m n : Nat} (h : Big m n) : (m : Int) < (n : Int) := by unfold Big at h; omega
theorem Big.f {m n : Nat} (h : ¬ Big m n) : ¬ (m : Int) < (n : Int) := by unfold Big at h; omega
theorem Odd.t {m n : Nat} (h : Odd m n) : ((n : Int) == (m : Int)) = false := by unfold Odd at h; simp; omega
theorem Odd.f {m n : Nat} (h : ¬ Odd m n) : ((n : Int) == (m : Int)) = true := by unfold Odd at h; simp; omega
theorem big16t {n : Nat} (h : Big 16 n) : (16 : Int) < (n : Int) := h.t
theorem big16f {n : Nat} (h : ¬ Big 16 n) : ¬ (16 : Int) < (n : Int) := Big.f h
theorem odd16t {n : Nat} (h : Odd 16 n) : ((n : Int) == (16 : Int)) = false := h.t
theorem odd16f {n : Nat} (h : ¬ Odd 16 n) : ((n : Int) == (16 : Int)) = true := Odd.f h
/-- what IndexFunc returns -/
def IdxT (b : Bool) (w : World) (e : Ending) (w' : World) : Prop := ∃ r : Int, e = .returned (.int .i64 r) ∧ w = w' ∧ ((b = false ∧ r = -1) ∨ (b = true ∧ 0 ≤ r))
theorem IdxT.ge {b : Bool} {r : Int} (h : (b = false ∧ r = -1) ∨ (b = true ∧ 0 ≤ r)) : decide (0 ≤ r) = b := by rcases h with ⟨rfl, rfl⟩ | ⟨rfl, h⟩ <;> simp_all
/-- what Min and Max return -/
def MinP (zs : List Int) (w : World) (e : Ending) (w' : World) : Prop := ∃ m : Int, e = .returned (.int .i64 m) ∧ w = w' ∧ m ∈ zs ∧ ∀ z ∈ zs, m ≤ z
def MaxP (zs : List Int) (w : World) (e : Ending) (w' : World) : Prop := ∃ m : Int, e = .returned (.int .i64 m) ∧ w = w' ∧ m ∈ zs ∧ ∀ z ∈ zs, z ≤ m
/-- a row with a number out of bounds -/
def outR (m : Int) (zs : List Int) : Bool := zs.any (fun x => decide (x < 0) || decide (m ≤ x))
theorem outR_min {zs : List Int} {m a : Int} (h : a ∈ zs) (h0 : a < 0) : outR m zs = true := List.any_eq_true.2 ⟨a, h, by simp [h0]⟩
theorem outR_max {zs : List Int} {m a : Int} (h : a ∈ zs) (h0 : m ≤ a) : outR m zs = true := List.any_eq_true.2 ⟨a, h, by simp [h0]⟩
theorem outR_no {zs : List Int} {m a b : Int} (h : ∀ z ∈ zs, a ≤ z) (h0 : ¬ a < 0) (h' : ∀ z ∈ zs, z ≤ b) (h1 : ¬ m ≤ b) : outR m zs = false := by
  rw [Bool.eq_false_iff]; intro e
  obtain ⟨z, hz, e⟩ := List.any_eq_true.1 e
  have := h z hz; have := h' z hz
  simp at e; omega
theorem mem_take_succ {zs : List Int} {k : Nat} (h : k < zs.length) {z : Int} : z ∈ zs.take (k + 1) ↔ z ∈ zs.take k ∨ z = zs[k] := by
  rw [List.take_succ_eq_append_getElem h, List.mem_append, List.mem_singleton]
end Lw
set_option linter.unusedVariables false
set_option linter.unusedSimpArgs false
namespace Go.Proofs.Ytfocpbknckmmaaa
open Go.RowKit
end Go.Proofs.Ytfocpbknckmmaaa
namespace Lw
open Go Go.RowKit
def oneB (g N : Int) (q : Int) : Bool := pw g ((N - 1) / q) N == 1
theorem gen_div {N q : Int} (hN : 3 ≤ N) (hN2 : N ≤ 1048576) (hq : 2 ≤ q) : 0 ≤ (N - 1) / q ∧ (N - 1) / q ≤ 1048576 := by
  refine ⟨Int.ediv_nonneg (by omega) (by omega), ?_⟩
  have := Int.ediv_le_self (b := q) (show 0 ≤ N - 1 by omega)
  omega
end Lw
set_option linter.unusedVariables false
set_option linter.unusedSimpArgs false
namespace Go.Proofs.Ytfocpbknckmmaaa
open Go.RowKit
theorem gen_one (x : Int) (bg bn : Nat) (g N : Int) (w : World) (hg : w.cell? ⟨bg, 0, none⟩ = some (.int .i64 g)) (hb : w.cell? ⟨bn, 0, none⟩ = some (.int .i64 N)) (N1 : 3 ≤ N) (N2 : N ≤ 1048576) (hq : 2 ≤ x) :
    Calls Try.prog 57 #[.int .i64 x, .pointer (some ⟨bg, 0, none⟩), .pointer (some ⟨bn, 0, none⟩)] w fun e w' => e = .returned (.bool (Lw.oneB g N x)) ∧ ∃ d, w' = w.drewN d := by
  obtain ⟨d1, d2⟩ := Lw.gen_div N1 N2 hq
  have OB : Hid (Lw.oneB g N x = (Lw.pw g ((N - 1) / x) N == 1)) := rfl
  have TD : (N - 1).tdiv x = (N - 1) / x := Int.tdiv_eq_ediv_of_nonneg (by omega)
  have x0 : ¬ x = 0 := by omega
  generalize Lw.oneB g N x = B at *
  obtain ⟨e, he⟩ : ∃ z, (N - 1) / x = z := ⟨_, rfl⟩
  rw [he] at d1 d2 OB TD
  have PW := Lib.hid (fun W => power_Of g e N W (by omega) (by omega) (by omega) (by omega))
  obtain ⟨v, hv⟩ : ∃ z, Lw.pw g e N = z := ⟨_, rfl⟩
  rw [hv] at PW OB
  clear he hv
  go_enter Try.func57, Try.ntmps57
  go_wp2
  go_quiet ((go_at_call 56; exact Lw.quiet (PW.out _)))
  go_wp2
  go_ret
  exact ⟨by rw [OB.out]; rfl, _, rfl⟩
set_option maxHeartbeats 1000000 in
theorem gen_idx (A : Option Addr) (n c bg bn : Nat) (g N : Int) (zs : List Int) (w : World) (R : Lw.Rd w 1 A n (Lw.intsV .i64 zs)) (hn : n ≤ 17592186044416) (hg : w.cell? ⟨bg, 0, none⟩ = some (.int .i64 g)) (hb : w.cell? ⟨bn, 0, none⟩ = some (.int .i64 N)) (N1 : 3 ≤ N) (N2 : N ≤ 1048576) (hq : ∀ q ∈ zs, 2 ≤ q) :
    Calls Try.prog 62 #[.slice A n c, .func (.func 57) #[] #[.pointer (some ⟨bg, 0, none⟩), .pointer (some ⟨bn, 0, none⟩)]] w fun e w' => (∃ r : Int, e = .returned (.int .i64 r) ∧ ((zs.any (Lw.oneB g N) = false ∧ r = -1) ∨ (zs.any (Lw.oneB g N) = true ∧ 0 ≤ r))) ∧ ∃ d, w' = w.drewN d := by
  have R := Lib.hid R
  have l1 : zs.length = n := by have := R.out.1; simpa [Lw.intsV] using this
  have L := Lib.hid l1
  have HQ := Lib.hid hq
  clear l1 hq
  go_enter Try.func62, Try.ntmps62
  go_wp2
  go_loopw [5, 8] (fun x i wr => ∃ k d : Nat, i = .int .i64 (k : Int) ∧ k ≤ n ∧ Hid ((zs.take k).any (Lw.oneB g N) = false) ∧ wr = w.drewN d) (fun _ i _ => n - (intOf i).toNat)
  case atStart => exact ⟨0, 0, rfl, by omega, rfl, rfl⟩
  case round =>
    obtain ⟨k, dd, rfl, k1, T, rfl⟩ := hrel
    by_cases hlt : k < n
    · have hl : k < zs.length := by rw [L.out]; exact hlt
      obtain ⟨ad, rfl, had, hcell⟩ := R.out.at1 hlt (Lw.intsV_get hl)
      have NN := Lib.hid (Lw.any_take (p := Lw.oneB g N) hl T.out)
      have D := Lib.hid (Lw.any_at (p := Lw.oneB g N) hl)
      have q2 := HQ.out _ (List.getElem_mem hl)
      obtain ⟨x, hx⟩ : ∃ x, zs[k] = x := ⟨_, rfl⟩
      rw [hx] at hcell NN D q2
      have ON := Lib.hid (gen_one x bg bn g N (w.drewN dd) hg hb N1 N2 q2)
      clear hx
      cases hv : Lw.oneB g N x with
      | true =>
        have D1 := Lib.hid (D.out hv)
        rw [hv] at ON
        clear NN D hv
        go_wp2_with (go_at_call 57; (with_reducible refine (ON.out).mono ?_); rintro e w' ⟨rfl, d2, rfl⟩)
        go_ret
        exact ⟨⟨_, rfl, .inr ⟨D1.out, by omega⟩⟩, _, rfl⟩
      | false =>
        have N1' := Lib.hid (NN.out hv)
        rw [hv] at ON
        clear NN D hv
        go_wp2_with (go_at_call 57; (with_reducible refine (ON.out).mono ?_); rintro e w' ⟨rfl, d2, rfl⟩)
        go_roundw
        case rel => exact ⟨k + 1, _, by go_num, by omega, N1', rfl⟩
        case measure => simp [intOf]; omega
    · have hk : zs.take k = zs := List.take_of_length_le (by rw [L.out]; omega)
      have E : Hid (zs.any (Lw.oneB g N) = false) := by have := T.out; rwa [hk] at this
      clear hk
      go_wp2
      go_ret
      exact ⟨⟨_, rfl, .inl ⟨E.out, rfl⟩⟩, dd, rfl⟩
theorem gen_con (A : Option Addr) (n c bg bn : Nat) (g N : Int) (zs : List Int) (w : World) (R : Lw.Rd w 1 A n (Lw.intsV .i64 zs)) (hn : n ≤ 17592186044416) (hg : w.cell? ⟨bg, 0, none⟩ = some (.int .i64 g)) (hb : w.cell? ⟨bn, 0, none⟩ = some (.int .i64 N)) (N1 : 3 ≤ N) (N2 : N ≤ 1048576) (hq : ∀ q ∈ zs, 2 ≤ q) :
    Calls Try.prog 39 #[.slice A n c, .func (.func 57) #[] #[.pointer (some ⟨bg, 0, none⟩), .pointer (some ⟨bn, 0, none⟩)]] w fun e w' => e = .returned (.bool (zs.any (Lw.oneB g N))) ∧ ∃ d, w' = w.drewN d := by
  have X := Lib.hid (gen_idx A n c bg bn g N zs w R hn hg hb N1 N2 hq)
  clear R hb hg hq
  go_enter Try.func39, Try.ntmps39
  go_wp2_with (go_at_call 62; (with_reducible refine (X.out).mono ?_); rintro e w1 ⟨⟨r, rfl, hr⟩, d, rfl⟩)
  go_ret
  exact ⟨Lw.ret_bool (Lw.IdxT.ge hr), d, rfl⟩
set_option maxHeartbeats 1000000 in
theorem pratt_generates (g N : Int) (A : Option Addr) (n c : Nat) (qs : List Int) (w : World) (R : Lw.Rd w 1 A n (Lw.intsV .i64 qs)) (hn : n ≤ 17592186044416) (N1 : 3 ≤ N) (N2 : N ≤ 1048576) (hq : ∀ q ∈ qs, 2 ≤ q) :
    Calls Try.prog 33 #[.int .i64 g, .int .i64 N, .slice A n c] w fun e w' => e = .returned (.bool ((Lw.pw g (N - 1) N == 1) && !(qs.any (Lw.oneB g N)))) ∧ Below w.heap.size w w' := by
  obtain ⟨W, hW⟩ : ∃ W, (w.alloc (.cells #[.int .i64 g] 2)).alloc (.cells #[.int .i64 N] 2) = W := ⟨_, rfl⟩
  have B0 := Lib.hid (show W.heap[w.heap.size]? = some (.cells #[.int .i64 g] 2 (0, 0)) from hW ▸ Lw.blk_alloc (Lw.blk_new _ _ _) _)
  have B1 := Lib.hid (show W.heap[w.heap.size + 1]? = some (.cells #[.int .i64 N] 2 (0, 0)) from hW ▸ Lw.blk_new' (by simp) _ _)
  have hBW : Below w.heap.size w W := by rw [← hW]; exact Lw.balloc (Lw.balloc (Below.refl _ _) _) _
  have l0 := Lw.blk_cell B0.out 0
  have l1 := Lw.blk_cell B1.out 0
  simp at l0 l1
  have PW := Lib.hid (fun W => power_Of g (N - 1) N W (by omega) (by omega) (by omega) (by omega))
  have CN := Lib.hid (gen_con A n c w.heap.size (w.heap.size + 1) g N qs W (R.below (Nat.le_refl _) hBW) hn l0 l1 N1 N2 hq)
  generalize qs.any (Lw.oneB g N) = y at *
  obtain ⟨v, hv⟩ : ∃ z, Lw.pw g (N - 1) N = z := ⟨_, rfl⟩
  rw [hv] at PW
  rw [hv]
  have HW := Lib.hid hW
  clear hW R hq hv
  by_cases h1 : v = 1
  · subst h1
    have z : ((1 : Int) != 1) = false := rfl
    go_enter Try.func33, Try.ntmps33
    go_wp2_with fail
    rw [HW.out]
    refine (PW.out _).mono ?_
    rintro e w' ⟨rfl, rfl⟩
    go_wp2_with (go_at_call 39; (with_reducible refine (CN.out).mono ?_); rintro e w1 ⟨rfl, d, rfl⟩)
    go_ret
    exact ⟨rfl, Lw.bdrewN hBW _⟩
  · have z : (v != 1) = true := by simpa using h1
    have z2 : (v == 1) = false := by simpa using h1
    rw [z2]
    go_enter Try.func33, Try.ntmps33
    go_wp2_with fail
    rw [HW.out]
    refine (PW.out _).mono ?_
    rintro e w' ⟨rfl, rfl⟩
    go_wp2_with fail
    go_ret
    exact ⟨rfl, hBW⟩
end Go.Proofs.Ytfocpbknckmmaaa
namespace Lw
open Go Go.RowKit
section
variable {P : Program} {w : World}
theorem run_appB {t ty e : TypeId} {z : Value} {size bytes base : Nat} (hel : El P t e z size bytes) {v : Value} {n : Nat} {xs : List Value} (hown : w.ownsRow base e size v n xs) {A : Option Addr} {m c : Nat} {news : List Value} (R : Rd w size A m news) (hm0 : 0 < m) (h1 : ∀ u ∈ news, u.oneCell' = true) (hm : n + m ≤ maxLen) (hbound : (n + m) * bytes ≤ 140737488355328) (hbase : base ≤ w.heap.size) :
    ∃ v' w', (Builtin.append_ #[t, t] ty #[v, .slice A m c]).run P w = .ok v' w' ∧ w'.ownsRow base e size v' (n + m) (xs ++ news) ∧ w.grownBy w' v.ownBlock ∧ (v'.ownBlock = v.ownBlock ∨ v'.ownBlock = some w.heap.size) := by
  obtain ⟨ht, hz, h0, hb, i, hi, hiz, hsz, hby⟩ := hel
  obtain ⟨ad, rfl, _, hc⟩ := R.2 hm0
  obtain ⟨v', w', a, b, c', _, d⟩ := run_append_own_at (P := P) w base t ty e i z size bytes ht hi hiz hsz hby hz h0 v n xs hown ad m c news R.1 hc h1 hm hbound hbase
  exact ⟨v', w', a, b, c', d⟩
theorem wpList_appB {ops : Array Oper} {rest : List Oper} {o : Oper} {a : Act} {Q : Exit → Act → World → Prop} {t e : TypeId} {z : Value} {size bytes base : Nat} (hel : El P t e z size bytes) (hgd : o.guard = none) (s x : Operand)
    (ho : o.op = .call { callee := .builtin .append, args := #[s, x], argTypes := #[t, t] }) {v : Value} {n : Nat} {xs : List Value} (hs : a.eval s = v) (hown : w.ownsRow base e size v n xs) {A : Option Addr} {m c : Nat} {news : List Value} (hx : a.eval x = .slice A m c) (R : Rd w size A m news) (hm0 : 0 < m) (h1 : ∀ u ∈ news, u.oneCell' = true) (hm : n + m ≤ maxLen) (hbound : (n + m) * bytes ≤ 140737488355328)
    {w0 : World} (hB : Below w0.heap.size w0 w) (hb0 : w0.heap.size ≤ base) (hbase : base ≤ w.heap.size)
    (h : ∀ v' w', w'.ownsRow base e size v' (n + m) (xs ++ news) → Below w0.heap.size w0 w' → w.grownBy w' v.ownBlock → (v'.ownBlock = v.ownBlock ∨ v'.ownBlock = some w.heap.size) → wpList P ops Q rest (a.put o.dst v') w') : wpList P ops Q (o :: rest) a w := by
  refine wpList_plain hgd fun _ hK => ?_
  obtain ⟨v', w', hr, h2, h3, h4⟩ := run_appB (ty := o.type) (c := c) hel hown R hm0 h1 hm hbound hbase
  unfold Oper.wp execOp
  simp only [ho, resolve, invoke, builtin, Sem.run_bind, Sem.run_pure, Result.andThen_ok, List.map_toArray, List.map_cons, List.map_nil, hs, hx, hr]
  exact hK _ _ (h v' w' h2 (grown_own hB hown hb0 h3) h3 h4)
end
theorem qAt_line {l : List LineT} {k : Nat} (hk : k < l.length) : qAt (l.map LineT.N) (k : Int) = l[k].N := by
  unfold qAt
  rw [Int.toNat_natCast, List.getD_eq_getElem?_getD, List.getElem?_map, List.getElem?_eq_getElem hk]; rfl
theorem stripI_zero {q x : Int} (h : ¬ x % q = 0) : stripI q x = x := stripI_stop h
def psL (Ns : List Int) (F : List Int) (j : Nat) : List Int := (List.range j).map fun t => qAt Ns (F.getD t 0)
theorem psL_succ (Ns F : List Int) (j : Nat) : psL Ns F (j + 1) = psL Ns F j ++ [qAt Ns (F.getD j 0)] := by unfold psL; rw [List.range_succ, List.map_append, List.map_singleton]
theorem psL_len (Ns F : List Int) (j : Nat) : (psL Ns F j).length = j := by simp [psL]
theorem psL_any {Ns F : List Int} {G N : Int} {j : Nat} : (psL Ns F j).any (oneB G N) = false ↔ ∀ t, t < j → ¬ pw G ((N - 1) / qAt Ns (F.getD t 0)) N = 1 := by
  unfold psL
  rw [List.any_eq_false]
  simp only [List.mem_map, List.mem_range, oneB]
  exact ⟨fun h t ht e => h _ ⟨t, ht, rfl⟩ (by simpa using e), fun h x ⟨t, ht, e⟩ hx => h t ht (by rw [e]; simpa using hx)⟩
/-- what is known of a line ahead of its list -/
theorem hold_no1 {Ns : List Int} {i : Nat} {N G : Int} {F : List Int} (h2 : ¬ N = 2) (h : N < 3 ∨ 1048576 < N ∨ G < 1 ∨ N ≤ G) : ¬ HoldP Ns i N G F := by
  rintro (h1 | ⟨h1, _⟩)
  · exact h2 h1
  · omega
theorem hold_noK {Ns : List Int} {i : Nat} {N G : Int} {F : List Int} (h2 : ¬ N = 2) {j : Nat} (hj : j < F.length) (h : ¬ okK Ns N i (F.getD j 0)) : ¬ HoldP Ns i N G F := by
  rintro (h1 | ⟨_, _, h1, _⟩)
  · exact h2 h1
  · exact h (h1 j hj)
theorem hold_end {Ns : List Int} {i : Nat} {N G : Int} {F : List Int} (h2 : ¬ N = 2) (hr : 3 ≤ N ∧ N ≤ 1048576 ∧ 1 ≤ G ∧ G < N) (hk : ∀ j, j < F.length → okK Ns N i (F.getD j 0)) {p : Bool} {v : Int} {b : Bool} (hv : v = lef Ns N F F.length) (hb : p = (v == 1 && ((pw G (N - 1) N == 1) && !((psL Ns F F.length).any (oneB G N))))) : (p = true ↔ HoldP Ns i N G F) := by
  subst hb hv
  simp only [Bool.and_eq_true, beq_iff_eq, Bool.not_eq_true', psL_any]
  exact ⟨fun ⟨h1, h3, h4⟩ => .inr ⟨hr, h3, hk, h1, h4⟩, fun h => by rcases h with h | ⟨_, h3, _, h1, h4⟩; exact absurd h h2; exact ⟨h1, h3, h4⟩⟩
end Lw
set_option linter.unusedVariables false
set_option linter.unusedSimpArgs false
namespace Go.Proofs.Ytfocpbknckmmaaa
open Go.RowKit
end Go.Proofs.Ytfocpbknckmmaaa
