/- The least member whose powers are all: field.Base, the reference's FieldBase. -/
import Derived.Test.YtjhjppaabmbbbaaFpw
import Derived.Test.YtjhjppaabmbbbaaFacProg
import Derived.Test.YtjhjppaabmbbbaaOrd
namespace Lw
open Go Go.RowKit
variable {p : Int} {f : List Int}
/-- the member of a number -/
def memOf (F : Fld p f) (g : Nat) : Mem0 p f := if h : 1 ≤ g ∧ (g : Int) < p ^ (f.length - 1) then ⟨(g : Int), by omega, h.2⟩ else (fAb F).one
theorem memOf_val (F : Fld p f) {g : Nat} (h1 : 1 ≤ g) (h2 : (g : Int) < p ^ (f.length - 1)) : (memOf F g).1 = (g : Int) := by unfold memOf; rw [dif_pos ⟨h1, h2⟩]
def GenF (F : Fld p f) (g : Nat) : Prop := (fAb F).Ord (memOf F g) (fN p f)
/-- the least generator -/
def LeastG (F : Fld p f) (b : Nat) : Prop := 1 ≤ b ∧ (b : Int) < p ^ (f.length - 1) ∧ GenF F b ∧ ∀ j, 1 ≤ j → j < b → ¬ GenF F j
theorem ex_least (F : Fld p f) : ∃ b, LeastG F b := by
  obtain ⟨g, hg⟩ := f_gen F
  have h1 := g.2.1
  have h2 := g.2.2
  have hm : memOf F g.1.toNat = g := by
    have := memOf_val F (g := g.1.toNat) (by omega) (by omega)
    exact Subtype.ext (by rw [this]; omega)
  obtain ⟨b, hb, hl⟩ := least_nat (P := fun n => 1 ≤ n ∧ (n : Int) < p ^ (f.length - 1) ∧ GenF F n) g.1.toNat ⟨by omega, by omega, by unfold GenF; rw [hm]; exact hg⟩
  exact ⟨b, hb.1, hb.2.1, hb.2.2, fun j j1 j2 hj => hl j j2 ⟨j1, by have := hb.2.1; omega, hj⟩⟩
/-- no part of its order does -/
def okG (F : Fld p f) (g : Nat) (l : List (Nat × Nat)) : Bool := l.all fun x => decide (((fAb F).pow (memOf F g) (fN p f / x.1)).1 ≠ 1)
theorem okG_take (F : Fld p f) {g k : Nat} {l : List (Nat × Nat)} (h : k < l.length) : okG F g (l.take (k + 1)) = (okG F g (l.take k) && decide (((fAb F).pow (memOf F g) (fN p f / l[k].1)).1 ≠ 1)) := by
  unfold okG
  rw [List.take_succ_eq_append_getElem h, List.all_append]; simp
theorem okG_iff (F : Fld p f) (g : Nat) : okG F g (fac (fN p f)) = true ↔ GenF F g := by
  have hN := fN_pos F
  constructor
  · intro h
    refine Ab.ord_full hN (f_fermat F _) fun q hq hd h1 => ?_
    obtain ⟨v, hv⟩ := mem_fac hq (fN p f) (by omega) hd
    have := List.all_eq_true.1 h _ hv
    simp only [decide_eq_true_eq] at this
    exact this (congrArg Subtype.val h1)
  · intro h
    refine List.all_eq_true.2 fun x hx => ?_
    simp only [decide_eq_true_eq]
    intro h1
    obtain ⟨xp, xd, _⟩ := fac_mem (fN p f) x hx
    have h2 : (fAb F).One (memOf F g) (fN p f / x.1) := Subtype.ext h1
    have h3 := (h _).1 h2
    have hp2 := xp.1
    have h4 : 0 < fN p f / x.1 := Nat.div_pos (Nat.le_of_dvd (by omega) xd) (by omega)
    have h5 := Nat.le_of_dvd h4 h3
    have h6 := Nat.div_lt_self (show 0 < fN p f by omega) (show 1 < x.1 by omega)
    omega
/-- the reference's steps -/
def StepG (F : Fld p f) (g k : Nat) : Prop := 1 ≤ k ∧ k ≤ fN p f ∧ ∀ j, 1 ≤ j → j < k → ¬ (fAb F).One (memOf F g) j
theorem stepG_next (F : Fld p f) {g k : Nat} (h : StepG F g k) (hn : ¬ ((fAb F).pow (memOf F g) k).1 = 1) : StepG F g (k + 1) := by
  obtain ⟨h1, h2, h3⟩ := h
  have hk : k ≠ fN p f := fun e => hn (by rw [e, f_fermat F]; rfl)
  refine ⟨by omega, by omega, fun j j1 j2 => ?_⟩
  by_cases e : j = k
  · subst e; exact fun h => hn (congrArg Subtype.val h)
  · exact h3 j j1 (by omega)
theorem stepG_end (F : Fld p f) {g k : Nat} (h : StepG F g k) (hn : ((fAb F).pow (memOf F g) k).1 = 1) : k = fN p f ↔ GenF F g := by
  obtain ⟨h1, h2, h3⟩ := h
  have hk : (fAb F).One (memOf F g) k := Subtype.ext hn
  constructor
  · intro e j
    constructor
    · intro hj
      by_cases hj0 : j = 0
      · rw [hj0]; exact Nat.dvd_zero _
      · have hg := Ab.one_gcd _ _ hj hk
        have g1 := Nat.gcd_pos_of_pos_right j (show 0 < k by omega)
        have g2 := Nat.le_of_dvd (show 0 < k by omega) (Nat.gcd_dvd_right j k)
        have g3 : Nat.gcd j k = k := by
          rcases Nat.lt_or_ge (Nat.gcd j k) k with h | h
          · exact absurd hg (h3 _ g1 h)
          · omega
        rw [← e, ← g3]; exact Nat.gcd_dvd_left j k
    · rintro ⟨c, rfl⟩
      rw [← e]; exact hk.mul c
  · intro h
    have := Nat.le_of_dvd (by omega) ((h k).1 hk)
    omega
end Lw
set_option linter.unusedVariables false
set_option linter.unusedSimpArgs false
namespace Go.Proofs.Ytjhjppaabmbbbaa
open Go.RowKit
set_option maxRecDepth 100000 in
set_option maxHeartbeats 4000000 in
theorem ref_FieldBase (p : Int) (A : Option Addr) (n c : Nat) (f : List Int) (F : Lw.Fld p f) (b : Nat) (hb : Lw.LeastG F b) (w : World) (RA : Lw.Rd w 1 A n (Lw.intsV .i64 f)) :
    Calls Try.prog 51 #[.int .i64 p, .slice A n c] w fun e w' => e = .returned (.int .i64 (b : Int)) ∧ Below w.heap.size w w' := by
  have la : f.length = n := by have := RA.1; simpa [Lw.intsV] using this
  obtain ⟨b1, b2, b3, b4⟩ := hb
  have S2 := F.size
  have S1 := F.size1
  have NP := Lw.fN_pos F
  have hN : (Lw.fN p f : Int) = p ^ (f.length - 1) - 1 := by unfold Lw.fN; omega
  have SZ := fun w => ref_FieldSize p A n c w F.p1 F.p2 (by have := F.len; omega) (by have := F.good.2.2; omega)
  rw [show Lw.sizL p n = p ^ (f.length - 1) by unfold Lw.sizL; rw [la] at *; exact if_neg (by omega)] at SZ
  replace SZ := Lib.hid SZ
  have MU := Lib.hid (fun (y z : Lw.Mem0 p f) W' (hb : Below w.heap.size w W') => (show Calls Try.prog 48 #[.int .i64 p, .slice A n c, .int .i64 y.1, .int .i64 z.1] W' fun e w' => e = .returned (.int .i64 ((Lw.fAb F).mul y z).1) ∧ Below W'.heap.size W' w' from ref_FieldMul p A n c f y.1 z.1 W' (RA.below (Nat.le_refl _) hb) F.p1 F.p2 F.pp F.good (by have := F.len; omega) (by rw [← la]; exact S2) (by have := y.2.1; omega) (by have := y.2.2; omega) (by have := z.2.1; omega) (by have := z.2.2; omega)))
  obtain ⟨S, hS⟩ : ∃ z, p ^ (f.length - 1) = z := ⟨_, rfl⟩
  have MV : Hid (∀ g : Nat, 1 ≤ g → (g : Int) < S → (Lw.memOf F g).1 = (g : Int)) := Lib.hid (fun g h1 h2 => Lw.memOf_val F h1 (by rw [hS]; exact h2))
  have ST := Lib.hid (fun g => (show Lw.StepG F g 1 from ⟨Nat.le_refl _, NP, fun j j1 j2 => by omega⟩))
  have SN := Lib.hid (fun g k (h : Lw.StepG F g k) => Lw.stepG_next F h)
  have SE := Lib.hid (fun g k (h : Lw.StepG F g k) => Lw.stepG_end F h)
  have PW : Hid (∀ g k, (Lw.fAb F).pow (Lw.memOf F g) (k + 1) = (Lw.fAb F).mul ((Lw.fAb F).pow (Lw.memOf F g) k) (Lw.memOf F g)) := fun _ _ => rfl
  have P1 : Hid (∀ g, (Lw.fAb F).pow (Lw.memOf F g) 1 = Lw.memOf F g) := fun g => (Lw.fAb F).one_mul _
  have B3 := Lib.hid b3
  have B4 := Lib.hid b4
  rw [hS] at SZ b2 S1 S2 hN
  clear RA la b3 b4 hS
  go_enter Try.func51, Try.ntmps51
  go_wp2_with fail
  refine (SZ.out _).mono ?_
  rintro e w1 ⟨rfl, rfl⟩
  go_wp2_with fail
  go_loopw [6, 7, 8] (fun gv xv kv wr => ∃ g : Nat, gv = .int .i64 (g : Int) ∧ 1 ≤ g ∧ g ≤ b ∧ Below w.heap.size w wr) (fun gv _ _ _ => b + 1 - (intOf gv).toNat)
  case atStart => exact ⟨1, rfl, by omega, by omega, Below.refl _ _⟩
  case round =>
    obtain ⟨g, rfl, g1, g2, hB⟩ := hrel
    obtain ⟨W0, hW0⟩ : ∃ W0, W0 = wr := ⟨_, rfl⟩
    subst hW0
    have gS : (g : Int) < S := by omega
    have mv := Lib.hid (MV.out g g1 gS)
    go_wp2_with fail
    go_loopw [7, 8] (fun xv kv wr => ∃ k : Nat, kv = .int .i64 (k : Int) ∧ xv = .int .i64 ((Lw.fAb F).pow (Lw.memOf F g) k).1 ∧ Hid (Lw.StepG F g k) ∧ Below W0.heap.size W0 wr) (fun _ kv _ => Lw.fN p f + 1 - (intOf kv).toNat)
    case atStart => exact ⟨1, rfl, by rw [P1.out, mv.out], ST.out g, Below.refl _ _⟩
    case round =>
      obtain ⟨k, rfl, rfl, HK, hZ⟩ := hrel
      have HK0 := HK.out
      have k1 := HK0.1
      have k2 := HK0.2.1
      by_cases hx : ((Lw.fAb F).pow (Lw.memOf F g) k).1 = 1
      · have EE := Lib.hid (SE.out g k HK0 hx)
        by_cases hG : Lw.GenF F g
        · have ek := EE.out.2 hG
          have egb : g = b := by
            rcases Nat.lt_or_ge g b with h | h
            · exact absurd hG (B4.out g g1 h)
            · omega
          have zk : ((k : Int) == S - 1) = true := by simp; omega
          have zx : (((Lw.fAb F).pow (Lw.memOf F g) k).1 != 1) = false := by simpa using hx
          generalize ((Lw.fAb F).pow (Lw.memOf F g) k).1 = x at *
          have EGB := Lib.hid egb
          clear HK0 HK SE SN MU EE hG ek hx egb
          go_wp2_with fail
          go_ret
          exact ⟨by rw [← EGB.out]; rfl, Lw.bt hB hZ⟩
        · have ek : ¬ k = Lw.fN p f := fun h => hG (EE.out.1 h)
          have gb : g < b := by
            rcases Nat.lt_or_ge g b with h | h
            · exact h
            · exact absurd ((show b = g by omega) ▸ B3.out) hG
          have zk : ((k : Int) == S - 1) = false := by simp; omega
          have zx : (((Lw.fAb F).pow (Lw.memOf F g) k).1 != 1) = false := by simpa using hx
          generalize ((Lw.fAb F).pow (Lw.memOf F g) k).1 = x at *
          clear HK0 HK SE SN MU EE hG hx
          go_wp2_with fail
          go_roundw
          case rel => exact ⟨g + 1, by go_num, by omega, by omega, Lw.bt hB hZ⟩
          case measure => simp [intOf]; omega
      · have NX := Lib.hid (SN.out g k HK0 hx)
        have zx : (((Lw.fAb F).pow (Lw.memOf F g) k).1 != 1) = true := by simpa using hx
        have M1 := MU.out ((Lw.fAb F).pow (Lw.memOf F g) k) (Lw.memOf F g) wr (Lw.bt hB hZ)
        rw [← PW.out g k, mv.out] at M1
        replace M1 := Lib.hid M1
        have nx2 := NX.out.2.1
        generalize ((Lw.fAb F).pow (Lw.memOf F g) k).1 = x at *
        clear HK0 HK SE SN MU hx
        go_wp2_with fail
        refine M1.out.mono ?_
        rintro e w2 ⟨rfl, hb2⟩
        go_wp2_with fail
        go_roundw
        case rel => exact ⟨k + 1, by go_num, rfl, NX, Lw.bt hZ hb2⟩
        case measure => simp [intOf]; omega
theorem field_Base_bad (p : Int) (A : Option Addr) (n c : Nat) (f : List Int) (w : World) (RA : Lw.Rd w 1 A n (Lw.intsV .i64 f)) (h : ¬ Lw.fldE p f = 0) :
    Calls Try.prog 49 #[.int .i64 p, .slice A n c] w fun e w' => e = .returned (.tuple #[.int .i64 0, .int .i64 (Lw.fldE p f)]) ∧ Below w.heap.size w w' := by
  have X := field_open p A n c f w RA
  rw [Lw.fldV_bad h] at X
  replace X := Lib.hid X
  have z : (Lw.fldE p f != 0) = true := by simpa using h
  generalize Lw.fldE p f = E at *
  clear RA h
  go_enter Try.func49, Try.ntmps49
  go_wp2_with fail
  refine X.out.mono ?_
  rintro e w1 ⟨rfl, hb1⟩
  go_wp2_with fail
  go_ret2
  exact ⟨rfl, Lw.balloc hb1 _⟩
set_option maxRecDepth 100000 in
set_option maxHeartbeats 4000000 in
theorem field_Base_ok (p : Int) (A : Option Addr) (n c : Nat) (f : List Int) (F : Lw.Fld p f) (b : Nat) (hb : Lw.LeastG F b) (w : World) (RA : Lw.Rd w 1 A n (Lw.intsV .i64 f)) (h : Lw.fldE p f = 0) :
    Calls Try.prog 49 #[.int .i64 p, .slice A n c] w fun e w' => e = .returned (.tuple #[.int .i64 (b : Int), .int .i64 0]) ∧ Below w.heap.size w w' := by
  have la : f.length = n := by have := RA.1; simpa [Lw.intsV] using this
  obtain ⟨b1, b2, b3, b4⟩ := hb
  have S2 := F.size
  have S1 := F.size1
  have NP := Lw.fN_pos F
  have hN : (Lw.fN p f : Int) = p ^ (f.length - 1) - 1 := by unfold Lw.fN; omega
  have X := field_open p A n c f w RA
  obtain ⟨S, hS⟩ : ∃ z, p ^ (f.length - 1) = z := ⟨_, rfl⟩
  rw [h, Lw.fldV_ok, show p ^ (n - 1) = S by rw [← la]; exact hS] at X
  have PW := fun g k W (hb : Below w.heap.size w W) (hk : k ≤ 4096) => field_pow p S A n c f F (Lw.memOf F g) k W (RA.below (Nat.le_refl _) hb) hk
  have FC := fun w => primes_Factor (Lw.fN p f : Int) w (by omega) (by omega)
  simp only [Int.toNat_natCast] at FC
  rw [show (Lw.fN p f : Int) = S - 1 by rw [hN, hS]] at FC
  have MV : Hid (∀ g : Nat, 1 ≤ g → (g : Int) < S → (Lw.memOf F g).1 = (g : Int)) := Lib.hid (fun g h1 h2 => Lw.memOf_val F h1 (by rw [hS]; exact h2))
  have OT := Lib.hid (fun g k (h : k < (Lw.fac (Lw.fN p f)).length) => Lw.okG_take F (g := g) h)
  have O0 : Hid (∀ g, Lw.okG F g ((Lw.fac (Lw.fN p f)).take 0) = true) := fun _ => rfl
  have OI := Lib.hid (fun g => Lw.okG_iff F g)
  have FM := Lib.hid (fun x hx => Lw.fac_mem (Lw.fN p f) x hx)
  have FL : Hid ((Lw.fac (Lw.fN p f)).length ≤ 4096) := Lib.hid (by have := Lw.fac_length_le (Lw.fN p f); omega)
  have PL : Hid (Lw.facP (Lw.fN p f) = (Lw.fac (Lw.fN p f)).map fun x => ((x.1 : Int), (x.2 : Int))) := rfl
  have B3 := Lib.hid b3
  have B4 := Lib.hid b4
  rw [hS] at b2 S1 S2 hN
  generalize Lw.fac (Lw.fN p f) = L at *
  generalize Lw.facP (Lw.fN p f) = LP at *
  replace X := Lib.hid X
  replace PW := Lib.hid PW
  replace FC := Lib.hid FC
  clear RA la b3 b4 hS h
  go_enter Try.func49, Try.ntmps49
  go_wp2_with fail
  refine X.out.mono ?_
  rintro e w1 ⟨rfl, hb1⟩
  obtain ⟨W1, hW1⟩ : ∃ W, w1.alloc (.cells #[.int .i64 p, .int .i64 S, .slice A n c] 130) = W := ⟨_, rfl⟩
  have Bx := show W1.heap[w1.heap.size]? = some (.cells #[.int .i64 p, .int .i64 S, .slice A n c] 130 (0, 0)) from hW1 ▸ Lw.blk_new _ _ _
  have l0 := Lw.blk_cell Bx 0; have l1 := Lw.blk_cell Bx 1; have l2 := Lw.blk_cell Bx 2
  simp at l0 l1 l2
  have hB1 : Below w.heap.size w W1 := by rw [← hW1]; exact Lw.balloc hb1 _
  have hWs : w1.heap.size < W1.heap.size := by rw [← hW1]; simp
  have HW1 := Lib.hid hW1
  clear hW1 Bx X
  go_wp2_with fail
  rw [HW1.out]
  go_wp2_with fail
  refine (FC.out _).mono ?_
  rintro e w2 ⟨⟨C, d, rfl, own⟩, hb2⟩
  have RC := Lib.hid (Lw.Rd.of_own own)
  have k0 := (hb2.cell (p := ⟨w1.heap.size, 0, none⟩) hWs).trans l0
  have k1 := (hb2.cell (p := ⟨w1.heap.size, 1, none⟩) hWs).trans l1
  have k2 := (hb2.cell (p := ⟨w1.heap.size, 2, none⟩) hWs).trans l2
  have hB2 := Lw.bt hB1 hb2
  have hw2 : w1.heap.size < w2.heap.size := by have := hb2.size; omega
  clear own FC l0 l1 l2
  go_wp2_with fail
  go_loopw [10] (fun gv wr => ∃ g : Nat, gv = .int .i64 (g : Int) ∧ 1 ≤ g ∧ g ≤ b ∧ Below w2.heap.size w2 wr) (fun gv _ => b + 1 - (intOf gv).toNat)
  case atStart => exact ⟨1, rfl, by omega, by omega, Below.refl _ _⟩
  case round =>
    obtain ⟨g, rfl, g1, g2, hB⟩ := hrel
    obtain ⟨W0, hW0⟩ : ∃ W0, W0 = wr := ⟨_, rfl⟩
    subst hW0
    have gS : (g : Int) < S := by omega
    have mv := Lib.hid (MV.out g g1 gS)
    go_wp2_with fail
    go_loopw [11, 34] (fun av iv wr => ∃ k : Nat, iv = .int .i64 (k : Int) ∧ k ≤ L.length ∧ av = .bool (Lw.okG F g (L.take k)) ∧ Below W0.heap.size W0 wr) (fun _ iv _ => L.length - (intOf iv).toNat)
    case atStart => exact ⟨0, rfl, by omega, by rw [O0.out], Below.refl _ _⟩
    case round =>
      obtain ⟨k, rfl, hk, rfl, hZ⟩ := hrel
      by_cases hlt : k < L.length
      · have hlp : k < LP.length := by rw [PL.out, List.length_map]; exact hlt
        obtain ⟨q0, q1⟩ := Lw.pairsV_get (k := .i64) (l := .i64) hlp
        have hq : LP[k] = ((L[k].1 : Int), (L[k].2 : Int)) := by simp [PL.out]
        rw [hq] at q0 q1
        obtain ⟨ad, rfl, had, d0, d1⟩ := (RC.out.below (Nat.le_refl _) (Lw.bt hB hZ)).at2 hlt q0 q1
        obtain ⟨xp, xd, _⟩ := FM.out L[k] (List.getElem_mem hlt)
        have OTk := OT.out g k hlt
        obtain ⟨⟨q, v⟩, hqv⟩ : ∃ z, L[k] = z := ⟨_, rfl⟩
        rw [hqv] at d0 d1 xp xd OTk
        simp only at d0 d1 xp xd OTk
        have hp2 := xp.1
        have hlt' : (k : Int) < (L.length : Int) := by omega
        have dq1 : Lw.fN p f / q ≤ Lw.fN p f := Nat.div_le_self _ _
        obtain ⟨W, hW⟩ : ∃ W, wr.alloc (.cells #[.int .i64 (q : Int), .int .i64 (v : Int)] 139) = W := ⟨_, rfl⟩
        have B0 := show W.heap[wr.heap.size]? = some (.cells #[.int .i64 (q : Int), .int .i64 (v : Int)] 139 (0, 0)) from hW ▸ Lw.blk_new _ _ _
        have m0 := Lw.blk_cell B0 0; have m1 := Lw.blk_cell B0 1
        simp at m0 m1
        have hBW : Below wr.heap.size wr W := by rw [← hW]; exact Lw.balloc (Below.refl _ _) _
        have hWq : wr.heap.size < W.heap.size := by rw [← hW]; simp
        have HW := Lib.hid hW
        have hBWa := Lw.bt (Lw.bt hB hZ) hBW
        have j0 : W.cell? ⟨w1.heap.size, 0, none⟩ = some (.int .i64 p) := (hBWa.cell (p := ⟨w1.heap.size, 0, none⟩) hw2).trans k0
        have j1 : W.cell? ⟨w1.heap.size, 1, none⟩ = some (.int .i64 S) := (hBWa.cell (p := ⟨w1.heap.size, 1, none⟩) hw2).trans k1
        have j2 : W.cell? ⟨w1.heap.size, 2, none⟩ = some (.slice A n c) := (hBWa.cell (p := ⟨w1.heap.size, 2, none⟩) hw2).trans k2
        have hw3 : w1.heap.size < W.heap.size := by have := hBWa.size; omega
        have PG := PW.out g (Lw.fN p f / q) _ (Below.drew (Lw.bt hB2 hBWa)) (by omega)
        have TD : (S - 1).tdiv (q : Int) = ((Lw.fN p f / q : Nat) : Int) := by
          rw [← hN, Int.tdiv_eq_ediv_of_nonneg (by omega), Int.natCast_ediv]
        have qz : ¬ (q : Int) = 0 := by omega
        have qn : ¬ q = 0 := by omega
        have we : IntKind.i64.wrap (S - 1) = S - 1 := by rw [IntKind.wrap_i64]; omega
        have fl := FL.out
        rw [mv.out] at PG
        replace PG := Lib.hid PG
        generalize ((Lw.fAb F).pow (Lw.memOf F g) (Lw.fN p f / q)).1 = x at *
        have OTk := Lib.hid OTk
        generalize Lw.fN p f / q = t at *
        have TD := TD
        have tt : t ≤ 4096 := by omega
        have wt : IntKind.i64.wrap (t : Int) = (t : Int) := by rw [IntKind.wrap_i64]; omega
        clear hW B0 hqv hq q0 q1 hlp OT PL FM OI MV B3 B4 had xp xd dq1 PW
        cases hflag : Lw.okG F g (L.take k) with
        | true =>
          rw [hflag] at OTk
          go_wp2_with fail
          rw [HW.out]
          go_wp2_with fail
          refine wp_region_held_drew (S := Lw.Sm W) (by kernel_rfl) (Lw.sm_drew W) (fun hHeld => ?_)
          (refine Lw.take1 (i := 0) (v := ?_) rfl (by kernel_rfl) (by kernel_rfl) (by kernel_rfl) (fun _ _ _ h => h) (Or.inl ⟨by rfl, ?_⟩) (by assumption) ?_; rotate_left 1; (focus (intro wS hSw; obtain ⟨hS1, hS2, hS3, hS4⟩ := hSw; go_simp <;> with_reducible rfl)); (try simp only [Act.put, List.setIfInBounds_toArray, List.set_cons_zero, List.set_cons_succ]))
          (refine Lw.take1 (i := 1) (v := ?_) rfl (by kernel_rfl) (by kernel_rfl) (by kernel_rfl) (fun _ _ _ h => h) (Or.inl ⟨by rfl, ?_⟩) (by assumption) ?_; rotate_left 1; (focus (intro wS hSw; obtain ⟨hS1, hS2, hS3, hS4⟩ := hSw; go_simp <;> with_reducible rfl)); (try simp only [Act.put, List.setIfInBounds_toArray, List.set_cons_zero, List.set_cons_succ]))
          (refine Lw.take1 (i := 2) (v := ?_) rfl (by kernel_rfl) (by kernel_rfl) (by kernel_rfl) (fun _ _ _ h => h) (Or.inl ⟨by rfl, ?_⟩) (by assumption) ?_; rotate_left 1; (focus (intro wS hSw; obtain ⟨hS1, hS2, hS3, hS4⟩ := hSw; go_simp <;> with_reducible rfl)); (try simp only [Act.put, List.setIfInBounds_toArray, List.set_cons_zero, List.set_cons_succ]))
          (refine Lw.take1 (i := 3) (v := ?_) rfl (by kernel_rfl) (by kernel_rfl) (by kernel_rfl) (fun _ _ _ h => h) (Or.inl ⟨by rfl, ?_⟩) (by assumption) ?_; rotate_left 1; (focus (intro wS hSw; obtain ⟨hS1, hS2, hS3, hS4⟩ := hSw; go_simp <;> with_reducible rfl)); (try simp only [Act.put, List.setIfInBounds_toArray, List.set_cons_zero, List.set_cons_succ]))
          (refine Lw.take1 (i := 4) (v := ?_) rfl (by kernel_rfl) (by kernel_rfl) (by kernel_rfl) (fun _ _ _ h => h) (Or.inl ⟨by rfl, ?_⟩) (by assumption) ?_; rotate_left 1; (focus (intro wS hSw; obtain ⟨hS1, hS2, hS3, hS4⟩ := hSw; go_simp <;> with_reducible rfl)); (try simp only [Act.put, List.setIfInBounds_toArray, List.set_cons_zero, List.set_cons_succ]))
          (refine Lw.take1 (i := 5) (v := ?_) rfl (by kernel_rfl) (by kernel_rfl) (by kernel_rfl) (fun _ _ _ h => h) (Or.inl ⟨by rfl, ?_⟩) (by assumption) ?_; rotate_left 1; (focus (intro wS hSw; obtain ⟨hS1, hS2, hS3, hS4⟩ := hSw; go_simp <;> with_reducible rfl)); (try simp only [Act.put, List.setIfInBounds_toArray, List.set_cons_zero, List.set_cons_succ]))
          (refine Lw.take1 (i := 6) (v := ?_) rfl (by kernel_rfl) (by kernel_rfl) (by kernel_rfl) (fun _ _ _ h => h) (Or.inl ⟨by rfl, ?_⟩) (by assumption) ?_; rotate_left 1; (focus (intro wS hSw; obtain ⟨hS1, hS2, hS3, hS4⟩ := hSw; go_simp <;> with_reducible rfl)); (try simp only [Act.put, List.setIfInBounds_toArray, List.set_cons_zero, List.set_cons_succ]))
          (refine Lw.take1 (i := 7) (v := ?_) rfl (by kernel_rfl) (by kernel_rfl) (by kernel_rfl) (fun _ _ _ h => h) (Or.inl ⟨by rfl, ?_⟩) (by assumption) ?_; rotate_left 1; (focus (intro wS hSw; obtain ⟨hS1, hS2, hS3, hS4⟩ := hSw; go_simp <;> with_reducible rfl)); (try simp only [Act.put, List.setIfInBounds_toArray, List.set_cons_zero, List.set_cons_succ]))
          (refine Lw.take1 (i := 8) (v := ?_) rfl (by kernel_rfl) (by kernel_rfl) (by kernel_rfl) (fun _ _ _ h => h) (Or.inl ⟨by rfl, ?_⟩) (by assumption) ?_; rotate_left 1; (focus (intro wS hSw; obtain ⟨hS1, hS2, hS3, hS4⟩ := hSw; go_simp <;> with_reducible rfl)); (try simp only [Act.put, List.setIfInBounds_toArray, List.set_cons_zero, List.set_cons_succ]))
          (refine Lw.take1 (i := 9) (v := ?_) rfl (by kernel_rfl) (by kernel_rfl) (by kernel_rfl) (fun _ _ _ h => h) (Or.inl ⟨by rfl, ?_⟩) (by assumption) ?_; rotate_left 1; (focus (intro wS hSw; obtain ⟨hS1, hS2, hS3, hS4⟩ := hSw; go_simp <;> with_reducible rfl)); (try simp only [Act.put, List.setIfInBounds_toArray, List.set_cons_zero, List.set_cons_succ]))
          (refine wpAnyH_ready (rs := [10]) (by kernel_rfl) (by simp) ?_; refine Lw.cons1 (i := 10) rfl (fun K hK => ?_) AllReadyH.nil; go_simp; go_at_call 94; (with_reducible refine (PG.out).mono ?_); rintro e wx ⟨rfl, hbx⟩; refine hK.out _ _ ?_ (fun hHeld => ?_); (focus exact Lw.sm_keep (Lw.sm_drew W) hbx); clear hK K; (try simp only [Act.put, List.setIfInBounds_toArray, List.set_cons_zero, List.set_cons_succ]))
          have hS := Lw.sm_keep (Lw.sm_drew W) hbx
          (refine Lw.take1 (i := 11) (v := ?_) rfl (by kernel_rfl) (by kernel_rfl) (by kernel_rfl) (fun _ _ _ h => h) (Or.inl ⟨by rfl, ?_⟩) (by assumption) ?_; rotate_left 1; (focus (intro wS hSw; obtain ⟨hS1, hS2, hS3, hS4⟩ := hSw; go_simp <;> with_reducible rfl)); (try simp only [Act.put, List.setIfInBounds_toArray, List.set_cons_zero, List.set_cons_succ]))
          (refine Lw.take1 (i := 12) (v := ?_) rfl (by kernel_rfl) (by kernel_rfl) (by kernel_rfl) (fun _ _ _ h => h) (Or.inl ⟨by rfl, ?_⟩) (by assumption) ?_; rotate_left 1; (focus (intro wS hSw; obtain ⟨hS1, hS2, hS3, hS4⟩ := hSw; go_simp <;> with_reducible rfl)); (try simp only [Act.put, List.setIfInBounds_toArray, List.set_cons_zero, List.set_cons_succ]))
          (refine Lw.take1 (i := 13) (v := ?_) rfl (by kernel_rfl) (by kernel_rfl) (by kernel_rfl) (fun _ _ _ h => h) (Or.inl ⟨by rfl, ?_⟩) (by assumption) ?_; rotate_left 1; (focus (intro wS hSw; obtain ⟨hS1, hS2, hS3, hS4⟩ := hSw; go_simp <;> with_reducible rfl)); (try simp only [Act.put, List.setIfInBounds_toArray, List.set_cons_zero, List.set_cons_succ]))
          refine wpAnyH_done (by kernel_rfl) ?_ _
          go_wp2_with fail
          go_roundw
          case rel => exact ⟨k + 1, by go_num, by omega, by rw [OTk.out]; by_cases hx : x = 1 <;> simp [hx, bne], Lw.bt (Lw.bt hZ hBW) (Lw.sm_bel hS)⟩
          case measure => simp [intOf]; omega
        | false =>
          rw [hflag] at OTk
          go_wp2_with fail
          rw [HW.out]
          go_wp2_with fail
          refine wp_region_held_drew (S := Lw.Sm W) (by kernel_rfl) (Lw.sm_drew W) (fun hHeld => ?_)
          (refine Lw.take1 (i := 0) (v := ?_) rfl (by kernel_rfl) (by kernel_rfl) (by kernel_rfl) (fun _ _ _ h => h) (Or.inl ⟨by rfl, ?_⟩) (by assumption) ?_; rotate_left 1; (focus (intro wS hSw; obtain ⟨hS1, hS2, hS3, hS4⟩ := hSw; go_simp <;> with_reducible rfl)); (try simp only [Act.put, List.setIfInBounds_toArray, List.set_cons_zero, List.set_cons_succ]))
          (refine Lw.take1 (i := 1) (v := ?_) rfl (by kernel_rfl) (by kernel_rfl) (by kernel_rfl) (fun _ _ _ h => h) (Or.inl ⟨by rfl, ?_⟩) (by assumption) ?_; rotate_left 1; (focus (intro wS hSw; obtain ⟨hS1, hS2, hS3, hS4⟩ := hSw; go_simp <;> with_reducible rfl)); (try simp only [Act.put, List.setIfInBounds_toArray, List.set_cons_zero, List.set_cons_succ]))
          (refine Lw.take1 (i := 2) (v := undef) rfl (by kernel_rfl) (by kernel_rfl) (by kernel_rfl) (fun _ _ _ h => h) (Or.inr ⟨by rfl, rfl⟩) (by assumption) ?_; (try simp only [Act.put, List.setIfInBounds_toArray, List.set_cons_zero, List.set_cons_succ]))
          (refine Lw.take1 (i := 3) (v := undef) rfl (by kernel_rfl) (by kernel_rfl) (by kernel_rfl) (fun _ _ _ h => h) (Or.inr ⟨by rfl, rfl⟩) (by assumption) ?_; (try simp only [Act.put, List.setIfInBounds_toArray, List.set_cons_zero, List.set_cons_succ]))
          (refine Lw.take1 (i := 4) (v := undef) rfl (by kernel_rfl) (by kernel_rfl) (by kernel_rfl) (fun _ _ _ h => h) (Or.inr ⟨by rfl, rfl⟩) (by assumption) ?_; (try simp only [Act.put, List.setIfInBounds_toArray, List.set_cons_zero, List.set_cons_succ]))
          (refine Lw.take1 (i := 5) (v := undef) rfl (by kernel_rfl) (by kernel_rfl) (by kernel_rfl) (fun _ _ _ h => h) (Or.inr ⟨by rfl, rfl⟩) (by assumption) ?_; (try simp only [Act.put, List.setIfInBounds_toArray, List.set_cons_zero, List.set_cons_succ]))
          (refine Lw.take1 (i := 6) (v := undef) rfl (by kernel_rfl) (by kernel_rfl) (by kernel_rfl) (fun _ _ _ h => h) (Or.inr ⟨by rfl, rfl⟩) (by assumption) ?_; (try simp only [Act.put, List.setIfInBounds_toArray, List.set_cons_zero, List.set_cons_succ]))
          (refine Lw.take1 (i := 7) (v := undef) rfl (by kernel_rfl) (by kernel_rfl) (by kernel_rfl) (fun _ _ _ h => h) (Or.inr ⟨by rfl, rfl⟩) (by assumption) ?_; (try simp only [Act.put, List.setIfInBounds_toArray, List.set_cons_zero, List.set_cons_succ]))
          (refine Lw.take1 (i := 8) (v := undef) rfl (by kernel_rfl) (by kernel_rfl) (by kernel_rfl) (fun _ _ _ h => h) (Or.inr ⟨by rfl, rfl⟩) (by assumption) ?_; (try simp only [Act.put, List.setIfInBounds_toArray, List.set_cons_zero, List.set_cons_succ]))
          (refine Lw.take1 (i := 9) (v := undef) rfl (by kernel_rfl) (by kernel_rfl) (by kernel_rfl) (fun _ _ _ h => h) (Or.inr ⟨by rfl, rfl⟩) (by assumption) ?_; (try simp only [Act.put, List.setIfInBounds_toArray, List.set_cons_zero, List.set_cons_succ]))
          (refine Lw.take1 (i := 10) (v := undef) rfl (by kernel_rfl) (by kernel_rfl) (by kernel_rfl) (fun _ _ _ h => h) (Or.inr ⟨by rfl, rfl⟩) (by assumption) ?_; (try simp only [Act.put, List.setIfInBounds_toArray, List.set_cons_zero, List.set_cons_succ]))
          (refine Lw.take1 (i := 11) (v := undef) rfl (by kernel_rfl) (by kernel_rfl) (by kernel_rfl) (fun _ _ _ h => h) (Or.inr ⟨by rfl, rfl⟩) (by assumption) ?_; (try simp only [Act.put, List.setIfInBounds_toArray, List.set_cons_zero, List.set_cons_succ]))
          (refine Lw.take1 (i := 12) (v := ?_) rfl (by kernel_rfl) (by kernel_rfl) (by kernel_rfl) (fun _ _ _ h => h) (Or.inl ⟨by rfl, ?_⟩) (by assumption) ?_; rotate_left 1; (focus (intro wS hSw; obtain ⟨hS1, hS2, hS3, hS4⟩ := hSw; go_simp <;> with_reducible rfl)); (try simp only [Act.put, List.setIfInBounds_toArray, List.set_cons_zero, List.set_cons_succ]))
          (refine Lw.take1 (i := 13) (v := ?_) rfl (by kernel_rfl) (by kernel_rfl) (by kernel_rfl) (fun _ _ _ h => h) (Or.inl ⟨by rfl, ?_⟩) (by assumption) ?_; rotate_left 1; (focus (intro wS hSw; obtain ⟨hS1, hS2, hS3, hS4⟩ := hSw; go_simp <;> with_reducible rfl)); (try simp only [Act.put, List.setIfInBounds_toArray, List.set_cons_zero, List.set_cons_succ]))
          refine wpAnyH_done (by kernel_rfl) ?_ _
          go_wp2_with fail
          go_roundw
          case rel => exact ⟨k + 1, by go_num, by omega, by rw [OTk.out]; rfl, Lw.bt (Lw.bt hZ hBW) (Lw.sm_bel (Lw.sm_drew W))⟩
          case measure => simp [intOf]; omega
      · have hkl : k = L.length := by omega
        have ek : L.take k = L := List.take_of_length_le (by omega)
        rw [ek]
        have oi := OI.out g
        by_cases hG : Lw.GenF F g
        · have egb : g = b := by
            rcases Nat.lt_or_ge g b with h | h
            · exact absurd hG (B4.out g g1 h)
            · omega
          have hflag := oi.2 hG
          have EGB := Lib.hid egb
          have hkl' : ¬ (k : Int) < (L.length : Int) := by omega
          rw [hflag]
          clear OT PL FM OI MV B3 B4 PW oi egb ek
          go_wp2_with fail
          go_ret2
          exact ⟨by rw [← EGB.out]; rfl, Lw.bt hB2 (Lw.bt hB hZ)⟩
        · have gb : g < b := by
            rcases Nat.lt_or_ge g b with h | h
            · exact h
            · exact absurd ((show b = g by omega) ▸ B3.out) hG
          have hflag : Lw.okG F g L = false := by
            cases hh : Lw.okG F g L with
            | false => rfl
            | true => exact absurd (oi.1 hh) hG
          have hkl' : ¬ (k : Int) < (L.length : Int) := by omega
          rw [hflag]
          clear OT PL FM OI MV B3 B4 PW oi ek hG
          go_wp2_with fail
          go_roundw
          case rel => exact ⟨g + 1, by go_num, by omega, by omega, Lw.bt hB hZ⟩
          case measure => simp [intOf]; omega
end Go.Proofs.Ytjhjppaabmbbbaa
