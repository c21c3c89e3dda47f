/- Gates: rows of four numbers; what is wrong with them; what they are worth. -/
import Derived.Test.YtlgegdmnbhoepaaPly
import Derived.Test.YtlgegdmnbhoepaaApp
import Derived.Test.YtlgegdmnbhoepaaOpen
import Derived.Test.YtlgegdmnbhoepaaRegS
namespace Lw
open Go Go.RowKit
structure GateT where
  K : Int
  A : Int
  B : Int
  N : Int
def GateT.cs (s : GateT) : List Value := [.int .i64 s.K, .int .i64 s.A, .int .i64 s.B, .int .i64 s.N]
def gatesV (l : List GateT) : List Value := l.flatMap GateT.cs
theorem gatesV_length (l : List GateT) : (gatesV l).length = l.length * 4 := by
  induction l with
  | nil => rfl
  | cons x l ih => simp only [gatesV, List.flatMap_cons, List.length_append, List.length_cons, GateT.cs, List.length_nil] at *; omega
theorem gatesV_get : ∀ {l : List GateT} {i : Nat} (h : i < l.length), (gatesV l)[i * 4 + 0]? = some (.int .i64 l[i].K) ∧ (gatesV l)[i * 4 + 1]? = some (.int .i64 l[i].A) ∧ (gatesV l)[i * 4 + 2]? = some (.int .i64 l[i].B) ∧ (gatesV l)[i * 4 + 3]? = some (.int .i64 l[i].N)
  | x :: l, 0, _ => by simp [gatesV, GateT.cs]
  | x :: l, i + 1, h => by
    have ih := gatesV_get (l := l) (i := i) (by simpa using h)
    have e : gatesV (x :: l) = x.cs ++ gatesV l := by simp [gatesV]
    have hl : x.cs.length = 4 := rfl
    rw [e, List.getElem?_append_right (by omega), List.getElem?_append_right (by omega), List.getElem?_append_right (by omega), List.getElem?_append_right (by omega), hl]
    simp only [List.getElem_cons_succ]
    rw [show (i + 1) * 4 + 0 - 4 = i * 4 + 0 from by omega, show (i + 1) * 4 + 1 - 4 = i * 4 + 1 from by omega, show (i + 1) * 4 + 2 - 4 = i * 4 + 2 from by omega, show (i + 1) * 4 + 3 - 4 = i * 4 + 3 from by omega]
    exact ih
theorem Rd.at4 {w : World} {n k : Nat} {A : Option Addr} {xs : List Value} {x y z u : Value} (h : Rd w 4 A n xs) (hk : k < n) (h0 : xs[k * 4 + 0]? = some x) (h1 : xs[k * 4 + 1]? = some y) (h2 : xs[k * 4 + 2]? = some z) (h3 : xs[k * 4 + 3]? = some u) :
    ∃ ad, A = some ad ∧ ad.block < w.heap.size ∧ w.cell? (ad.add (k * 4)) = some x ∧ w.cell? ⟨(ad.add (k * 4)).block, (ad.add (k * 4)).off + 1, none⟩ = some y ∧ w.cell? ⟨(ad.add (k * 4)).block, (ad.add (k * 4)).off + 2, none⟩ = some z ∧ w.cell? ⟨(ad.add (k * 4)).block, (ad.add (k * 4)).off + 3, none⟩ = some u := by
  obtain ⟨ad, e, hb, hc⟩ := h.at_ hk
  refine ⟨ad, e, hb, ?_, ?_, ?_, ?_⟩
  · have := hc 0 _ h0; rwa [add_zero'] at this
  · have := hc 1 _ h1; rwa [add_succ'] at this
  · have := hc 2 _ h2; rwa [add_succ'] at this
  · have := hc 3 _ h3; rwa [add_succ'] at this
/-- the code of a gate -/
def gateE (p : Int) (i m : Nat) (g : GateT) : Int :=
  if g.K = 1 then (if 0 ≤ g.A ∧ g.A < m then 0 else 3) else if g.K = 2 then (if 0 ≤ g.N ∧ g.N < p then 0 else 2) else if g.K = 3 ∨ g.K = 4 then (if (0 ≤ g.A ∧ g.A < i) ∧ 0 ≤ g.B ∧ g.B < i then 0 else 3) else 6
/-- the first code -/
def gsE (p : Int) (m : Nat) (gs : List GateT) : Nat → Int
  | 0 => 0
  | k + 1 => if gsE p m gs k = 0 then gateE p k m (gs.getD k ⟨0, 0, 0, 0⟩) else gsE p m gs k
theorem gsE_stop {p : Int} {m : Nat} {gs : List GateT} {k : Nat} (h : ¬ gsE p m gs k = 0) : ∀ d, gsE p m gs (k + d) = gsE p m gs k
  | 0 => rfl
  | d + 1 => by
    show (if gsE p m gs (k + d) = 0 then _ else gsE p m gs (k + d)) = _
    rw [gsE_stop h d, if_neg h]
theorem gsE_next {p : Int} {m : Nat} {gs : List GateT} {k : Nat} (hk : k < gs.length) (h : gsE p m gs k = 0) : gsE p m gs (k + 1) = gateE p k m gs[k] := by
  show (if gsE p m gs k = 0 then gateE p k m (gs.getD k ⟨0, 0, 0, 0⟩) else _) = _
  rw [if_pos h, List.getD_eq_getElem?_getD, List.getElem?_eq_getElem hk]; rfl
theorem gsE_bad {p : Int} {m : Nat} {gs : List GateT} {k : Nat} (hk : k < gs.length) (h : gsE p m gs k = 0) (h2 : ¬ gateE p k m gs[k] = 0) : gsE p m gs gs.length = gateE p k m gs[k] := by
  have h3 := gsE_next hk h
  obtain ⟨d, hd⟩ : ∃ d, gs.length = k + 1 + d := ⟨gs.length - (k + 1), by omega⟩
  have h4 := gsE_stop (p := p) (m := m) (gs := gs) (k := k + 1) (by rw [h3]; exact h2) d
  rw [← hd, h3] at h4
  exact h4
theorem gsE_all {p : Int} {m : Nat} {gs : List GateT} (h : gsE p m gs gs.length = 0) : ∀ k (hk : k < gs.length), gsE p m gs k = 0 ∧ gateE p k m gs[k] = 0 := by
  have h1 : ∀ k, k ≤ gs.length → gsE p m gs k = 0 := fun k hk => Classical.byContradiction fun e => by
    have := gsE_stop e (gs.length - k)
    rw [show k + (gs.length - k) = gs.length by omega, h] at this
    exact e this.symm
  intro k hk
  exact ⟨h1 k (by omega), by rw [← gsE_next hk (h1 k (by omega))]; exact h1 (k + 1) (by omega)⟩
def clrE (p : Int) (gs : List GateT) (ins : List Int) : Int := if pprE p = 0 then (if 60 < gs.length ∨ 60 < ins.length then 1 else if outR p ins = true then 2 else gsE p ins.length gs gs.length) else pprE p
/-- what a gate is worth -/
def valG (p : Int) (ins l : List Int) (g : GateT) : Int := if g.K = 1 then ins.getD g.A.toNat 0 else if g.K = 3 then (l.getD g.A.toNat 0 + l.getD g.B.toNat 0) % p else if g.K = 4 then l.getD g.A.toNat 0 * l.getD g.B.toNat 0 % p else g.N
def clrL (p : Int) (ins : List Int) (gs : List GateT) : Nat → List Int
  | 0 => []
  | k + 1 => clrL p ins gs k ++ [valG p ins (clrL p ins gs k) (gs.getD k ⟨0, 0, 0, 0⟩)]
theorem clrL_len {p : Int} {ins : List Int} {gs : List GateT} : ∀ k, (clrL p ins gs k).length = k
  | 0 => rfl
  | k + 1 => by unfold clrL; rw [List.length_append, clrL_len k]; rfl
theorem getD_bd' {p : Int} (hp : 0 < p) {a : List Int} (ha : ∀ x ∈ a, 0 ≤ x ∧ x < p) (i : Nat) : 0 ≤ a.getD i 0 ∧ a.getD i 0 < p := by
  rw [List.getD_eq_getElem?_getD]
  by_cases hi : i < a.length
  · rw [List.getElem?_eq_getElem hi]; exact ha _ (List.getElem_mem hi)
  · rw [List.getElem?_eq_none (by omega)]; exact ⟨Int.le_refl _, hp⟩
theorem clrL_bd {p : Int} (hp : 0 < p) {ins : List Int} {gs : List GateT} {m : Nat} (hi : ∀ x ∈ ins, 0 ≤ x ∧ x < p) (h : ∀ k (hk : k < gs.length), gateE p k m gs[k] = 0) : ∀ k, k ≤ gs.length → ∀ x ∈ clrL p ins gs k, 0 ≤ x ∧ x < p
  | 0, _, x, hx => by cases hx
  | k + 1, hk, x, hx => by
    unfold clrL at hx
    rcases List.mem_append.1 hx with hx | hx
    · exact clrL_bd hp hi h k (by omega) x hx
    · have hg := h k (by omega)
      simp only [List.mem_singleton] at hx
      rw [List.getD_eq_getElem?_getD, List.getElem?_eq_getElem (show k < gs.length by omega)] at hx
      rw [hx, Option.getD_some]
      unfold valG
      generalize gs[k] = g at *
      split
      · exact getD_bd' hp hi _
      · split
        · exact ⟨Int.emod_nonneg _ (by omega), Int.emod_lt_of_pos _ hp⟩
        · split
          · exact ⟨Int.emod_nonneg _ (by omega), Int.emod_lt_of_pos _ hp⟩
          · rename_i k1 k3 k4
            unfold gateE at hg
            rw [if_neg k1] at hg
            by_cases k2 : g.K = 2
            · rw [if_pos k2] at hg
              by_cases hn : 0 ≤ g.N ∧ g.N < p
              · exact hn
              · rw [if_neg hn] at hg; cases hg
            · rw [if_neg k2, if_neg (by omega)] at hg; cases hg
theorem list4 : ∀ {L : List (List Value)}, (∀ vs ∈ L, All2 [IsI .i64, IsI .i64, IsI .i64, IsI .i64] vs) → ∃ T : List GateT, L = T.map GateT.cs
  | [], _ => ⟨[], rfl⟩
  | vs :: L, h => by
    obtain ⟨T, hT⟩ := list4 (L := L) fun z hz => h z (by simp [hz])
    have h0 := h vs (by simp)
    cases h0 with | cons a h1 => cases h1 with | cons b h2 => cases h2 with | cons c h3 => cases h3 with | cons d h4 => cases h4 with | nil =>
      obtain ⟨n0, rfl, w0⟩ := a
      obtain ⟨n1, rfl, w1⟩ := b
      obtain ⟨n2, rfl, w2⟩ := c
      obtain ⟨n3, rfl, w3⟩ := d
      exact ⟨⟨n0, n1, n2, n3⟩ :: T, by simp [hT, GateT.cs]⟩
theorem IsSl.gates {w : World} {A : Option Addr} {n c : Nat} (h : IsSl w [IsI .i64, IsI .i64, IsI .i64, IsI .i64] A n c) : ∃ gs : List GateT, Rd w 4 A n (gatesV gs) := by
  obtain ⟨L, _, h2, R⟩ := h.list (by decide)
  obtain ⟨T, hT⟩ := list4 h2
  refine ⟨T, ?_⟩
  rw [hT] at R
  have : gatesV T = (T.map GateT.cs).flatten := by unfold gatesV; rw [List.flatMap_def]
  rw [this]; exact R
end Lw
set_option linter.unusedVariables false
set_option linter.unusedSimpArgs false
namespace Go.Proofs.Ytlgegdmnbhoepaa
open Go.RowKit
set_option maxHeartbeats 1000000 in
theorem prt_idx (A : Option Addr) (n c b : Nat) (p : Int) (zs : List Int) (w : World) (R : Lw.Rd w 1 A n (Lw.intsV .i64 zs)) (hn : n ≤ 9223372036854775807) (hb : w.cell? ⟨b, 0, none⟩ = some (.int .i64 p)) :
    Calls Try.prog 107 #[.slice A n c, .func (.func 127) #[] #[.pointer (some ⟨b, 0, none⟩)]] w (Lw.IdxT (Lw.outR p zs) w) := by
  have R := Lib.hid R
  have l1 : zs.length = n := by have := R.out.1; simpa [Lw.intsV] using this
  have L := Lib.hid l1
  clear l1
  go_enter Try.func107, Try.ntmps107
  go_wp2
  go_loop [5, 8] (fun x i => ∃ k : Nat, i = .int .i64 (k : Int) ∧ k ≤ n ∧ Hid (Lw.outR p (zs.take k) = false)) (fun _ i => n - (intOf i).toNat)
  case atStart => exact ⟨0, rfl, by omega, rfl⟩
  case round =>
    obtain ⟨k, rfl, k1, T⟩ := hrel
    by_cases hlt : k < n
    · have hl : k < zs.length := by rw [L.out]; exact hlt
      obtain ⟨ad, rfl, had, hcell⟩ := R.out.at1 hlt (Lw.intsV_get hl)
      have N := Lib.hid (Lw.any_take (p := fun x => decide (x < 0) || decide (p ≤ x)) hl T.out)
      have D := Lib.hid (Lw.any_at (p := fun x : Int => decide (x < 0) || decide (p ≤ x)) hl)
      obtain ⟨x, hx⟩ : ∃ x, zs[k] = x := ⟨_, rfl⟩
      rw [hx] at hcell N D
      clear hx
      rcases (show x < 0 ∨ (0 ≤ x ∧ p ≤ x) ∨ (0 ≤ x ∧ x < p) by omega) with h0 | ⟨h0, h1⟩ | ⟨h0, h1⟩
      · have D1 : Hid (Lw.outR p zs = true) := D.out (by simp [h0])
        clear N D
        go_wp2
        go_ret
        exact ⟨_, rfl, rfl, .inr ⟨D1.out, by omega⟩⟩
      · have D1 : Hid (Lw.outR p zs = true) := D.out (by simp [h1])
        clear N D
        go_wp2
        go_ret
        exact ⟨_, rfl, rfl, .inr ⟨D1.out, by omega⟩⟩
      · have N1 : Hid (Lw.outR p (zs.take (k + 1)) = false) := N.out (by simp; omega)
        clear N D
        go_wp2
        go_round
        case rel => exact ⟨k + 1, by go_num, by omega, N1⟩
        case measure => simp [intOf]; omega
    · have hk : zs.take k = zs := List.take_of_length_le (by rw [L.out]; omega)
      have E : Hid (Lw.outR p zs = false) := by have := T.out; rwa [hk] at this
      clear hk
      go_wp2
      go_ret
      exact ⟨_, rfl, rfl, .inl ⟨E.out, rfl⟩⟩
theorem prt_con (A : Option Addr) (n c b : Nat) (p : Int) (zs : List Int) (w : World) (R : Lw.Rd w 1 A n (Lw.intsV .i64 zs)) (hn : n ≤ 9223372036854775807) (hb : w.cell? ⟨b, 0, none⟩ = some (.int .i64 p)) :
    Calls Try.prog 52 #[.slice A n c, .func (.func 127) #[] #[.pointer (some ⟨b, 0, none⟩)]] w fun e w' => e = .returned (.bool (Lw.outR p zs)) ∧ w = w' := by
  have X := Lib.hid (prt_idx A n c b p zs w R hn hb)
  clear R hb
  go_enter Try.func52, Try.ntmps52
  go_wp2_with (go_at_call 107; (with_reducible refine (X.out).mono ?_); rintro e w1 ⟨r, rfl, rfl, hr⟩)
  go_ret
  exact ⟨Lw.ret_bool (Lw.IdxT.ge hr), rfl⟩

theorem parts_out (p : Int) (A : Option Addr) (n c : Nat) (zs : List Int) (w : World) (R : Lw.Rd w 1 A n (Lw.intsV .i64 zs)) (hn : n ≤ 9223372036854775807) :
    Calls Try.prog 80 #[.int .i64 p, .slice A n c] w fun e w' => e = .returned (.bool (Lw.outR p zs)) ∧ Below w.heap.size w w' := by
  have X := Lib.hid (prt_con A n c w.heap.size p zs _ (R.alloc (.cells #[.int .i64 p] 2)) hn (by simp))
  clear R
  go_enter Try.func80, Try.ntmps80
  go_wp2_with (go_at_call 52; (with_reducible refine (X.out).mono ?_); rintro e w1 ⟨rfl, rfl⟩)
  go_ret
  exact ⟨rfl, Lw.balloc (Below.refl _ _) _⟩
theorem parts_ahead (k : Int) (i b : Nat) (w : World) (hb : w.cell? ⟨b, 0, none⟩ = some (.int .i64 (i : Int))) :
    Calls Try.prog 173 #[.int .i64 k, .pointer (some ⟨b, 0, none⟩)] w fun e w' => e = .returned (.bool (decide (0 ≤ k) && decide (k < (i : Int)))) ∧ w = w' := by
  by_cases h1 : 0 ≤ k
  · by_cases h2 : k < (i : Int)
    · rw [decide_eq_true h1, decide_eq_true h2]
      go_enter Try.func173, Try.ntmps173
      go_wp2
      go_ret
      exact ⟨rfl, rfl⟩
    · rw [decide_eq_true h1, decide_eq_false h2]
      go_enter Try.func173, Try.ntmps173
      go_wp2
      go_ret
      exact ⟨rfl, rfl⟩
  · rw [decide_eq_false h1]
    go_enter Try.func173, Try.ntmps173
    go_wp2
    go_ret
    exact ⟨rfl, rfl⟩
set_option maxRecDepth 100000 in
set_option maxHeartbeats 4000000 in
theorem parts_gate (p : Int) (i m : Nat) (g : Lw.GateT) (w : World) :
    Calls Try.prog 132 #[.int .i64 p, .int .i64 (i : Int), .agg #[.int .i64 g.K, .int .i64 g.A, .int .i64 g.B, .int .i64 g.N], .int .i64 (m : Int)] w fun e w' => e = .returned (.int .i64 (Lw.gateE p i m g)) ∧ Below w.heap.size w w' := by
  obtain ⟨K, A, B, N⟩ := g
  have GE : Hid (Lw.gateE p i m ⟨K, A, B, N⟩ = if K = 1 then (if 0 ≤ A ∧ A < m then 0 else 3) else if K = 2 then (if 0 ≤ N ∧ N < p then 0 else 2) else if K = 3 ∨ K = 4 then (if (0 ≤ A ∧ A < i) ∧ 0 ≤ B ∧ B < i then 0 else 3) else 6) := rfl
  generalize Lw.gateE p i m ⟨K, A, B, N⟩ = E at *
  simp only at *
  have OUT := Lib.hid (fun W R => parts_out p (some ⟨w.heap.size + 1 + 1, 0, none⟩) 1 1 [N] W R (by omega))
  by_cases k1 : K = 1
  · subst k1
    rcases (by omega : A < 0 ∨ (¬ A < 0 ∧ (m : Int) ≤ A) ∨ (¬ A < 0 ∧ ¬ (m : Int) ≤ A)) with h | ⟨h, h2⟩ | ⟨h, h2⟩
    · have EE : Hid (E = 3) := by rw [GE.out, if_pos rfl, if_neg (by omega)]; rfl
      clear GE OUT
      go_enter Try.func132, Try.ntmps132
      go_wp2_with fail
      go_ret
      exact ⟨Lw.ret_int EE.out.symm, by (repeat (first | exact Below.refl _ _ | refine Lw.bt ?_ (by assumption) | refine Lw.balloc ?_ _ | refine Lw.bdrewN ?_ _ | refine Below.drew ?_ | refine Lw.bset ?_ (by first | (simp; done) | (simp; omega) | omega) _))⟩
    · have EE : Hid (E = 3) := by rw [GE.out, if_pos rfl, if_neg (by omega)]; rfl
      clear GE OUT
      go_enter Try.func132, Try.ntmps132
      go_wp2_with fail
      go_ret
      exact ⟨Lw.ret_int EE.out.symm, by (repeat (first | exact Below.refl _ _ | refine Lw.bt ?_ (by assumption) | refine Lw.balloc ?_ _ | refine Lw.bdrewN ?_ _ | refine Below.drew ?_ | refine Lw.bset ?_ (by first | (simp; done) | (simp; omega) | omega) _))⟩
    · have EE : Hid (E = 0) := by rw [GE.out, if_pos rfl, if_pos (by omega)]; rfl
      clear GE OUT
      go_enter Try.func132, Try.ntmps132
      go_wp2_with fail
      go_ret
      exact ⟨Lw.ret_int EE.out.symm, by (repeat (first | exact Below.refl _ _ | refine Lw.bt ?_ (by assumption) | refine Lw.balloc ?_ _ | refine Lw.bdrewN ?_ _ | refine Below.drew ?_ | refine Lw.bset ?_ (by first | (simp; done) | (simp; omega) | omega) _))⟩
  by_cases k2 : K = 2
  · subst k2
    have O2 : Lw.outR p [N] = decide (¬ (0 ≤ N ∧ N < p)) := by
      unfold Lw.outR; simp [List.any_cons]
      by_cases h1 : N < 0 <;> by_cases h2 : p ≤ N <;> simp [h1, h2] <;> omega
    rw [O2] at OUT
    by_cases h : 0 ≤ N ∧ N < p
    · have EE : Hid (E = 0) := by rw [GE.out, if_neg (by decide), if_pos rfl, if_pos h]; rfl
      have d : decide (¬ (0 ≤ N ∧ N < p)) = false := by simpa using h
      rw [d] at OUT
      clear GE O2 k1 h d
      go_enter Try.func132, Try.ntmps132
      go_wp2_with fail
      refine (OUT.out _ (by exact Lw.Rd.lit (Lw.blk_new' (by simp) _ _) rfl rfl)).mono ?_
      rintro e w1 ⟨rfl, hb1⟩
      go_wp2_with fail
      go_ret
      exact ⟨Lw.ret_int EE.out.symm, by (repeat (first | exact Below.refl _ _ | refine Lw.bt ?_ (by assumption) | refine Lw.balloc ?_ _ | refine Lw.bdrewN ?_ _ | refine Below.drew ?_ | refine Lw.bset ?_ (by first | (simp; done) | (simp; omega) | omega) _))⟩
    · have EE : Hid (E = 2) := by rw [GE.out, if_neg (by decide), if_pos rfl, if_neg h]; rfl
      have d : decide (¬ (0 ≤ N ∧ N < p)) = true := decide_eq_true h
      rw [d] at OUT
      clear GE O2 k1 h d
      go_enter Try.func132, Try.ntmps132
      go_wp2_with fail
      refine (OUT.out _ (by exact Lw.Rd.lit (Lw.blk_new' (by simp) _ _) rfl rfl)).mono ?_
      rintro e w1 ⟨rfl, hb1⟩
      go_wp2_with fail
      go_ret
      exact ⟨Lw.ret_int EE.out.symm, by (repeat (first | exact Below.refl _ _ | refine Lw.bt ?_ (by assumption) | refine Lw.balloc ?_ _ | refine Lw.bdrewN ?_ _ | refine Below.drew ?_ | refine Lw.bset ?_ (by first | (simp; done) | (simp; omega) | omega) _))⟩
  clear OUT
  by_cases k34 : K = 3 ∨ K = 4
  · have ko : Hid (E = if (0 ≤ A ∧ A < i) ∧ 0 ≤ B ∧ B < i then 0 else 3) := by rw [GE.out, if_neg k1, if_neg k2, if_pos k34]; rfl
    have l0 : ((w.alloc (.cells #[.int .i64 (i : Int)] 3)).alloc (.cells #[.int .i64 K, .int .i64 A, .int .i64 B, .int .i64 N] 126)).cell? ⟨w.heap.size, 0, none⟩ = some (.int .i64 (i : Int)) := by
      simp
    have AH := Lib.hid (fun k => parts_ahead k i w.heap.size _ l0)
    clear GE k1 k2 l0
    rcases (by omega : A < 0 ∨ (¬ A < 0 ∧ (i : Int) ≤ A) ∨ (¬ A < 0 ∧ ¬ (i : Int) ≤ A ∧ B < 0) ∨ (¬ A < 0 ∧ ¬ (i : Int) ≤ A ∧ ¬ B < 0 ∧ (i : Int) ≤ B) ∨ (¬ A < 0 ∧ ¬ (i : Int) ≤ A ∧ ¬ B < 0 ∧ ¬ (i : Int) ≤ B)) with h | ⟨h, h2⟩ | ⟨h, h2, h3⟩ | ⟨h, h2, h3, h4⟩ | ⟨h, h2, h3, h4⟩
    · have EE : Hid (E = 3) := by rw [ko.out, if_neg (by omega)]; rfl
      have bA : (decide (0 ≤ A) && decide (A < (i : Int))) = false := by (by_cases q : 0 ≤ A); (rw [decide_eq_false (show ¬ A < (i : Int) by omega), Bool.and_false]); (rw [decide_eq_false q, Bool.false_and])
      have HA := Lib.hid (bA ▸ AH.out A)
      clear ko AH bA
      rcases k34 with k | k <;> subst k
      all_goals
        go_enter Try.func132, Try.ntmps132
        go_wp2_with (go_at_call 173; (with_reducible refine (HA.out).mono ?_); rintro e w' ⟨rfl, rfl⟩)
        go_ret
        exact ⟨Lw.ret_int EE.out.symm, by (repeat (first | exact Below.refl _ _ | refine Lw.bt ?_ (by assumption) | refine Lw.balloc ?_ _ | refine Lw.bdrewN ?_ _ | refine Below.drew ?_ | refine Lw.bset ?_ (by first | (simp; done) | (simp; omega) | omega) _))⟩
    · have EE : Hid (E = 3) := by rw [ko.out, if_neg (by omega)]; rfl
      have bA : (decide (0 ≤ A) && decide (A < (i : Int))) = false := by (by_cases q : 0 ≤ A); (rw [decide_eq_false (show ¬ A < (i : Int) by omega), Bool.and_false]); (rw [decide_eq_false q, Bool.false_and])
      have HA := Lib.hid (bA ▸ AH.out A)
      clear ko AH bA
      rcases k34 with k | k <;> subst k
      all_goals
        go_enter Try.func132, Try.ntmps132
        go_wp2_with (go_at_call 173; (with_reducible refine (HA.out).mono ?_); rintro e w' ⟨rfl, rfl⟩)
        go_ret
        exact ⟨Lw.ret_int EE.out.symm, by (repeat (first | exact Below.refl _ _ | refine Lw.bt ?_ (by assumption) | refine Lw.balloc ?_ _ | refine Lw.bdrewN ?_ _ | refine Below.drew ?_ | refine Lw.bset ?_ (by first | (simp; done) | (simp; omega) | omega) _))⟩
    · have EE : Hid (E = 3) := by rw [ko.out, if_neg (by omega)]; rfl
      have bA : (decide (0 ≤ A) && decide (A < (i : Int))) = true := by rw [decide_eq_true (by omega), decide_eq_true (by omega)]; rfl
      have HA := Lib.hid (bA ▸ AH.out A)
      have bB : (decide (0 ≤ B) && decide (B < (i : Int))) = false := by (by_cases q : 0 ≤ B); (rw [decide_eq_false (show ¬ B < (i : Int) by omega), Bool.and_false]); (rw [decide_eq_false q, Bool.false_and])
      have HB := Lib.hid (bB ▸ AH.out B)
      clear ko AH bA bB
      rcases k34 with k | k <;> subst k
      all_goals
        go_enter Try.func132, Try.ntmps132
        go_wp2_with (first | (go_at_call 173; (with_reducible refine (HA.out).mono ?_); rintro e w' ⟨rfl, rfl⟩) | (go_at_call 173; (with_reducible refine (HB.out).mono ?_); rintro e w' ⟨rfl, rfl⟩))
        go_ret
        exact ⟨Lw.ret_int EE.out.symm, by (repeat (first | exact Below.refl _ _ | refine Lw.bt ?_ (by assumption) | refine Lw.balloc ?_ _ | refine Lw.bdrewN ?_ _ | refine Below.drew ?_ | refine Lw.bset ?_ (by first | (simp; done) | (simp; omega) | omega) _))⟩
    · have EE : Hid (E = 3) := by rw [ko.out, if_neg (by omega)]; rfl
      have bA : (decide (0 ≤ A) && decide (A < (i : Int))) = true := by rw [decide_eq_true (by omega), decide_eq_true (by omega)]; rfl
      have HA := Lib.hid (bA ▸ AH.out A)
      have bB : (decide (0 ≤ B) && decide (B < (i : Int))) = false := by (by_cases q : 0 ≤ B); (rw [decide_eq_false (show ¬ B < (i : Int) by omega), Bool.and_false]); (rw [decide_eq_false q, Bool.false_and])
      have HB := Lib.hid (bB ▸ AH.out B)
      clear ko AH bA bB
      rcases k34 with k | k <;> subst k
      all_goals
        go_enter Try.func132, Try.ntmps132
        go_wp2_with (first | (go_at_call 173; (with_reducible refine (HA.out).mono ?_); rintro e w' ⟨rfl, rfl⟩) | (go_at_call 173; (with_reducible refine (HB.out).mono ?_); rintro e w' ⟨rfl, rfl⟩))
        go_ret
        exact ⟨Lw.ret_int EE.out.symm, by (repeat (first | exact Below.refl _ _ | refine Lw.bt ?_ (by assumption) | refine Lw.balloc ?_ _ | refine Lw.bdrewN ?_ _ | refine Below.drew ?_ | refine Lw.bset ?_ (by first | (simp; done) | (simp; omega) | omega) _))⟩
    · have EE : Hid (E = 0) := by rw [ko.out, if_pos (by omega)]; rfl
      have bA : (decide (0 ≤ A) && decide (A < (i : Int))) = true := by rw [decide_eq_true (by omega), decide_eq_true (by omega)]; rfl
      have HA := Lib.hid (bA ▸ AH.out A)
      have bB : (decide (0 ≤ B) && decide (B < (i : Int))) = true := by rw [decide_eq_true (by omega), decide_eq_true (by omega)]; rfl
      have HB := Lib.hid (bB ▸ AH.out B)
      clear ko AH bA bB
      rcases k34 with k | k <;> subst k
      all_goals
        go_enter Try.func132, Try.ntmps132
        go_wp2_with (first | (go_at_call 173; (with_reducible refine (HA.out).mono ?_); rintro e w' ⟨rfl, rfl⟩) | (go_at_call 173; (with_reducible refine (HB.out).mono ?_); rintro e w' ⟨rfl, rfl⟩))
        go_ret
        exact ⟨Lw.ret_int EE.out.symm, by (repeat (first | exact Below.refl _ _ | refine Lw.bt ?_ (by assumption) | refine Lw.balloc ?_ _ | refine Lw.bdrewN ?_ _ | refine Below.drew ?_ | refine Lw.bset ?_ (by first | (simp; done) | (simp; omega) | omega) _))⟩
  · have EE : Hid (E = 6) := by rw [GE.out, if_neg k1, if_neg k2, if_neg k34]; rfl
    have k3 : ¬ K = 3 := fun e => k34 (.inl e)
    have k4 : ¬ K = 4 := fun e => k34 (.inr e)
    have b1 : (K == 1) = false := by simpa using k1
    have b2 : (K == 2) = false := by simpa using k2
    have b3 : (K == 3) = false := by simpa using k3
    have b4 : (K == 4) = false := by simpa using k4
    clear GE k34
    go_enter Try.func132, Try.ntmps132
    go_wp2_with fail
    go_ret
    exact ⟨Lw.ret_int EE.out.symm, by (repeat (first | exact Below.refl _ _ | refine Lw.bt ?_ (by assumption) | refine Lw.balloc ?_ _ | refine Lw.bdrewN ?_ _ | refine Below.drew ?_ | refine Lw.bset ?_ (by first | (simp; done) | (simp; omega) | omega) _))⟩
end Go.Proofs.Ytlgegdmnbhoepaa
