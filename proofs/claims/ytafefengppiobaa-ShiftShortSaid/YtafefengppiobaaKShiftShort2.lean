/-
  bits.Len64, shift.list; the maps of rows.
  shift.least walked.
-/
import Derived.Test.YtafefengppiobaaKShiftShort0
import Derived.Test.YtafefengppiobaaKShiftShort1
import Derived.Maps.OwnSet
import Derived.Lib.ItoaNum
import Derived.Deep.DeepCutAuto
namespace Lw
open Go Go.RowKit
theorem top_bits {x t : Nat} (h1 : 1 ≤ t) (h2 : 2 ^ (t - 1) ≤ x) (h3 : x < 2 ^ t) : x.testBit (t - 1) = true ∧ ∀ j, t ≤ j → x.testBit j = false := by
  obtain ⟨k, rfl⟩ : ∃ k, t = k + 1 := ⟨t - 1, by omega⟩
  rw [Nat.add_sub_cancel] at *
  refine ⟨?_, fun j hj => Nat.testBit_lt_two_pow (Nat.lt_of_lt_of_le h3 (Nat.pow_le_pow_right (by omega) hj))⟩
  rw [Nat.testBit_eq_decide_div_mod_eq]
  have hp : 0 < 2 ^ k := Nat.pow_pos (by omega)
  have e : x / 2 ^ k = 1 := by
    apply Nat.div_eq_of_lt_le
    · omega
    · rw [Nat.pow_succ] at h3; omega
  rw [e]; rfl
theorem xor_top {x m t : Nat} (h1 : 1 ≤ t) (hx : x.testBit (t - 1) = true) (hm : m.testBit (t - 1) = true) (hx2 : ∀ j, t ≤ j → x.testBit j = false) (hm2 : ∀ j, t ≤ j → m.testBit j = false) : x ^^^ m < x := by
  have h2 : x ^^^ m < 2 ^ (t - 1) := Nat.lt_pow_two_of_testBit _ fun i hi => by
    rw [Nat.testBit_xor]
    by_cases e : i = t - 1
    · rw [e, hx, hm]; rfl
    · rw [hx2 i (by omega), hm2 i (by omega)]; rfl
  have h3 : 2 ^ (t - 1) ≤ x := Nat.ge_two_pow_of_testBit hx
  omega
/-- a value reads as itself -/
def Rw (v : Value) : Option (DataW Value × List MemPlace) := some (.held v, [])
theorem rw_held {v u : Value} {ps : List MemPlace} (h : Rw v = some (.held u, ps)) : v = u := DataW.held.inj (Prod.mk.inj (Option.some.inj h)).1
theorem litK_ne {a b : Int} (h : a ≠ b) : (Lit.int .i64 a) ≠ .int .i64 b := fun e => by injection e with _ e; exact h e
theorem wfK {t : Nat} (h : t ≤ 64) : (Lit.int .i64 (t : Int)).wf = true := by
  simp [Lit.wf, IntKind.min, IntKind.max, IntKind.bits, IntKind.signed]
  omega
/-- what the two maps say -/
def MapR (D1 D2 : DataW Value) (rows : RowsM) : Prop := ∀ t : Nat, t ≤ 64 → (rows t = none → Maps.has D1 (.int .i64 (t : Int)) = false) ∧ ∀ m w, rows t = some (m, w) → Maps.has D1 (.int .i64 (t : Int)) = true ∧ D1.atKey (.int .i64 (t : Int)) (.held (.int .u64 0)) = .held (.int .u64 (m : Int)) ∧ D2.atKey (.int .i64 (t : Int)) (.held (.bool false)) = .held (.bool w)
theorem MapR.put {D1 D2 : DataW Value} {rows : RowsM} (h : MapR D1 D2 rows) (h1 : Maps.IsMap D1) (h2 : Maps.IsMap D2) {t m : Nat} {w : Bool} (hl : WideAt.IsKeyLit (.int .i64 (t : Int))) : MapR (D1.put (.int .i64 (t : Int)) (.held (.int .u64 (m : Int)))) (D2.put (.int .i64 (t : Int)) (.held (.bool w))) (putR rows t m w) := by
  intro s hs
  by_cases e : s = t
  · subst e
    unfold putR
    rw [if_pos rfl]
    refine ⟨fun h => (by cases h), fun m' w' hm => ?_⟩
    simp only [Option.some.injEq, Prod.mk.injEq] at hm
    obtain ⟨rfl, rfl⟩ := hm
    exact ⟨Maps.has_put_same h1 hl _, Maps.atKey_put_same h1 hl _ _, Maps.atKey_put_same h2 hl _ _⟩
  · unfold putR
    rw [if_neg e]
    obtain ⟨a, b⟩ := h s hs
    have ne : (Lit.int .i64 (s : Int)) ≠ .int .i64 (t : Int) := litK_ne (by omega)
    refine ⟨fun h => by rw [Maps.has_put_other ne]; exact a h, fun m' w' hm => ?_⟩
    obtain ⟨b1, b2, b3⟩ := b m' w' hm
    exact ⟨by rw [Maps.has_put_other ne]; exact b1, by rw [Maps.atKey_put_other ne]; exact b2, by rw [Maps.atKey_put_other ne]; exact b3⟩
theorem par_odd {m T : Nat} {y : Nat → Bool} (h : ∀ k, T.testBit k = y k) : par m y = oddN (m &&& T) := by
  unfold par oddN
  refine xorT_congr fun k _ => ?_
  rw [Nat.testBit_and, h k]
end Lw
set_option linter.unusedVariables false
set_option linter.unusedSimpArgs false
namespace Go.Proofs.Ytafefengppiobaa
open Go.RowKit
theorem len64 (x : Nat) (hx : x < 18446744073709551616) (h0 : x ≠ 0) (w : World) : Calls Try.prog 20 #[.int .u64 (x : Int)] w fun e w' => ∃ t : Nat, e = .returned (.int .i64 (t : Int)) ∧ w = w' ∧ 1 ≤ t ∧ t ≤ 64 ∧ x.testBit (t - 1) = true ∧ ∀ j, t ≤ j → x.testBit j = false := by
  refine (Any.bits_Len64 Try.len64 (x : Int) w (by omega) (by omega)).mono ?_
  rintro e w' ⟨rfl, rfl⟩
  rw [Int.toNat_natCast]
  obtain ⟨a, b, c⟩ := Lib.bitLenAux_bounds 64 x hx h0
  have d : Lib.bitLenAux 64 x ≤ 64 := by
    apply Classical.byContradiction
    intro hc
    have : 2 ^ 64 ≤ 2 ^ (Lib.bitLenAux 64 x - 1) := Nat.pow_le_pow_right (by omega) (by omega)
    omega
  obtain ⟨e1, e2⟩ := Lw.top_bits a b c
  exact ⟨Lib.bitLen x, rfl, rfl, a, d, e1, e2⟩
set_option maxHeartbeats 1000000 in
theorem shift_list (x n : Nat) (hx : x < 18446744073709551616) (hn : n ≤ 64) (w : World) : Calls Try.prog 21 #[.int .u64 (x : Int), .int .i64 (n : Int)] w (Lw.BolF n ((List.range n).map x.testBit) w) := by
  have NX : Hid (∀ k, Lw.bsV ((List.range (k + 1)).map x.testBit) = Lw.bsV ((List.range k).map x.testBit) ++ [.bool (x.testBit k)]) := fun k => by rw [List.range_succ, List.map_append, List.map_singleton, Lw.bsV_app]
  have XB : Hid (∀ k, (bits .and .u64 ((x : Int) / 2 ^ k) 1 == 1) = x.testBit k) := fun k => by
    have e : ((x : Int) / 2 ^ k) = ((x / 2 ^ k : Nat) : Int) := by rw [Int.natCast_ediv, Int.natCast_pow]; rfl
    have e2 := u64_and_nat (x / 2 ^ k) 1 (Lw.div_lt64 hx) (by decide)
    rw [e, show (1 : Int) = ((1 : Nat) : Int) from rfl, e2, Nat.testBit_eq_decide_div_mod_eq, Nat.and_one_is_mod, Bool.eq_iff_iff]
    simp
    omega
  have Z0 : Hid ((List.range 0).map x.testBit = []) := rfl
  go_enter Try.func21, Try.ntmps21
  go_wp2
  go_loopw [5, 8] (fun l i wr => ∃ k : Nat, i = .int .i64 (k : Int) ∧ k ≤ n ∧ wr.ownsRow w.heap.size 4 1 l k (Lw.bsV ((List.range k).map x.testBit)) ∧ Below w.heap.size w wr) (fun _ i _ => n - (intOf i).toNat)
  case atStart => exact ⟨0, rfl, by omega, World.ownsRow_nil _ _ _ _, Below.refl _ _⟩
  case round =>
    obtain ⟨k, rfl, hk, own, hB⟩ := hrel
    have hkm : k < n ∨ ¬ k < n := by omega
    have hz := hB.size
    rcases hkm with hlt | hlt
    · have hlt' : (k : Int) < (n : Int) := by omega
      have N1 := NX.out k
      have X1 := XB.out k
      obtain ⟨q, hq⟩ : ∃ q, x.testBit k = q := ⟨_, rfl⟩
      rw [hq] at N1 X1
      have N1 := Lib.hid N1
      have OWN := Lib.hid own
      clear own hq
      go_wp2_with (at_builtin; go_loud (refine Lw.wpList_app elBol rfl _ _ rfl rfl (OWN.out.alloc _) rfl (by first | exact Lw.Rd.nil _ _ _ | exact Lw.Rd.lit (Lw.blk_new' (by simp) _ _) rfl rfl | exact Lw.Rd.lit (Lw.blk_alloc (Lw.blk_new' (by simp) _ _) _) rfl rfl) (Lw.oneb _) (by omega) (Lw.balloc hB _) (Nat.le_refl _) (by simp; omega) ?_); intro v2 w2 own2 hb2 _ _)
      have O2 := Lib.hid own2
      clear own2
      go_wp2
      go_roundw
      case rel => exact ⟨k + 1, by go_num, by omega, by rw [N1.out]; exact O2.out, hb2⟩
      case measure => simp [intOf]; omega
    · have hlt' : ¬ (k : Int) < (n : Int) := by omega
      have hkn : k = n := by omega
      subst hkn
      obtain ⟨D, e, rfl, _⟩ := Lw.ownsForm own
      have RR := Lib.hid (Lw.Rd.of_own own)
      clear own
      go_wp2
      go_ret
      exact ⟨D, e, rfl, RR.out, hB⟩
end Go.Proofs.Ytafefengppiobaa
set_option linter.unusedVariables false
set_option linter.unusedSimpArgs false
namespace Go.Proofs.Ytafefengppiobaa
open Go.RowKit
theorem lawK : Maps.Keyed Try.prog 3 := Maps.int_keyed Try.underlying3
theorem zeroU (w : World) : (zeroValue 38).run Try.prog w = .ok (.int .u64 0) w := by kernel_rfl
theorem zeroB (w : World) : (zeroValue 4).run Try.prog w = .ok (.bool false) w := by kernel_rfl
theorem keyK {t : Nat} (h : t ≤ 64) : keyOf Try.prog 3 (.int .i64 (t : Int)) = some (.int .i64 (t : Int)) := Maps.keyOf_int_mk Try.underlying3 (Lw.wfK h)
/-- the two maps are there -/
def LsM (mb wb n : Nat) (rows : Lw.RowsM) (w : World) : Prop := ∃ D1 D2 : DataW Value, w.ownsMap Try.prog 3 Lw.Rw mb n D1 ∧ w.ownsMap Try.prog 3 Lw.Rw wb n D2 ∧ Lw.MapR D1 D2 rows
theorem LsM.mono {mb wb n n' : Nat} {rows : Lw.RowsM} {w : World} (h : LsM mb wb n rows w) (hn : n ≤ n') : LsM mb wb n' rows w := by
  obtain ⟨D1, D2, h1, h2, h3⟩ := h
  exact ⟨D1, D2, h1.mono hn, h2.mono hn, h3⟩
theorem lsm_none {mb wb n t : Nat} {rows : Lw.RowsM} {w : World} (h : LsM mb wb n rows w) (ht : t ≤ 64) (hr : rows t = none) : ∃ v, (Instr.lookup 54 (.map (some mb)) (.int .i64 (t : Int)) true).run Try.prog w = .ok (.tuple #[v, .bool false]) w := by
  obtain ⟨D1, D2, h1, h2, h3⟩ := h
  obtain ⟨v, ps, hrun, hv⟩ := h1.look_ok lawK Try.underlying54 (zeroU w) (zd := .held (.int .u64 0)) (zp := []) rfl (keyK ht)
  rw [(h3 t ht).1 hr] at hrun
  exact ⟨v, hrun⟩
theorem lsm_some {mb wb n t m : Nat} {b : Bool} {rows : Lw.RowsM} {w : World} (h : LsM mb wb n rows w) (ht : t ≤ 64) (hr : rows t = some (m, b)) : (Instr.lookup 54 (.map (some mb)) (.int .i64 (t : Int)) true).run Try.prog w = .ok (.tuple #[.int .u64 (m : Int), .bool true]) w ∧ (Instr.lookup 55 (.map (some wb)) (.int .i64 (t : Int)) false).run Try.prog w = .ok (.bool b) w := by
  obtain ⟨D1, D2, h1, h2, h3⟩ := h
  obtain ⟨a1, a2, a3⟩ := (h3 t ht).2 m b hr
  obtain ⟨v, ps, hrun, hv⟩ := h1.look_ok lawK Try.underlying54 (zeroU w) (zd := .held (.int .u64 0)) (zp := []) rfl (keyK ht)
  obtain ⟨v', ps', hrun', hv'⟩ := h2.lookup lawK Try.underlying55 (zeroB w) (zd := .held (.bool false)) (zp := []) rfl (keyK ht)
  rw [a1] at hrun
  rw [a2] at hv
  rw [a3] at hv'
  rw [Lw.rw_held hv] at hrun
  rw [Lw.rw_held hv'] at hrun'
  exact ⟨hrun, hrun'⟩
theorem lsm_put {mb wb n t m : Nat} {b : Bool} {rows : Lw.RowsM} {w : World} (h : LsM mb wb n rows w) (hne : mb ≠ wb) (ht : t ≤ 64) (hn : n < 1000) : ∃ w1 w2, (Instr.mapUpdate 54 (.map (some mb)) (.int .i64 (t : Int)) (.int .u64 (m : Int))).run Try.prog w = .ok () w1 ∧ (Instr.mapUpdate 55 (.map (some wb)) (.int .i64 (t : Int)) (.bool b)).run Try.prog w1 = .ok () w2 ∧ LsM mb wb (n + 1) (Lw.putR rows t m b) w2 ∧ w.grownBy w1 (some mb) ∧ w1.grownBy w2 (some wb) := by
  obtain ⟨D1, D2, h1, h2, h3⟩ := h
  obtain ⟨w1, r1, o1, g1⟩ := h1.update lawK Try.underlying54 (by unfold maxLen; omega) (keyK ht) (val := .int .u64 (m : Int)) (d := .held (.int .u64 (m : Int))) (ps := []) rfl
  have h2' := h2.kept g1 (by intro e; injection e with e; omega)
  obtain ⟨w2, r2, o2, g2⟩ := h2'.update lawK Try.underlying55 (by unfold maxLen; omega) (keyK ht) (val := .bool b) (d := .held (.bool b)) (ps := []) rfl
  have o1' := o1.kept g2 (by intro e; injection e with e; omega)
  exact ⟨w1, w2, r1, r2, ⟨_, _, o1', o2, h3.put h1.isMap h2.isMap (by first | exact WideAt.IsKeyLit.int | trivial | simp [WideAt.IsKeyLit] | constructor)⟩, g1, g2⟩
theorem LsM.drew {mb wb n : Nat} {rows : Lw.RowsM} {w : World} (h : LsM mb wb n rows w) : LsM mb wb n rows w.drew := by
  obtain ⟨D1, D2, h1, h2, h3⟩ := h
  exact ⟨D1, D2, h1.drew, h2.drew, h3⟩
theorem LsM.start (w : World) : LsM w.heap.size (w.heap.size + 1) 0 (fun _ => .none) ((w.alloc (.map #[] 0)).alloc (.map #[] 0)) := by
  have e : (w.alloc (.map #[] 0)).heap.size = w.heap.size + 1 := by simp
  refine ⟨.map [], .map [], (World.ownsMap_made w _ _ _).alloc _, by rw [← e]; exact World.ownsMap_made _ _ _ _, fun t ht => ⟨fun _ => rfl, fun m w h => by cases h⟩⟩
set_option maxRecDepth 100000 in
set_option maxHeartbeats 4000000 in
theorem shift_least (A : Option Addr) (N size c : Nat) (l : List Bool) (w : World) (R : Lw.Rd w 1 A N (Lw.bsV l)) (hN : N ≤ 64) (hs : size ≤ N) (hx : ∃ t, Lw.RuL l t size N) :
    Calls Try.prog 12 #[.slice A N c, .int .i64 (size : Int)] w fun e w' => ∃ rows, Lw.LsS l size N rows ∧ Lw.BolF size ((List.range size).map (Lw.tapF rows size)) w e w' := by
  obtain ⟨sol, hsol⟩ := hx
  have lb : l.length = N := by have := R.1; rw [Lw.bsV_length] at this; omega
  have R := Lib.hid R
  have LB := Lib.hid lb
  have SOL := Lib.hid hsol
  have PW := Lib.hid (fun k j => Lw.word_64 (bs := (Lw.pastL l k size).take j) (by rw [List.length_take, Lw.pastL_len]; omega))
  have PN := Lib.hid (fun k j h => Lw.pastB_next (l := l) (k := k) (size := size) (j := j) h)
  have PM := Lib.hid (fun k => Lw.past_mask l k size)
  have hmm := @run_makeMap Try.prog
  clear lb hsol
  go_enter Try.func12, Try.ntmps12
  go_wp2_with fail
  refine Lw.at_worldB (fun W0 hW0 => ?_)
  have hB0 : Below w.heap.size w W0 := by rw [hW0.out]; exact Lw.balloc (Lw.balloc (Below.refl _ _) _) _
  have M0 : LsM w.heap.size (w.heap.size + 1) 0 (fun _ => none) W0 := by rw [hW0.out]; exact LsM.start w
  clear hW0 hmm
  obtain ⟨mb, hmb⟩ : ∃ b, w.heap.size = b := ⟨_, rfl⟩
  obtain ⟨wb, hwb⟩ : ∃ b, mb + 1 = b := ⟨_, rfl⟩
  rw [hmb] at M0 ⊢
  rw [hwb] at M0 ⊢
  have HMB := Lib.hid hmb
  go_loopw [7] (fun i wr => ∃ (n : Nat) (rows : Lw.RowsM), i = .int .i64 (n : Int) ∧ size ≤ n ∧ n ≤ N ∧ Hid (Lw.LsS l size n rows) ∧ Hid (LsM mb wb n rows wr) ∧ Below w.heap.size w wr) (fun i _ => N - (intOf i).toNat)
  case atStart => exact ⟨size, fun _ => none, rfl, Nat.le_refl _, hs, Lw.LsS.start l size, M0.mono (Nat.zero_le _), hB0⟩
  case round =>
    obtain ⟨n, rows, rfl, hsn, hn, LS, M, hB⟩ := hrel
    have hnm : n < N ∨ ¬ n < N := by omega
    rcases hnm with hlt | hlt
    · have hlt' : (n : Int) < (N : Int) := by omega
      have hln : n < l.length := by rw [LB.out]; exact hlt
      obtain ⟨ad, rfl, had, ln⟩ := (R.out.below (Nat.le_refl _) hB).at1 hlt (Lw.bsV_get hln)
      rw [← Lw.lx_get hln] at ln
      go_wp2_with fail
      go_loop [8, 9] (fun x i => ∃ j : Nat, i = .int .i64 ((j : Int) + 1) ∧ j ≤ size ∧ x = .int .u64 ((Lw.wordN ((Lw.pastL l n size).take j) : Nat) : Int)) (fun _ i => size + 1 - (intOf i).toNat)
      case atStart => exact ⟨0, rfl, by omega, rfl⟩
      case round =>
        obtain ⟨j, rfl, hj, rfl⟩ := hrel
        have hjm : j < size ∨ ¬ j < size := by omega
        rcases hjm with hjl | hjl
        · have hjl' : (j : Int) + 1 ≤ (size : Int) := by omega
          have e1 : IntKind.i64.wrap ((n : Int) - ((j : Int) + 1)) = ((n - j - 1 : Nat) : Int) := by rw [IntKind.wrap_i64]; omega
          have e2 : IntKind.i64.wrap ((j : Int) + 1 - 1) = (j : Int) := by rw [IntKind.wrap_i64]; omega
          have e3 : IntKind.i64.wrap ((j : Int) + 1 + 1) = (j : Int) + 1 + 1 := by rw [IntKind.wrap_i64]; omega
          have hlj : n - j - 1 < l.length := by omega
          obtain ⟨ae, e4, hae, lj⟩ := (R.out.below (Nat.le_refl _) hB).at1 (show n - j - 1 < N by omega) (Lw.bsV_get hlj)
          injection e4 with e4
          subst e4
          have PX := PN.out n j hjl
          rw [Lw.lx_get hlj] at PX
          have wbd := PW.out n j
          have hij : ((n - j - 1 : Nat) : Int) < (N : Int) := by omega
          obtain ⟨b, hbb⟩ : ∃ b, l[n - j - 1] = b := ⟨_, rfl⟩
          rw [hbb] at lj PX
          clear hbb
          cases b with
          | true =>
            rw [if_pos rfl] at PX
            have PX := Lib.hid PX
            generalize Lw.wordN ((Lw.pastL l n size).take j) = x at *
            go_wp2
            refine ⟨⟨j + 1, by go_num, by omega, ?_⟩, by simp [intOf]; omega⟩
            rw [PX.out, Lw.sh_one (by omega), u64_or_nat _ _ wbd (Lw.pow_64 (by omega))]
          | false =>
            rw [if_neg (by decide), Nat.or_zero] at PX
            have PX := Lib.hid PX
            go_wp2
            go_round
            case rel => exact ⟨j + 1, by go_num, by omega, by rw [PX.out]⟩
            case measure => simp [intOf]; omega
        · have hjl' : ¬ (j : Int) + 1 ≤ (size : Int) := by omega
          have hje : (Lw.pastL l n size).take j = Lw.pastL l n size := List.take_of_length_le (by rw [Lw.pastL_len]; omega)
          have wbd := PW.out n j
          rw [hje] at wbd ⊢
          have RD0 := Lib.hid (Lw.RedS.start (rows := rows) (PM.out n) (by omega))
          generalize Lw.wordN (Lw.pastL l n size) = pv at *
          have en : IntKind.i64.wrap ((n : Int) + 1) = (n : Int) + 1 := by rw [IntKind.wrap_i64]; omega
          go_wp2_with fail
          go_loop [8, 10] (fun x b => ∃ (q : Nat) (bb : Bool), x = .int .u64 (q : Int) ∧ b = .bool bb ∧ q < 18446744073709551616 ∧ Hid (Lw.RedS rows l size n q bb)) (fun x _ => (intOf x).toNat)
          case atStart => exact ⟨pv, _, rfl, rfl, wbd, RD0⟩
          case round =>
            obtain ⟨q, bb, rfl, rfl, qb, RD⟩ := hrel
            by_cases hq : q = 0
            · subst hq
              have NX := Lib.hid (LS.out.drop RD.out SOL.out hlt hsn)
              have M2 := Lib.hid (M.out.mono (show n ≤ n + 1 by omega))
              go_wp2_with fail
              go_roundw
              case rel => exact ⟨n + 1, rows, by go_num, by omega, by omega, NX.out, M2.out, hB⟩
              case measure => simp [intOf]; omega
            · have hq' : ((q : Int) != 0) = true := by simp; omega
              have LE := Lib.hid (fun W => len64 q qb hq W)
              go_upto_region 14 with (go_at_call 20; (with_reducible refine (LE.out _).mono ?_); rintro e w' ⟨t, rfl, rfl, t1, t2, t3, t4⟩)
              cases hr : rows t with
              | none =>
                obtain ⟨v, hrun⟩ := lsm_none M.out t2 hr
                obtain ⟨w1, w2, r1, r2, M2, g1, g2⟩ := lsm_put (m := q) (b := bb) M.out (show mb ≠ wb by omega) t2 (by omega)
                have NX := Lib.hid (LS.out.put RD.out hsn hr t1 t3 t4)
                have M2 := Lib.hid M2
                have hmz : mb < wr.heap.size ∧ wb < wr.heap.size := by
                  obtain ⟨D1, D2, h1, h2, _⟩ := M.out
                  exact ⟨h1.lt, h2.lt⟩
                have hB2 := Lib.hid ((hB.grown g1 hB.size (fun k hk => by injection hk with hk; have := HMB.out; omega)).grown g2 (Nat.le_trans hB.size g1.size) (fun k hk => by injection hk with hk; have := HMB.out; omega))
                clear hr g1 g2
                go_wp2_with fail
                go_roundw
                case rel => exact ⟨n + 1, _, by go_num, by omega, by omega, NX.out, M2.out, hB2.out⟩
                case measure => simp [intOf]; omega
              | some mw =>
                obtain ⟨m, wv⟩ := mw
                obtain ⟨hr1, hr2⟩ := lsm_some M.out t2 hr
                obtain ⟨p1, p2, p3, p4⟩ := LS.out.top t m wv hr
                have mb64 : m < 18446744073709551616 := Nat.lt_pow_two_of_testBit (n := 64) _ fun i hi => p4 i (by omega)
                have ST := Lib.hid (RD.out.step hr LS.out.top)
                have XL := Lw.xor_top t1 t3 p3 t4 p4
                have XB : q ^^^ m < 18446744073709551616 := by omega
                have XE : bits .xor .u64 (q : Int) (m : Int) = ((q ^^^ m : Nat) : Int) := u64_xor_nat q m qb mb64
                clear hr p1 p2 p3 p4 t3 t4
                generalize q ^^^ m = q' at *
                go_wp2_with fail
                go_round
                case rel => exact ⟨q', _, rfl, rfl, XB, ST.out⟩
                case measure => simp [intOf]; omega
    · have hlt' : ¬ (n : Int) < (N : Int) := by omega
      have hne : n = N := by omega
      rw [hne] at LS M
      have TN : Hid (∀ i, Lw.tapF rows (i + 1) = fun k => if k = i then Lw.tapB rows (Lw.tapF rows i) i else Lw.tapF rows i k) := fun i => rfl
      have TH := Lib.hid (fun i => Lw.tapF_high rows i i (Nat.le_refl _))
      have LIN := Lib.hid (fun T (h1 : T < 18446744073709551616) W => shift_list T size h1 (by omega) W)
      go_wp2_with fail
      go_loopw [14, 74] (fun x i wr' => ∃ i' T d : Nat, i = .int .i64 (i' : Int) ∧ i' ≤ size ∧ x = .int .u64 (T : Int) ∧ T < 18446744073709551616 ∧ Hid (∀ k, T.testBit k = Lw.tapF rows i' k) ∧ wr' = wr.drewN d) (fun _ i _ => size - (intOf i).toNat)
      case atStart => exact ⟨0, 0, 0, rfl, by omega, rfl, by decide, fun k => by simp [Lw.tapF], rfl⟩
      case round =>
        obtain ⟨i, T, d, rfl, hi, rfl, hT, TT, rfl⟩ := hrel
        have him : i < size ∨ ¬ i < size := by omega
        rcases him with hil | hil
        · have hil' : (i : Int) < (size : Int) := by omega
          have e1 : IntKind.i64.wrap ((i : Int) + 1) = (i : Int) + 1 := by rw [IntKind.wrap_i64]; omega
          have ec : (((i + 1 : Nat)) : Int) = (i : Int) + 1 := by omega
          have MD : LsM mb wb N rows (wr.drewN d) := by
            obtain ⟨D1, D2, h1, h2, h3⟩ := M.out
            obtain ⟨es, ck, hb, Ft, hs', hD⟩ := h1
            obtain ⟨es2, ck2, hb2, Ft2, hs2, hD2⟩ := h2
            exact ⟨D1, D2, ⟨es, ck, hb, Ft, hs', hD⟩, ⟨es2, ck2, hb2, Ft2, hs2, hD2⟩, h3⟩
          cases hr : rows (i + 1) with
          | none =>
            obtain ⟨v, hrun⟩ := lsm_none MD (show i + 1 ≤ 64 by omega) hr
            have NT : Hid (∀ k, T.testBit k = Lw.tapF rows (i + 1) k) := fun k => by
              rw [TN.out i, TT.out k]
              show _ = if k = i then _ else _
              by_cases e : k = i
              · rw [if_pos e, e, TH.out i]; unfold Lw.tapB; rw [hr]
              · rw [if_neg e]
            rw [ec] at hrun
            clear hr
            go_wp2_with fail
            refine wp_region_held_drew (S := fun w' => True ∧ True ∧ True ∧ True) (by kernel_rfl) (by exact ⟨trivial, trivial, trivial, trivial⟩) (fun hHeld => ?_)
            (refine Lw.take1 (i := 0) (v := ?_) rfl (by kernel_rfl) (by kernel_rfl) (by kernel_rfl) (fun _ _ _ h => h) (Or.inl ⟨by rfl, ?_⟩) (by assumption) ?_; rotate_left 1; (focus (intro wS hSw; obtain ⟨hS1, hS2, hS3, hS4⟩ := hSw; go_simp <;> with_reducible rfl)); (try simp only [Act.put, List.setIfInBounds_toArray, List.set_cons_zero, List.set_cons_succ]))
            (refine Lw.take1 (i := 1) (v := ?_) rfl (by kernel_rfl) (by kernel_rfl) (by kernel_rfl) (fun _ _ _ h => h) (Or.inl ⟨by rfl, ?_⟩) (by assumption) ?_; rotate_left 1; (focus (intro wS hSw; obtain ⟨hS1, hS2, hS3, hS4⟩ := hSw; go_simp <;> with_reducible rfl)); (try simp only [Act.put, List.setIfInBounds_toArray, List.set_cons_zero, List.set_cons_succ]))
            (refine Lw.take1 (i := 2) (v := undef) rfl (by kernel_rfl) (by kernel_rfl) (by kernel_rfl) (fun _ _ _ h => h) (Or.inr ⟨by rfl, rfl⟩) (by assumption) ?_; (try simp only [Act.put, List.setIfInBounds_toArray, List.set_cons_zero, List.set_cons_succ]))
            (refine Lw.take1 (i := 3) (v := undef) rfl (by kernel_rfl) (by kernel_rfl) (by kernel_rfl) (fun _ _ _ h => h) (Or.inr ⟨by rfl, rfl⟩) (by assumption) ?_; (try simp only [Act.put, List.setIfInBounds_toArray, List.set_cons_zero, List.set_cons_succ]))
            (refine Lw.take1 (i := 4) (v := undef) rfl (by kernel_rfl) (by kernel_rfl) (by kernel_rfl) (fun _ _ _ h => h) (Or.inr ⟨by rfl, rfl⟩) (by assumption) ?_; (try simp only [Act.put, List.setIfInBounds_toArray, List.set_cons_zero, List.set_cons_succ]))
            (refine Lw.take1 (i := 5) (v := undef) rfl (by kernel_rfl) (by kernel_rfl) (by kernel_rfl) (fun _ _ _ h => h) (Or.inr ⟨by rfl, rfl⟩) (by assumption) ?_; (try simp only [Act.put, List.setIfInBounds_toArray, List.set_cons_zero, List.set_cons_succ]))
            (refine Lw.take1 (i := 6) (v := undef) rfl (by kernel_rfl) (by kernel_rfl) (by kernel_rfl) (fun _ _ _ h => h) (Or.inr ⟨by rfl, rfl⟩) (by assumption) ?_; (try simp only [Act.put, List.setIfInBounds_toArray, List.set_cons_zero, List.set_cons_succ]))
            (refine Lw.take1 (i := 7) (v := undef) rfl (by kernel_rfl) (by kernel_rfl) (by kernel_rfl) (fun _ _ _ h => h) (Or.inr ⟨by rfl, rfl⟩) (by assumption) ?_; (try simp only [Act.put, List.setIfInBounds_toArray, List.set_cons_zero, List.set_cons_succ]))
            (refine Lw.take1 (i := 8) (v := undef) rfl (by kernel_rfl) (by kernel_rfl) (by kernel_rfl) (fun _ _ _ h => h) (Or.inr ⟨by rfl, rfl⟩) (by assumption) ?_; (try simp only [Act.put, List.setIfInBounds_toArray, List.set_cons_zero, List.set_cons_succ]))
            (refine Lw.take1 (i := 9) (v := undef) rfl (by kernel_rfl) (by kernel_rfl) (by kernel_rfl) (fun _ _ _ h => h) (Or.inr ⟨by rfl, rfl⟩) (by assumption) ?_; (try simp only [Act.put, List.setIfInBounds_toArray, List.set_cons_zero, List.set_cons_succ]))
            (refine Lw.take1 (i := 10) (v := undef) rfl (by kernel_rfl) (by kernel_rfl) (by kernel_rfl) (fun _ _ _ h => h) (Or.inr ⟨by rfl, rfl⟩) (by assumption) ?_; (try simp only [Act.put, List.setIfInBounds_toArray, List.set_cons_zero, List.set_cons_succ]))
            (refine Lw.take1 (i := 11) (v := ?_) rfl (by kernel_rfl) (by kernel_rfl) (by kernel_rfl) (fun _ _ _ h => h) (Or.inl ⟨by rfl, ?_⟩) (by assumption) ?_; rotate_left 1; (focus (intro wS hSw; obtain ⟨hS1, hS2, hS3, hS4⟩ := hSw; go_simp <;> with_reducible rfl)); (try simp only [Act.put, List.setIfInBounds_toArray, List.set_cons_zero, List.set_cons_succ]))
            refine wpAnyH_done (by kernel_rfl) ?_ _
            go_wp2_with fail
            go_roundw
            case rel => exact ⟨i + 1, T, _, by go_num, by omega, rfl, hT, NT.out, by first | rfl | exact World.drewN_drewN _ _ _⟩
            case measure => simp [intOf]; omega
          | some mw =>
            obtain ⟨m, wv⟩ := mw
            obtain ⟨hr1, _⟩ := lsm_some MD (show i + 1 ≤ 64 by omega) hr
            obtain ⟨_, hr2⟩ := lsm_some MD.drew (show i + 1 ≤ 64 by omega) hr
            rw [ec] at hr1 hr2
            obtain ⟨p1, p2, p3, p4⟩ := LS.out.top _ m wv hr
            have mb64 : m < 18446744073709551616 := Nat.lt_pow_two_of_testBit (n := 64) _ fun i hi => p4 i (by omega)
            have TB : Lw.tapB rows (Lw.tapF rows i) i = (Lw.oddN (m &&& T) != wv) := by
              unfold Lw.tapB
              rw [hr]
              show (Lw.par m (Lw.tapF rows i) != wv) = _
              rw [Lw.par_odd TT.out]
            have NT := fun (k : Nat) => show Lw.tapF rows (i + 1) k = if k = i then (Lw.oddN (m &&& T) != wv) else T.testBit k from by
              rw [TN.out i, TT.out k, ← TB]
            have XA : bits .and .u64 (m : Int) (T : Int) = ((m &&& T : Nat) : Int) := u64_and_nat m T mb64 hT
            have XL : m &&& T < 18446744073709551616 := Nat.lt_of_le_of_lt Nat.and_le_left mb64
            have OD := Lib.hid (fun W => shift_odd (m &&& T) XL W)
            have NT := Lib.hid NT
            have T1 := TH.out i
            rw [← TT.out i] at T1
            have T1 := Lib.hid T1
            clear hr p1 p2 p3 p4 TB
            generalize m &&& T = X at *
            go_wp2_with fail
            refine wp_region_held_drew (S := fun w' => (Instr.lookup 55 (.map (some wb)) (.int .i64 ((i : Int) + 1)) false).run Try.prog w' = .ok (.bool wv) w' ∧ True ∧ True ∧ True) (by kernel_rfl) (by exact ⟨hr2, trivial, trivial, trivial⟩) (fun hHeld => ?_)
            (refine Lw.take1 (i := 0) (v := ?_) rfl (by kernel_rfl) (by kernel_rfl) (by kernel_rfl) (fun _ _ _ h => h) (Or.inl ⟨by rfl, ?_⟩) (by assumption) ?_; rotate_left 1; (focus (intro wS hSw; obtain ⟨hS1, hS2, hS3, hS4⟩ := hSw; go_simp <;> with_reducible rfl)); (try simp only [Act.put, List.setIfInBounds_toArray, List.set_cons_zero, List.set_cons_succ]))
            (refine Lw.take1 (i := 1) (v := ?_) rfl (by kernel_rfl) (by kernel_rfl) (by kernel_rfl) (fun _ _ _ h => h) (Or.inl ⟨by rfl, ?_⟩) (by assumption) ?_; rotate_left 1; (focus (intro wS hSw; obtain ⟨hS1, hS2, hS3, hS4⟩ := hSw; go_simp <;> with_reducible rfl)); (try simp only [Act.put, List.setIfInBounds_toArray, List.set_cons_zero, List.set_cons_succ]))
            (refine Lw.take1 (i := 2) (v := ?_) rfl (by kernel_rfl) (by kernel_rfl) (by kernel_rfl) (fun _ _ _ h => h) (Or.inl ⟨by rfl, ?_⟩) (by assumption) ?_; rotate_left 1; (focus (intro wS hSw; obtain ⟨hS1, hS2, hS3, hS4⟩ := hSw; go_simp <;> with_reducible rfl)); (try simp only [Act.put, List.setIfInBounds_toArray, List.set_cons_zero, List.set_cons_succ]))
            (refine Lw.take1 (i := 3) (v := ?_) rfl (by kernel_rfl) (by kernel_rfl) (by kernel_rfl) (fun _ _ _ h => h) (Or.inl ⟨by rfl, ?_⟩) (by assumption) ?_; rotate_left 1; (focus (intro wS hSw; obtain ⟨hS1, hS2, hS3, hS4⟩ := hSw; go_simp <;> with_reducible rfl)); (try simp only [Act.put, List.setIfInBounds_toArray, List.set_cons_zero, List.set_cons_succ]))
            (refine Lw.take1 (i := 4) (v := ?_) rfl (by kernel_rfl) (by kernel_rfl) (by kernel_rfl) (fun _ _ _ h => h) (Or.inl ⟨by rfl, ?_⟩) (by assumption) ?_; rotate_left 1; (focus (intro wS hSw; obtain ⟨hS1, hS2, hS3, hS4⟩ := hSw; go_simp <;> with_reducible rfl)); (try simp only [Act.put, List.setIfInBounds_toArray, List.set_cons_zero, List.set_cons_succ]))
            (refine Lw.take1 (i := 6) (v := ?_) rfl (by kernel_rfl) (by kernel_rfl) (by kernel_rfl) (fun _ _ _ h => h) (Or.inl ⟨by rfl, ?_⟩) (by assumption) ?_; rotate_left 1; (focus (intro wS hSw; obtain ⟨hS1, hS2, hS3, hS4⟩ := hSw; go_simp <;> with_reducible rfl)); (try simp only [Act.put, List.setIfInBounds_toArray, List.set_cons_zero, List.set_cons_succ]))
            (refine Lw.take1 (i := 7) (v := ?_) rfl (by kernel_rfl) (by kernel_rfl) (by kernel_rfl) (fun _ _ _ h => h) (Or.inl ⟨by rfl, ?_⟩) (by assumption) ?_; rotate_left 1; (focus (intro wS hSw; obtain ⟨hS1, hS2, hS3, hS4⟩ := hSw; go_simp <;> with_reducible rfl)); (try simp only [Act.put, List.setIfInBounds_toArray, List.set_cons_zero, List.set_cons_succ]))
            (refine Lw.take1 (i := 8) (v := ?_) rfl (by kernel_rfl) (by kernel_rfl) (by kernel_rfl) (fun _ _ _ h => h) (Or.inl ⟨by rfl, ?_⟩) (by assumption) ?_; rotate_left 1; (focus (intro wS hSw; obtain ⟨hS1, hS2, hS3, hS4⟩ := hSw; go_simp <;> with_reducible rfl)); (try simp only [Act.put, List.setIfInBounds_toArray, List.set_cons_zero, List.set_cons_succ]))
            (refine Lw.take1 (i := 9) (v := ?_) rfl (by kernel_rfl) (by kernel_rfl) (by kernel_rfl) (fun _ _ _ h => h) (Or.inl ⟨by rfl, ?_⟩) (by assumption) ?_; rotate_left 1; (focus (intro wS hSw; obtain ⟨hS1, hS2, hS3, hS4⟩ := hSw; go_simp <;> with_reducible rfl)); (try simp only [Act.put, List.setIfInBounds_toArray, List.set_cons_zero, List.set_cons_succ]))
            (refine wpAnyH_ready (rs := [5]) (by kernel_rfl) (by simp) ?_; refine Lw.cons1 (i := 5) rfl (fun K hK => ?_) AllReadyH.nil; go_simp; go_at_call 19; (with_reducible refine (OD.out _).mono ?_); rintro e w' ⟨rfl, rfl⟩; refine hK.out _ _ ?_ (fun hHeld => ?_); (focus exact ⟨hr2, trivial, trivial, trivial⟩); clear hK K; (try simp only [Act.put, List.setIfInBounds_toArray, List.set_cons_zero, List.set_cons_succ]))
            (refine Lw.take1 (i := 10) (v := ?_) rfl (by kernel_rfl) (by kernel_rfl) (by kernel_rfl) (fun _ _ _ h => h) (Or.inl ⟨by rfl, ?_⟩) (by assumption) ?_; rotate_left 1; (focus (intro wS hSw; obtain ⟨hS1, hS2, hS3, hS4⟩ := hSw; go_simp <;> with_reducible rfl)); (try simp only [Act.put, List.setIfInBounds_toArray, List.set_cons_zero, List.set_cons_succ]))
            (refine Lw.take1 (i := 11) (v := ?_) rfl (by kernel_rfl) (by kernel_rfl) (by kernel_rfl) (fun _ _ _ h => h) (Or.inl ⟨by rfl, ?_⟩) (by assumption) ?_; rotate_left 1; (focus (intro wS hSw; obtain ⟨hS1, hS2, hS3, hS4⟩ := hSw; go_simp <;> with_reducible rfl)); (try simp only [Act.put, List.setIfInBounds_toArray, List.set_cons_zero, List.set_cons_succ]))
            refine wpAnyH_done (by kernel_rfl) ?_ _
            generalize Lw.oddN X = o at *
            clear OD XA hr1 hr2 hHeld
            cases o with
            | true => cases wv with
              | true =>
                have NT2 : Hid (∀ k, T.testBit k = Lw.tapF rows (i + 1) k) := fun k => by
                  rw [NT.out k]
                  by_cases e : k = i
                  · rw [if_pos e, e, T1.out]; rfl
                  · rw [if_neg e]
                go_wp2_with fail
                go_roundw
                case rel => exact ⟨i + 1, T, d + 1, by go_num, by omega, rfl, hT, NT2.out, by first | rfl | simp [World.drewN]⟩
                case measure => simp [intOf]; omega

              | false =>
                have NT2 : Hid (∀ k, (T ||| 2 ^ i).testBit k = Lw.tapF rows (i + 1) k) := fun k => by
                  rw [NT.out k, Nat.testBit_or, Nat.testBit_two_pow]
                  by_cases e : k = i
                  · rw [if_pos e, e, T1.out]; simp
                  · rw [if_neg e, decide_eq_false (fun h => e h.symm), Bool.or_false]
                have hT2 : T ||| 2 ^ i < 18446744073709551616 := Nat.or_lt_two_pow (n := 64) hT (Lw.pow_64 (by omega))
                have XO : bits .or .u64 (T : Int) (IntKind.u64.wrap (2 ^ i)) = ((T ||| 2 ^ i : Nat) : Int) := by rw [Lw.sh_one (by omega), u64_or_nat _ _ hT (Lw.pow_64 (by omega))]
                generalize T ||| 2 ^ i = T' at *
                go_wp2_with fail
                go_roundw
                case rel => exact ⟨i + 1, T', d + 1, by go_num, by omega, by first | rfl | rw [XO], hT2, NT2.out, by first | rfl | simp [World.drewN]⟩
                case measure => simp [intOf]; omega

            | false => cases wv with
              | true =>
                have NT2 : Hid (∀ k, (T ||| 2 ^ i).testBit k = Lw.tapF rows (i + 1) k) := fun k => by
                  rw [NT.out k, Nat.testBit_or, Nat.testBit_two_pow]
                  by_cases e : k = i
                  · rw [if_pos e, e, T1.out]; simp
                  · rw [if_neg e, decide_eq_false (fun h => e h.symm), Bool.or_false]
                have hT2 : T ||| 2 ^ i < 18446744073709551616 := Nat.or_lt_two_pow (n := 64) hT (Lw.pow_64 (by omega))
                have XO : bits .or .u64 (T : Int) (IntKind.u64.wrap (2 ^ i)) = ((T ||| 2 ^ i : Nat) : Int) := by rw [Lw.sh_one (by omega), u64_or_nat _ _ hT (Lw.pow_64 (by omega))]
                generalize T ||| 2 ^ i = T' at *
                go_wp2_with fail
                go_roundw
                case rel => exact ⟨i + 1, T', d + 1, by go_num, by omega, by first | rfl | rw [XO], hT2, NT2.out, by first | rfl | simp [World.drewN]⟩
                case measure => simp [intOf]; omega

              | false =>
                have NT2 : Hid (∀ k, T.testBit k = Lw.tapF rows (i + 1) k) := fun k => by
                  rw [NT.out k]
                  by_cases e : k = i
                  · rw [if_pos e, e, T1.out]; rfl
                  · rw [if_neg e]
                go_wp2_with fail
                go_roundw
                case rel => exact ⟨i + 1, T, d + 1, by go_num, by omega, rfl, hT, NT2.out, by first | rfl | simp [World.drewN]⟩
                case measure => simp [intOf]; omega

        · have hil' : ¬ (i : Int) < (size : Int) := by omega
          have hie : i = size := by omega
          rw [hie] at TT
          have TF : Hid (T.testBit = Lw.tapF rows size) := funext TT.out
          have LL := LIN.out T hT
          rw [TF.out] at LL
          have LL := Lib.hid LL
          have LSN := LS
          go_wp2_with fail
          refine (LL.out _).mono ?_
          rintro e w9 ⟨D, g, rfl, RD9, hb9⟩
          go_wp2_with fail
          go_ret
          exact ⟨rows, LSN.out, D, g, rfl, RD9, Lw.bt (Lw.bdrewN hB d) hb9⟩
end Go.Proofs.Ytafefengppiobaa
