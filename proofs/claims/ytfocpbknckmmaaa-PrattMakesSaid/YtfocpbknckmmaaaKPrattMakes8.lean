/-
  pratt.Make: the lines that it lays.
  The reference's needed.
  The reference's Proof: lines whose last is filled in place.
  pratt.Make walked: a line for each prime that is needed.
  The reference's Proof walked.
  The reference's Lines; pratt.Make of what is no prime.
  The law PrattMakes: the proof of a prime is the reference's, or the code.
-/
import Derived.Test.YtfocpbknckmmaaaKPrattMakes7
import Derived.Test.YtfocpbknckmmaaaKPrattMakes1
import Derived.Deep.DeepCutAuto
import Derived.Test.YtfocpbknckmmaaaKPrattMakes3
namespace Lw
open Go Go.RowKit
theorem linesV_snoc (T : List LineT) (x : LineT) : linesV (T ++ [x]) = linesV T ++ x.cs := by simp [linesV]
theorem lin_one (x y : Int) (A : Option Addr) (n c : Nat) : ∀ u ∈ [Value.int .i64 x, Value.int .i64 y, Value.slice A n c], u.oneCell' = true := by intro u hu; simp at hu; rcases hu with rfl | rfl | rfl <;> rfl
/-- the line of p -/
def LnT (S : List Nat) (p : Nat) (x : LineT) : Prop := x.N = (p : Int) ∧ x.G = ((lnG p : Nat) : Int) ∧ x.r.n = (lnF S p).length ∧ x.r.zs = lnF S p
end Lw
set_option linter.unusedVariables false
set_option linter.unusedSimpArgs false
namespace Go.Proofs.Ytfocpbknckmmaaa
open Go.RowKit
theorem elIx : Lw.El Try.prog 67 3 (.int .i64 0) 1 8 := Lw.El.mk' Try.underlying67 (by kernel_rfl) rfl (by decide) (by decide)
theorem elLin : Lw.El Try.prog 33 69 (.agg #[.int .i64 0, .int .i64 0, .slice none 0 0]) 3 40 := Lw.El.mk' Try.underlying33 (by kernel_rfl) rfl (by decide) (by decide)
/-- j lines lie there -/
def PmT (base : Nat) (S : List Nat) (l : Value) (T : List Lw.LineT) (wr : World) : Prop := wr.ownsRow base 69 3 l T.length (Lw.linesV T) ∧ ∀ i (h : i < T.length), Lw.LnT S (S.getD i 0) T[i] ∧ wr.ownsRow base 3 1 T[i].r.v T[i].r.n (Lw.intsV .i64 T[i].r.zs)
def PmS (base : Nat) (S : List Nat) (j : Nat) (l : Value) (wr : World) : Prop := ∃ T : List Lw.LineT, T.length = j ∧ PmT base S l T wr
theorem pm_next {base : Nat} {S : List Nat} {l l' : Value} {T : List Lw.LineT} {W W' W'' : World} {x : Lw.LineT} {o : Obj} (h : PmT base S l T W) (hT : Below W.heap.size W W') (hx : Lw.LnT S (S.getD T.length 0) x) (hr : W'.ownsRow base 3 1 x.r.v x.r.n (Lw.intsV .i64 x.r.zs))
    (own : W''.ownsRow base 69 3 l' (T.length + 1) (Lw.linesV T ++ x.cs)) (hg : (W'.alloc o).grownBy W'' l.ownBlock) : PmT base S l' (T ++ [x]) W'' := by
  have OL := (Lw.ownsBelow h.1 (Nat.le_refl _) hT).alloc o
  refine ⟨by rw [Lw.linesV_snoc, List.length_append]; exact own, fun i hi => ?_⟩
  simp only [List.length_append, List.length_singleton] at hi
  by_cases hlt : i < T.length
  · obtain ⟨h1, h2⟩ := h.2 i hlt
    simp only [List.getElem_append_left hlt]
    exact ⟨h1, Lw.own_keep' ((Lw.ownsBelow h2 (Nat.le_refl _) hT).alloc o) OL (by decide) hg⟩
  · have e : i = T.length := by omega
    subst e
    have e2 : (T ++ [x])[T.length]'(by simp) = x := by simp
    rw [e2]
    exact ⟨hx, Lw.own_keep' (hr.alloc o) OL (by decide) hg⟩
theorem nd_look2 {b : Nat} {K : List Nat} {w w' : World} (h : NdS b K w) (hb : Below w.heap.size w w') {k : Nat} (hk : k ∈ K) (h2 : k ≤ 1048576) : ∃ A c, (Instr.lookup 61 (.map (some b)) (.int .i64 (k : Int)) false).run Try.prog w' = .ok (.slice A (Lw.fq (k - 1)).length c) w' ∧ Lw.Rd w 1 A (Lw.fq (k - 1)).length (Lw.intsV .i64 (Lw.cN (Lw.fq (k - 1)))) := by
  obtain ⟨D, own, K1, K2⟩ := h
  obtain ⟨A, c, h3, h4⟩ := K2 k hk
  obtain ⟨v, ps, hrun, hv⟩ := (map_below own hb).lookup law_key Try.underlying61 (zero_sl w') (zd := .held (.slice none 0 0)) (zp := []) rfl (key_p h2)
  rw [h3] at hv
  have e : v = .slice A (Lw.fq (k - 1)).length c := Lw.rv_held hv
  rw [e] at hrun
  exact ⟨A, c, hrun, h4⟩
/-- the sorted keys -/
def SkF (S : List Nat) (w : World) (e : Ending) (w' : World) : Prop := ∃ g c, e = .returned (.slice (some ⟨g, 0, none⟩) S.length c) ∧ Lw.Rd w' 1 (some ⟨g, 0, none⟩) S.length (Lw.intsV .i64 (Lw.cN S)) ∧ Below w.heap.size w w'
theorem sorted_need (n b : Nat) (w : World) (hp : Lw.Prime n) (h2 : n ≤ 1048576) (h : NdS b (Lw.ned n) w) (h1 : 0 < (Lw.sq n).length) :
    Calls Try.prog 30 #[.func (.func 53) #[] #[.pointer (some ⟨w.heap.size, 0, none⟩)]] (w.alloc (.cells #[.map (some b)] 61)) (SkF (Lw.sq n) w) := by
  obtain ⟨D, own, K1, K2⟩ := h
  have hnd : (Lw.cN (Lw.ned n)).Nodup := by
    unfold Lw.cN
    rw [List.nodup_iff_pairwise_ne, List.pairwise_map]
    exact (Lw.ned_nd hp).imp_of_mem fun {a b} _ _ hab e => hab (by omega)
  have PM : (Lw.cN (Lw.ned n)).Perm (Go.intKeys D) := CollectedI.perm (left := fun _ => false) ⟨hnd, fun x => by rw [K1 x]; simp⟩ own law_key Try.underlying2 (fun _ => rfl)
  have hK : Lw.KOk (Lw.ned n) := ⟨Lw.ned_nd hp, fun z hz => by have := (Lw.ned_in hp hz).2.1; omega⟩
  have hlen := hK.len
  have hsz : Maps.size D ≤ 1048577 := by
    obtain ⟨es, rfl⟩ := own.isMap
    have h3 := PM.length_eq
    rw [Lw.cN_len] at h3
    have h4 : (Go.intKeys (DataW.map es)).length = es.length := by simp [Go.intKeys]
    show es.length ≤ _
    omega
  refine (sorted_pm b _ D Lw.Rv w own (by unfold maxLen; omega) (by omega)).mono ?_
  rintro e w' ⟨v, ss, rfl, hperm, ho, hb⟩
  have hq := Lw.sq_sorted hp (hperm.trans PM.symm)
  have hl : ss.length = (Lw.sq n).length := by
    have := congrArg List.length hq
    rw [List.length_mergeSort, Lw.cN_len] at this
    exact this
  rw [hq, hl] at ho
  obtain ⟨A, c, rfl, _⟩ := Lw.ownsForm ho
  obtain ⟨g, rfl⟩ : ∃ g, A = some ⟨g, 0, none⟩ := by
    rcases ho.2 with ⟨h0, h0'⟩ | ⟨g0, cap, cur, hv, _⟩
    · exact absurd h0' (by omega)
    · injection hv with e1; exact ⟨g0, e1⟩
  exact ⟨g, c, rfl, Lw.Rd.of_own ho, hb⟩
end Go.Proofs.Ytfocpbknckmmaaa
namespace Lw
open Go Go.RowKit
/-- of what was there, the block of v alone has turned; l lies in it, or is new -/
def GrN (v : Value) (w : World) (l : Value) (wr : World) : Prop := w.grownBy wr v.ownBlock ∧ ∀ g, l.ownBlock = some g → v.ownBlock = some g ∨ w.heap.size ≤ g
theorem GrN.refl (v : Value) (w : World) : GrN v w v w := ⟨World.grownBy.refl w _, fun g h => .inl h⟩
theorem GrN.trans {v l l' : Value} {w wr wr' : World} (h : GrN v w l wr) (k : GrN l wr l' wr') : GrN v w l' wr' := by
  obtain ⟨h1, h2⟩ := h
  obtain ⟨k1, k2⟩ := k
  refine ⟨⟨k1.os.trans h1.os, k1.tape.trans h1.tape, k1.output.trans h1.output, Nat.le_trans h1.size k1.size, fun q hq hne => (k1.block q (Nat.lt_of_lt_of_le hq h1.size) (fun e => ?_)).trans (h1.block q hq hne)⟩, fun g hg => ?_⟩
  · rcases h2 q e.symm with h3 | h3
    · exact hne h3.symm
    · omega
  · rcases k2 g hg with h3 | h3
    · exact h2 g h3
    · have := h1.size; exact .inr (by omega)
theorem GrN.of {l : Value} {w w' : World} (h : Below w.heap.size w w') : GrN l w l w' := ⟨⟨h.os, h.tape, h.output, h.size, fun k hk _ => h.block k hk⟩, fun g hg => .inl hg⟩
theorem dfs_in' {f q : Nat} {K : List Nat} (hf : 1 ≤ f) (h : q ∈ K) : dfs f q K = K := by
  obtain ⟨k, rfl⟩ : ∃ k, f = k + 1 := ⟨f - 1, by omega⟩
  exact dfs_in h
theorem memT_succ {K : List Nat} {s q : Nat} (h : s < K.length) : decide (q ∈ K.take (s + 1)) = (decide (q ∈ K.take s) || ((K[s] : Int) == (q : Int))) := by
  rw [List.take_succ_eq_append_getElem h, Bool.eq_iff_iff]
  simp only [decide_eq_true_eq, Bool.or_eq_true, beq_iff_eq, List.mem_append, List.mem_singleton]
  constructor
  · rintro (h | h)
    · exact .inl h
    · exact .inr (by omega)
  · rintro (h | h)
    · exact .inl h
    · exact .inr (by omega)
/-- a list of the call's own comes back -/
def NlF (e0 : TypeId) (w0 : World) (K : List Nat) (v : Value) (w : World) (e : Ending) (w' : World) : Prop := ∃ A c, e = .returned (.slice A K.length c) ∧ w'.ownsRow w0.heap.size e0 1 (.slice A K.length c) K.length (intsV .i64 (cN K)) ∧ GrN v w (.slice A K.length c) w' ∧ Below w0.heap.size w0 w'
end Lw
set_option linter.unusedVariables false
set_option linter.unusedSimpArgs false
namespace Go.Proofs.Ytfocpbknckmmaaa
open Go.RowKit
set_option maxRecDepth 100000 in
set_option maxHeartbeats 2000000 in
theorem ref_needed : ∀ (f p : Nat) (w0 : World) (K : List Nat) (v : Value) (w : World), w.ownsRow w0.heap.size 2 1 v K.length (Lw.intsV .i64 (Lw.cN K)) → Below w0.heap.size w0 w → Lw.KOk K → ¬ p ∈ K → Lw.Prime p → p ≤ f → p ≤ 1048576 →
    Calls Try.prog 34 #[.int .i64 (p : Int), v] w (Lw.NlF 2 w0 (Lw.dfs f p K) v w)
  | 0, p, w0, K, v, w, own, hB0, hK, hk, hp, hf, h2 => absurd hp.1 (by omega)
  | f + 1, p, w0, K, v, w, own, hB0, hK, hk, hp, hf, h2 => by
    have IH := Lib.hid (fun q K v w h1 h2 h3 h4 h5 h6 h7 => ref_needed f q w0 K v w h1 h2 h3 h4 h5 h6 h7)
    have hbs := hB0.size
    have hp2 := hp.1
    rw [Lw.dfs_out hk]
    have FC := fun W => ref_Factor ((p : Int) - 1) W (by omega) (by omega)
    have et : ((p : Int) - 1).toNat = p - 1 := by omega
    rw [et] at FC
    replace FC := Lib.hid FC
    have e1 : IntKind.i64.wrap ((p : Int) - 1) = (p : Int) - 1 := by rw [IntKind.wrap_i64]; omega
    have hKl := hK.len
    have KS := Lib.hid (fun i => Lw.KOk.dfsL (f := f) (hK.snoc hk h2) ((Lw.fq (p - 1)).take i) (fun q hq => by
      have h3 := Lw.fq_lt (List.mem_of_mem_take hq)
      exact ⟨(Lw.fq_mem (List.mem_of_mem_take hq)).1, by omega, by omega⟩))
    have QB := Lib.hid (fun i (h : i < (Lw.fq (p - 1)).length) => show Lw.Prime (Lw.fq (p - 1))[i] ∧ (Lw.fq (p - 1))[i] ≤ f ∧ (Lw.fq (p - 1))[i] ≤ 1048576 from by
      have h3 := Lw.fq_lt (List.getElem_mem h)
      exact ⟨(Lw.fq_mem (List.getElem_mem h)).1, by omega, by omega⟩)
    have DT := Lib.hid (fun i (h : i < (Lw.fq (p - 1)).length) => Lw.dfsL_take (f := f) (K := K ++ [p]) h)
    have D0 : Hid (Lw.dfsL f ((Lw.fq (p - 1)).take 0) (K ++ [p]) = K ++ [p]) := rfl
    have DE : Hid (Lw.dfsL f ((Lw.fq (p - 1)).take (Lw.fq (p - 1)).length) (K ++ [p]) = Lw.dfsL f (Lw.fq (p - 1)) (K ++ [p])) := Lib.hid (by rw [List.take_length])
    have LQ : (Lw.fq (p - 1)).length = (Lw.fac (p - 1)).length := by simp [Lw.fq]
    have LE := Lw.fac_length_le (p - 1)
    have FP : Hid (∀ j (h : j < (Lw.facP (p - 1)).length) (h' : j < (Lw.fq (p - 1)).length), (Lw.facP (p - 1))[j].1 = ((Lw.fq (p - 1))[j] : Int)) := fun j h h' => by simp [Lw.facP, Lw.fq]
    have LP : (Lw.facP (p - 1)).length = (Lw.fac (p - 1)).length := by simp [Lw.facP]
    have K1 : Hid (Lw.intsV .i64 (Lw.cN (K ++ [p])) = Lw.intsV .i64 (Lw.cN K) ++ [.int .i64 (p : Int)]) := Lib.hid (by rw [Lw.cN_snoc]; simp [Lw.intsV])
    generalize Lw.facP (p - 1) = P at *
    generalize Lw.fq (p - 1) = Q at *
    generalize (Lw.fac (p - 1)).length = L at *
    obtain ⟨A0, c0, rfl, _⟩ := Lw.ownsForm own
    have OWN := Lib.hid own
    clear own hK hp hk
    go_enter Try.func34, Try.ntmps34
    go_wp2_with (first
      | (at_builtin; go_loud (refine Lw.wpList_app elPly rfl _ _ rfl rfl (OWN.out.alloc _) rfl (by first | exact Lw.Rd.nil _ _ _ | exact Lw.Rd.lit (Lw.blk_new' (by simp) _ _) rfl rfl | exact Lw.Rd.lit (Lw.blk_alloc (Lw.blk_new' (by simp) _ _) _) rfl rfl) (Lw.one_int _) (by omega) (Lw.balloc hB0 _) (Nat.le_refl _) (by simp; omega) ?_); intro v1 w1 own1 hb1 hg1 hv1; have O1 := Lib.hid own1; clear own1; have G1 : Hid (Lw.GrN (.slice A0 K.length c0) w v1 w1) := Lib.hid ((Lw.GrN.of (Lw.balloc (Below.refl _ _) _)).trans ⟨hg1, fun g hg => by rcases hv1 with h | h; exact .inl (h ▸ hg); exact .inr (by rw [h] at hg; injection hg with hg; omega)⟩))
      | (go_at_call 35; (with_reducible refine (FC.out _).mono ?_); rintro e w2 ⟨AF, cF, rfl, ownF, hb2⟩; have OF := Lib.hid ownF; clear ownF))
    obtain ⟨A1, c1, rfl, _⟩ := Lw.ownsForm O1.out
    have G2 := Lib.hid (G1.out.trans (Lw.GrN.of hb2))
    have O2 := Lib.hid (Lw.ownsBelow O1.out (Nat.le_refl _) hb2)
    have B2 : Below w0.heap.size w0 w2 := Lw.bt hb1 hb2
    have hl1 : (K ++ [p]).length = K.length + 1 := by simp
    clear O1 G1 hg1 hv1 FC
    go_loopw [1, 18] (fun l i wr => ∃ j : Nat, i = .int .i64 (j : Int) ∧ j ≤ L ∧ ∃ A c, l = .slice A (Lw.dfsL f (Q.take j) (K ++ [p])).length c ∧ wr.ownsRow w0.heap.size 2 1 (.slice A (Lw.dfsL f (Q.take j) (K ++ [p])).length c) (Lw.dfsL f (Q.take j) (K ++ [p])).length (Lw.intsV .i64 (Lw.cN (Lw.dfsL f (Q.take j) (K ++ [p])))) ∧ wr.ownsRow w1.heap.size 77 2 (.slice AF L cF) L (Lw.pairsV .i64 .i64 P) ∧ Lw.GrN (.slice A0 K.length c0) w (.slice A (Lw.dfsL f (Q.take j) (K ++ [p])).length c) wr ∧ Below w0.heap.size w0 wr) (fun _ i _ => L - (Go.RowKit.intOf i).toNat)
    case atStart => exact ⟨0, rfl, by omega, A1, c1, by rw [D0.out, hl1], by rw [D0.out, K1.out, hl1]; exact O2.out, OF.out, by rw [D0.out, hl1]; exact G2.out, B2⟩
    case round =>
      obtain ⟨j, rfl, hj, A, c, rfl, own, ownF, hG, hB⟩ := hrel
      have hjm : j < L ∨ ¬ j < L := by omega
      have hKK := KS.out j
      rcases hjm with hlt | hlt
      · have hlt' : (j : Int) < (L : Int) := by omega
        have jp : j < P.length := by omega
        have jq : j < Q.length := by omega
        obtain ⟨g0, g1⟩ := Lw.pairsV_get (k := .i64) (l := .i64) jp
        obtain ⟨ad, e1', had, d0, d1⟩ := (Lw.Rd.of_own ownF).at2 hlt g0 g1
        subst e1'
        rw [FP.out j jp jq] at d0
        have DN := DT.out j jq
        obtain ⟨q1, q2, q3⟩ := QB.out j jq
        obtain ⟨q, hq⟩ : ∃ q, Q[j] = q := ⟨_, rfl⟩
        obtain ⟨ex, hex⟩ : ∃ q, P[j].2 = q := ⟨_, rfl⟩
        rw [hq] at d0 DN q1 q2 q3
        rw [hex] at d1
        have hq2 := q1.1
        have hKl2 := hKK.len
        generalize Lw.dfsL f (Q.take j) (K ++ [p]) = KK at *
        have RK := Lib.hid (Lw.Rd.of_own (own.alloc (.cells #[.int .i64 (q : Int), .int .i64 ex] 77)))
        have OWN2 := Lib.hid own
        have OWF := Lib.hid ownF
        have HG := Lib.hid hG
        have DN := Lib.hid DN
        have hzr := hB.size
        clear own ownF hG hq hex g0 g1 jp jq
        go_wp2_with fail
        go_loop [7, 24] (fun b i => ∃ s : Nat, i = .int .i64 (s : Int) ∧ s ≤ KK.length ∧ b = .bool (decide (q ∈ KK.take s))) (fun _ i => KK.length - (Go.RowKit.intOf i).toNat)
        case atStart => exact ⟨0, rfl, by omega, by simp⟩
        case round =>
          obtain ⟨s, rfl, hs, rfl⟩ := hrel
          have hsm : s < KK.length ∨ ¬ s < KK.length := by omega
          rcases hsm with hsl | hsl
          · have hsl' : (s : Int) < (KK.length : Int) := by omega
            have sc : s < (Lw.cN KK).length := by rw [Lw.cN_len]; exact hsl
            obtain ⟨ae, e2, hae, k0⟩ := RK.out.at1 hsl (Lw.intsV_get sc)
            subst e2
            rw [Lw.cN_get hsl] at k0
            have MT := Lw.memT_succ (q := q) hsl
            obtain ⟨x, hx⟩ : ∃ x, KK[s] = x := ⟨_, rfl⟩
            rw [hx] at k0 MT
            clear hx sc
            have hcase : decide (q ∈ KK.take s) = true ∨ decide (q ∈ KK.take s) = false := by cases decide (q ∈ KK.take s) <;> simp
            rcases hcase with h | h
            · rw [h] at MT ⊢
              rw [Bool.true_or] at MT
              have MT := Lib.hid MT
              clear h
              go_wp2_with fail
              go_round
              case rel => exact ⟨s + 1, by go_num, by omega, by rw [MT.out]⟩
              case measure => simp [Go.RowKit.intOf]; omega
            · rw [h] at MT ⊢
              rw [Bool.false_or] at MT
              have MT := Lib.hid MT
              clear h
              go_wp2_with fail
              go_round
              case rel => exact ⟨s + 1, by go_num, by omega, by rw [MT.out]⟩
              case measure => simp [Go.RowKit.intOf]; omega
          · have hsl' : ¬ (s : Int) < (KK.length : Int) := by omega
            have hse : KK.take s = KK := List.take_of_length_le (by omega)
            rw [hse]
            by_cases hqk : q ∈ KK
            · rw [decide_eq_true hqk]
              have DN2 : Hid (Lw.dfsL f (Q.take (j + 1)) (K ++ [p]) = KK) := Lib.hid (by rw [DN.out]; exact Lw.dfs_in' (by omega) hqk)
              clear hqk hse
              go_wp2_with fail
              go_roundw
              case rel => exact ⟨j + 1, by go_num, by omega, A, c, by rw [DN2.out], by rw [DN2.out]; exact OWN2.out.alloc _, OWF.out.alloc _, by rw [DN2.out]; exact HG.out.trans (Lw.GrN.of (Lw.balloc (Below.refl _ _) _)), Lw.balloc hB _⟩
              case measure => simp [Go.RowKit.intOf]; omega
            · rw [decide_eq_false hqk]
              have CL := Lib.hid (IH.out q KK (.slice A KK.length c) _ (OWN2.out.alloc (.cells #[.int .i64 (q : Int), .int .i64 ex] 77)) (Lw.balloc hB _) hKK hqk q1 q2 q3)
              clear hqk hse q1
              go_wp2_with (go_at_call 34; (with_reducible refine (CL.out).mono ?_); rintro e w5 ⟨A5, c5, rfl, own5, G5, hb5⟩; have O5 := Lib.hid own5; have F5 := Lib.hid (Lw.own_keep' (OWF.out.alloc (.cells #[.int .i64 (q : Int), .int .i64 ex] 77)) (OWN2.out.alloc (.cells #[.int .i64 (q : Int), .int .i64 ex] 77)) (by decide) G5.1); have G5 := Lib.hid ((HG.out.trans (Lw.GrN.of (Lw.balloc (Below.refl _ _) _))).trans G5); clear own5)
              go_roundw
              case rel => exact ⟨j + 1, by go_num, by omega, A5, c5, by rw [DN.out], by rw [DN.out]; exact O5.out, F5.out, by rw [DN.out]; exact G5.out, hb5⟩
              case measure => simp [Go.RowKit.intOf]; omega
      · have hlt' : ¬ (j : Int) < (L : Int) := by omega
        have hje : j = Q.length := by omega
        rw [hje, DE.out] at own hG ⊢
        have OWN2 := Lib.hid own
        have HG := Lib.hid hG
        clear own ownF hG
        go_wp2_with fail
        go_ret
        exact ⟨A, c, rfl, OWN2.out, HG.out, hB⟩
end Go.Proofs.Ytfocpbknckmmaaa
namespace Lw
open Go Go.RowKit
theorem own_setS {w : World} {base e n c g i sz : Nat} {v : Value} {xs : List Value} (h : w.ownsRow base e sz (.slice (some ⟨g, 0, none⟩) n c) n xs) : (w.setCell ⟨g, i, none⟩ v).ownsRow base e sz (.slice (some ⟨g, 0, none⟩) n c) n (xs.set i v) := by
  obtain ⟨hl, h2⟩ := h
  refine ⟨by simpa using hl, ?_⟩
  rcases h2 with ⟨h0, _⟩ | ⟨g', cap, cur, hv, hbg, hh, hnc, hcm, hcs, htake⟩
  · cases h0
  · injection hv with e1 e2 e3
    injection e1 with e1
    injection e1 with e1
    subst e1 e3
    refine .inr ⟨g, c, cur.setIfInBounds i v, rfl, hbg, ?_, hnc, hcm, by simpa using hcs, ?_⟩
    · simp [World.setCell, Array.getElem?_modify, hh]
    · rw [← htake, Array.toList_setIfInBounds, List.take_set]
theorem own_blkS {w : World} {base e n c g sz : Nat} {xs : List Value} (h : w.ownsRow base e sz (.slice (some ⟨g, 0, none⟩) n c) n xs) : ∃ cs, w.heap[g]? = some (.cells cs e (0, 0)) ∧ base ≤ g := by
  rcases h.2 with ⟨h0, _⟩ | ⟨g', cap, cur, hv, hbg, hh, _⟩
  · cases h0
  · injection hv with e1 e2 e3
    injection e1 with e1
    injection e1 with e1
    subst e1
    exact ⟨_, hh, hbg⟩
theorem own_cellS {w : World} {base e n c g i sz : Nat} {v : Value} {xs : List Value} (h : w.ownsRow base e sz (.slice (some ⟨g, 0, none⟩) n c) n xs) (hv : xs[i]? = some v) : w.cell? ⟨g, i, none⟩ = some v ∧ w.frozen? ⟨g, i, none⟩ = false := by
  have h1 := h.cells (g := g) rfl i v hv
  have e : (⟨g, 0, none⟩ : Addr).add i = ⟨g, i, none⟩ := by unfold Addr.add; split <;> simp_all
  rw [e] at h1
  obtain ⟨cs, hb, _⟩ := own_blkS h
  exact ⟨h1, by simp [World.frozen?, hb]⟩
theorem linesV_setG (T : List LineT) (N G G' : Int) (r : TRow) : (linesV (T ++ [⟨N, G, r⟩])).set (T.length * 3 + 1) (.int .i64 G') = linesV (T ++ [⟨N, G', r⟩]) := by
  rw [linesV_snoc, linesV_snoc, List.set_append_right _ _ (by rw [linesV_length]; omega), linesV_length, show T.length * 3 + 1 - T.length * 3 = 1 from by omega]
  rfl
theorem idx_succ : ∀ {S : List Nat} {p : Nat}, S.Nodup → idx S (p + 1) = idx S p + (if p ∈ S then 1 else 0)
  | [], p, _ => rfl
  | x :: S, p, h => by
    obtain ⟨h1, h2⟩ := List.nodup_cons.1 h
    have ih := idx_succ (p := p) h2
    unfold idx at ih ⊢
    rw [List.countP_cons, List.countP_cons, ih]
    by_cases e : p = x
    · subst e
      rw [if_neg h1]
      simp
    · have e2 : (p ∈ x :: S) ↔ p ∈ S := by simp [e]
      simp only [e2, decide_eq_true_eq]
      by_cases e3 : x < p
      · rw [if_pos (show x < p + 1 by omega), if_pos e3]; omega
      · rw [if_neg (show ¬ x < p + 1 by omega), if_neg e3]; omega
theorem idx_zero {S : List Nat} {p : Nat} (h : ∀ z ∈ S, p ≤ z) : idx S p = 0 := by
  unfold idx
  rw [List.countP_eq_zero]
  intro z hz
  have := h z hz
  simp; omega
theorem idx_all {S : List Nat} {p : Nat} (h : ∀ z ∈ S, z < p) : idx S p = S.length := by
  unfold idx
  rw [List.countP_eq_length]
  intro z hz
  have := h z hz
  simp; omega
theorem idx_le (S : List Nat) (p : Nat) : idx S p ≤ S.length := List.countP_le_length
end Lw
set_option linter.unusedVariables false
set_option linter.unusedSimpArgs false
namespace Go.Proofs.Ytfocpbknckmmaaa
open Go.RowKit
/-- the lines, and one more with G -/
def PmQ (base : Nat) (S : List Nat) (l : Value) (T : List Lw.LineT) (x : Lw.LineT) (wr : World) : Prop := wr.ownsRow base 69 3 l (T.length + 1) (Lw.linesV (T ++ [x])) ∧ (∀ i (h : i < T.length), Lw.LnT S (S.getD i 0) T[i] ∧ wr.ownsRow base 3 1 T[i].r.v T[i].r.n (Lw.intsV .i64 T[i].r.zs)) ∧ wr.ownsRow base 3 1 x.r.v x.r.n (Lw.intsV .i64 x.r.zs)
theorem pq_first {base : Nat} {S : List Nat} {l l' : Value} {T : List Lw.LineT} {W W' W'' : World} {x : Lw.LineT} {o : Obj} (h : PmT base S l T W) (hT : Below W.heap.size W W') (hr : W'.ownsRow base 3 1 x.r.v x.r.n (Lw.intsV .i64 x.r.zs))
    (own : W''.ownsRow base 69 3 l' (T.length + 1) (Lw.linesV T ++ x.cs)) (hg : (W'.alloc o).grownBy W'' l.ownBlock) : PmQ base S l' T x W'' := by
  have OL := (Lw.ownsBelow h.1 (Nat.le_refl _) hT).alloc o
  refine ⟨by rw [Lw.linesV_snoc]; exact own, fun i hi => ?_, Lw.own_keep' (hr.alloc o) OL (by decide) hg⟩
  obtain ⟨h1, h2⟩ := h.2 i hi
  exact ⟨h1, Lw.own_keep' ((Lw.ownsBelow h2 (Nat.le_refl _) hT).alloc o) OL (by decide) hg⟩
theorem pq_set {base : Nat} {S : List Nat} {T : List Lw.LineT} {N G G' : Int} {r : Lw.TRow} {g n c : Nat} {w : World} (hn : n = T.length + 1) (h : PmQ base S (.slice (some ⟨g, 0, none⟩) n c) T ⟨N, G, r⟩ w) : PmQ base S (.slice (some ⟨g, 0, none⟩) n c) T ⟨N, G', r⟩ (w.setCell ⟨g, T.length * 3 + 1, none⟩ (.int .i64 G')) := by
  subst hn
  obtain ⟨h1, h2, h3⟩ := h
  obtain ⟨cs, hb, _⟩ := Lw.own_blkS h1
  refine ⟨by rw [← Lw.linesV_setG T N G G' r]; exact Lw.own_setS h1, fun i hi => ⟨(h2 i hi).1, Lw.own_setk (h2 i hi).2 (Lw.own_other (h2 i hi).2 hb (by decide))⟩, Lw.own_setk h3 (Lw.own_other h3 hb (by decide))⟩
theorem pq_below {base : Nat} {S : List Nat} {l : Value} {T : List Lw.LineT} {x : Lw.LineT} {w w' : World} (h : PmQ base S l T x w) (hb : Below w.heap.size w w') : PmQ base S l T x w' :=
  ⟨Lw.ownsBelow h.1 (Nat.le_refl _) hb, fun i hi => ⟨(h.2.1 i hi).1, Lw.ownsBelow (h.2.1 i hi).2 (Nat.le_refl _) hb⟩, Lw.ownsBelow h.2.2 (Nat.le_refl _) hb⟩
theorem pq_done {base : Nat} {S : List Nat} {l : Value} {T : List Lw.LineT} {x : Lw.LineT} {w : World} (h : PmQ base S l T x w) (hx : Lw.LnT S (S.getD T.length 0) x) : PmS base S (T.length + 1) l w := by
  refine ⟨T ++ [x], by simp, by rw [List.length_append]; exact h.1, fun i hi => ?_⟩
  simp only [List.length_append, List.length_singleton] at hi
  by_cases hlt : i < T.length
  · simp only [List.getElem_append_left hlt]
    exact h.2.1 i hlt
  · have e : i = T.length := by omega
    subst e
    have e2 : (T ++ [x])[T.length]'(by simp) = x := by simp
    rw [e2]
    exact ⟨hx, h.2.2⟩
/-- Holds at the last line -/
theorem holds_last {base : Nat} {S : List Nat} {T : List Lw.LineT} {p G j : Nat} {r : Lw.TRow} {g c : Nat} {w : World} (hj : j = T.length) (h : PmQ base S (.slice (some ⟨g, 0, none⟩) (j + 1) c) T ⟨(p : Int), (G : Int), r⟩ w)
    (hS : S.Pairwise (· < ·)) (hS2 : ∀ z ∈ S, Lw.Prime z ∧ z ≤ 1048576) (hSl : S.length ≤ 1048577) (hq : ∀ q ∈ Lw.fq (p - 1), q ∈ S) (hp : Lw.idx S p = j) (hjS : j ≤ 1048576) (hpS : p ∈ S) (h3 : 3 ≤ p) (hrn : r.n = (Lw.lnF S p).length) (hrz : r.zs = Lw.lnF S p) (g1 : 1 ≤ G) (g2 : G < p) :
    Calls Try.prog 36 #[.slice (some ⟨g, 0, none⟩) (j + 1) c, .int .i64 (j : Int)] w fun e w' => e = .returned (.bool (Lw.genB p (G : Int))) ∧ Below w.heap.size w w' := by
  subst hj
  obtain ⟨h1, h2, h4⟩ := h
  have sp := Lw.idx_spec hS hpS
  rw [hp] at sp
  have hjl : T.length < S.length := by
    obtain ⟨h, _⟩ := List.getElem?_eq_some_iff.1 sp
    exact h
  have rows : ∀ x ∈ T ++ [(⟨(p : Int), (G : Int), r⟩ : Lw.LineT)], ∃ q, q ∈ S ∧ x.N = (q : Int) ∧ x.r.zs = Lw.lnF S q ∧ x.r.n = (Lw.lnF S q).length ∧ 0 ≤ x.G ∧ x.G ≤ 1048576 ∧ w.ownsRow base 3 1 x.r.v x.r.n (Lw.intsV .i64 x.r.zs) := by
    intro x hx
    rcases List.mem_append.1 hx with hx | hx
    · obtain ⟨i, hi, rfl⟩ := List.mem_iff_getElem.1 hx
      obtain ⟨⟨a1, a2, a3, a4⟩, a5⟩ := h2 i hi
      have hm : S.getD i 0 ∈ S := by rw [List.getD_eq_getElem?_getD, List.getElem?_eq_getElem (by omega)]; exact List.getElem_mem _
      obtain ⟨hz1, hz2⟩ := hS2 _ hm
      have hz3 : Lw.lnG (S.getD i 0) ≤ 1048576 := by
        unfold Lw.lnG
        split
        · omega
        · have := (Lw.gL_spec hz1 (by omega)).2.1; omega
      exact ⟨S.getD i 0, hm, a1, a4, a3, by rw [a2]; omega, by rw [a2]; omega, a5⟩
    · simp at hx
      subst hx
      have := (hS2 p hpS).2
      exact ⟨p, hpS, rfl, hrz, hrn, by show (0 : Int) ≤ (G : Int); omega, by show (G : Int) ≤ 1048576; omega, h4⟩
  have LIN : Lw.Lin w (some ⟨g, 0, none⟩) (T.length + 1) (T ++ [(⟨(p : Int), (G : Int), r⟩ : Lw.LineT)]) := by
    refine ⟨Lw.Rd.of_own h1, fun x hx => ?_⟩
    obtain ⟨q, q1, q2, q3, q4, q5, q6, q7⟩ := rows x hx
    have hq1 := hS2 q q1
    refine ⟨⟨Lw.Rd.of_own q7, ?_, fun z hz => ?_⟩, by rw [q2]; exact Lw.wf64 (by omega) (by omega), Lw.wf64 q5 (by omega)⟩
    · have := Lw.lnF_len S q
      have h8 := Lw.fac_length_le (q - 1)
      have h9 : (Lw.fq (q - 1)).length = (Lw.fac (q - 1)).length := by simp [Lw.fq]
      unfold maxLen
      omega
    · rw [q3] at hz
      obtain ⟨q', _, rfl⟩ := List.mem_map.1 hz
      have := Lw.idx_le S q'
      exact Lw.wf64 (by omega) (by omega)
  have nth : ∀ k (h : k < T.length), ((T ++ [(⟨(p : Int), (G : Int), r⟩ : Lw.LineT)]).map Lw.LineT.N).getD k 0 = ((S.getD k 0 : Nat) : Int) := fun k hk => by
    rw [List.getD_eq_getElem?_getD, List.getElem?_map, List.getElem?_append_left hk, List.getElem?_eq_getElem hk]
    exact (h2 k hk).1.1
  have hil : T.length < (T ++ [(⟨(p : Int), (G : Int), r⟩ : Lw.LineT)]).length := by simp
  have X := ref_Holds (some ⟨g, 0, none⟩) (T.length + 1) c T.length _ w LIN (by omega) (by omega) hil (fun k hk => by
    rw [nth k hk]
    have hm : S.getD k 0 ∈ S := by rw [List.getD_eq_getElem?_getD, List.getElem?_eq_getElem (by omega)]; exact List.getElem_mem _
    have := (hS2 _ hm).1.1
    omega)
  have e3 : (T ++ [(⟨(p : Int), (G : Int), r⟩ : Lw.LineT)])[T.length]'hil = ⟨(p : Int), (G : Int), r⟩ := by simp
  rw [e3] at X
  simp only at X
  have hpb := (hS2 p hpS).2
  have HG := Lw.hold_gen (Ns := (T ++ [(⟨(p : Int), (G : Int), r⟩ : Lw.LineT)]).map Lw.LineT.N) (i := T.length) (p := p) (G := (G : Int)) (F := r.zs) h3 hpb (by rw [hrz]; exact Lw.lnF_len S p) (fun j' hj' => by
    have hm := hq _ (List.getElem_mem hj')
    have hlt := (Lw.fq_lt (List.getElem_mem hj')).1
    have eS : S[T.length] = p := by
      obtain ⟨_, h⟩ := List.getElem?_eq_some_iff.1 sp
      exact h
    have hi := Lw.idx_lt hS hm hjl (by rw [eS]; exact hlt)
    have hs := Lw.idx_spec hS hm
    have eF : r.zs.getD j' 0 = ((Lw.idx S (Lw.fq (p - 1))[j'] : Nat) : Int) := by
      rw [hrz, List.getD_eq_getElem?_getD]
      unfold Lw.lnF
      rw [List.getElem?_map, List.getElem?_eq_getElem hj']; rfl
    rw [eF]
    refine ⟨by omega, by omega, ?_⟩
    unfold Lw.qAt
    rw [Int.toNat_natCast, nth _ hi, List.getD_eq_getElem?_getD, hs]; rfl) (by omega) (by omega)
  refine X.mono ?_
  rintro e w' ⟨⟨b, rfl, hb⟩, hw⟩
  refine ⟨?_, hw⟩
  have e4 : b = Lw.genB p (G : Int) := by
    rw [Bool.eq_iff_iff, hb, HG]
  rw [e4]
end Go.Proofs.Ytfocpbknckmmaaa
set_option linter.unusedVariables false
set_option linter.unusedSimpArgs false
namespace Go.Proofs.Ytfocpbknckmmaaa
open Go.RowKit
theorem add0 (g i : Nat) : (⟨g, 0, none⟩ : Addr).add i = ⟨g, i, none⟩ := by unfold Addr.add; split <;> simp_all
/-- a box of three cells turned in one -/
theorem set31 {W : World} {b : Nat} {c0 c1 c2 x : Value} {t : TypeId} (h : W.heap[b]? = some (.cells #[c0, c1, c2] t (0, 0))) : (W.setCell ⟨b, 1, none⟩ x).heap[b]? = some (.cells #[c0, x, c2] t (0, 0)) := by
  have h2 := Lw.blk_set_same h 1 x
  simpa using h2
theorem set32 {W : World} {b : Nat} {c0 c1 c2 x : Value} {t : TypeId} (h : W.heap[b]? = some (.cells #[c0, c1, c2] t (0, 0))) : (W.setCell ⟨b, 2, none⟩ x).heap[b]? = some (.cells #[c0, c1, x] t (0, 0)) := by
  have h2 := Lw.blk_set_same h 2 x
  simpa using h2
theorem nd_nil (w : World) : NdS w.heap.size [] (w.alloc (.map #[] 0)) := by
  refine ⟨.map [], World.ownsMap_made _ _ _ _, fun z => ?_, fun k hk => by cases hk⟩
  constructor
  · intro h; cases h
  · intro h; simp [Lw.cN] at h
set_option maxRecDepth 100000 in
theorem pratt_Make_ok (n : Nat) (w : World) (hp : Lw.Prime n) (h2 : n ≤ 1048576) :
    Calls Try.prog 10 #[.int .i64 (n : Int)] w fun e w' => ∃ l, e = .returned (.tuple #[l, .int .i64 0]) ∧ PmS w.heap.size (Lw.sq n) (Lw.sq n).length l w' ∧ Below w.heap.size w w' := by
  have hp2 := hp.1
  have IS := primes_Is (n : Int) w (by omega) (by omega)
  rw [show Lw.primeB (n : Int) = true from by unfold Lw.primeB; rw [Int.toNat_natCast]; exact decide_eq_true hp] at IS
  replace IS := Lib.hid IS
  have hmm := @run_makeMap Try.prog
  have NEED := Lib.hid (fun b W (h : NdS b [] W) => pratt_need n n b [] W h ⟨List.nodup_nil, fun z hz => by cases hz⟩ hp (Nat.le_refl _) h2)
  have sn : n ∈ Lw.sq n := (Lw.sq_mem hp).2 ((Lw.dfr_one n n [] hp (Nat.le_refl _)).got n (by simp))
  have SL : 0 < (Lw.sq n).length := List.length_pos_of_mem sn
  have SRT := Lib.hid (fun b W h => sorted_need n b W hp h2 h SL)
  have SIN := Lib.hid (fun i (h : i < (Lw.sq n).length) => show (Lw.sq n)[i] ∈ Lw.ned n ∧ Lw.Prime (Lw.sq n)[i] ∧ (Lw.sq n)[i] ≤ 1048576 ∧ ∀ q ∈ Lw.fq ((Lw.sq n)[i] - 1), q ∈ Lw.sq n from by
    have h3 := (Lw.sq_mem hp).1 (List.getElem_mem h)
    obtain ⟨a1, a2, a3⟩ := Lw.ned_in hp h3
    exact ⟨h3, a1, by omega, fun q hq => (Lw.sq_mem hp).2 (a3 q hq)⟩)
  have SLT := Lib.hid (Lw.sq_lt n)
  have SLE : (Lw.sq n).length ≤ 1048577 := Lw.len_le_of_nodup 1048577 _ (Lw.sq_nd n) fun z hz => by
    obtain ⟨i, hi, rfl⟩ := List.mem_iff_getElem.1 hz
    have := (SIN.out i hi).2.2.1
    omega
  have N0 : Hid (∀ b W, NdS b (Lw.dfs n n []) W → NdS b (Lw.ned n) W) := fun _ _ h => h
  generalize Lw.sq n = S at *
  clear hp sn
  go_enter Try.func10, Try.ntmps10
  go_wp2_with (go_at_call 28; (with_reducible refine (IS.out).mono ?_); rintro e w1 ⟨rfl, hb1⟩; have ND0 : Hid (NdS w1.heap.size [] (w1.alloc (.map #[] 0))) := Lib.hid (nd_nil w1))
  go_wp2_with (first
    | (go_at_call 29; (with_reducible refine (NEED.out _ _ ND0.out).mono ?_); rintro e w3 ⟨⟨v3, rfl⟩, N3, T3⟩; have N3 := Lib.hid (N0.out _ _ N3); have T3 := Lib.hid T3)
    | (go_at_call 31; (with_reducible refine (keys_pm _ _).mono ?_); rintro e w' ⟨rfl, rfl⟩)
    | (go_at_call 30; (with_reducible refine (SRT.out _ _ N3.out).mono ?_); rintro e w4 ⟨g, c, rfl, R4, hb4⟩; have R4 := Lib.hid R4))
  have hB3 : Below w.heap.size w w3 := (Lw.balloc hb1 _).trans (T3.out.below (by have := hb1.size; omega) (by have := hb1.size; simp; omega))
  have hB4 : Below w.heap.size w w4 := Lw.bt hB3 hb4
  have N4 := Lib.hid (N3.out.tn hb4)
  obtain ⟨b, hb⟩ : ∃ b, w1.heap.size = b := ⟨_, rfl⟩
  rw [hb] at N4 ⊢
  have hz4 := hB4.size
  clear IS NEED SRT N0 ND0 N3 T3 hb4 hB3 hb hb1 hmm
  go_loopw [8, 37] (fun l i wr => ∃ j : Nat, i = .int .i64 (j : Int) ∧ j ≤ S.length ∧ PmS w4.heap.size S j l wr ∧ Below w4.heap.size w4 wr) (fun _ i _ => S.length - (Go.RowKit.intOf i).toNat)
  case atStart => exact ⟨0, rfl, by omega, ⟨[], rfl, World.ownsRow_nil _ _ _ _, fun i h => by cases h⟩, Below.refl _ _⟩
  case round =>
    obtain ⟨j, rfl, hj, hP, hB⟩ := hrel
    have hjm : j < S.length ∨ ¬ j < S.length := by omega
    rcases hjm with hlt | hlt
    · have hlt' : (j : Int) < (S.length : Int) := by omega
      obtain ⟨T, tl, hP⟩ := hP
      have HP := Lib.hid hP
      have jc : j < (Lw.cN S).length := by rw [Lw.cN_len]; exact hlt
      obtain ⟨ad, e1, had, d0⟩ := (R4.out.below (Nat.le_refl _) hB).at1 hlt (Lw.intsV_get jc)
      injection e1 with e1
      subst e1
      rw [Lw.cN_get hlt, add0] at d0
      obtain ⟨s1, s2, s3, s4⟩ := SIN.out j hlt
      have sp : S.getD j 0 = S[j] := by rw [List.getD_eq_getElem?_getD, List.getElem?_eq_getElem hlt]; rfl
      have ILT := Lib.hid (fun q (h : q ∈ S) (h2 : q < S[j]) => Lw.idx_lt SLT.out h hlt h2)
      obtain ⟨p, hp⟩ : ∃ p, S[j] = p := ⟨_, rfl⟩
      rw [hp] at d0 s1 s2 s3 s4 sp ILT
      obtain ⟨wo, hwo⟩ : ∃ wo, wo = wr := ⟨_, rfl⟩
      subst hwo
      have hszo := hB.size
      have N5 := Lib.hid (N4.out.tn hB)
      have LK := Lib.hid (fun W hW => nd_look2 (w' := W) N5.out hW s1 s3)
      clear hP hp jc
      go_upto_region 14 with (fail)
      refine Lw.at_world (fun W5 hW5 => ?_)
      have hB5 : Below wo.heap.size wo W5 := by rw [hW5.out]; exact Lw.balloc (Below.refl _ _) _
      have BX : W5.heap[wo.heap.size]? = some (.cells #[.int .i64 (p : Int), .int .i64 0, .slice none 0 0] 69 (0, 0)) := by rw [hW5.out]; exact Lw.blk_new _ _ _
      have z5 : W5.heap.size = wo.heap.size + 1 := by rw [hW5.out]; simp
      clear hW5
      obtain ⟨A, c9, hrun, RQ⟩ := LK.out W5 hB5
      have RQ := Lib.hid RQ
      obtain ⟨bx, hbx⟩ : ∃ b, wo.heap.size = b := ⟨_, rfl⟩
      rw [hbx] at BX z5 ⊢
      have HBX := Lib.hid hbx
      have FL := Lw.lnF_len S p
      have LQ : (Lw.fq (p - 1)).length ≤ 1048576 := by
        have := Lw.fac_length_le (p - 1)
        simp [Lw.fq]; omega
      have FSq : Hid (∀ i (h : i < (Lw.fq (p - 1)).length), Lw.intsV .i64 ((Lw.lnF S p).take (i + 1)) = Lw.intsV .i64 ((Lw.lnF S p).take i) ++ [.int .i64 ((Lw.idx S (Lw.fq (p - 1))[i] : Nat) : Int)]) := fun i h => by
        have h' : i < (Lw.lnF S p).length := by omega
        rw [List.take_succ_eq_append_getElem h', show (Lw.lnF S p)[i] = ((Lw.idx S (Lw.fq (p - 1))[i] : Nat) : Int) from by simp [Lw.lnF]]
        simp [Lw.intsV]
      have FE : Hid ((Lw.lnF S p).take (Lw.fq (p - 1)).length = Lw.lnF S p) := List.take_of_length_le (by omega)
      have GEN := Lib.hid (fun (g : Nat) W (hg : 3 ≤ p) A c n' (R : Lw.Rd W 1 A n' (Lw.intsV .i64 (Lw.cN (Lw.fq (p - 1))))) (hn : n' ≤ 1048576) => show Calls Try.prog 33 #[.int .i64 (g : Int), .int .i64 (p : Int), .slice A n' c] W fun e w' => e = .returned (.bool (Lw.genB p (g : Int))) ∧ Below W.heap.size W w' from pratt_generates (g : Int) (p : Int) A n' c (Lw.cN (Lw.fq (p - 1))) W R (by omega) (by omega) (by omega) (fun q hq => by
        obtain ⟨q', hq', rfl⟩ := List.mem_map.1 hq
        have := (Lw.fq_lt hq').2
        omega))
      have SRTD : Hid ((Lw.cN S).Pairwise (· ≤ ·)) := by
        unfold Hid Lw.cN
        rw [List.pairwise_map]
        exact SLT.out.imp_of_mem fun {a b} _ _ h => by omega
      have BSC := Lib.hid (fun (q : Nat) W (hq : q ∈ S) (R : Lw.Rd W 1 (some ⟨g, 0, none⟩) S.length (Lw.intsV .i64 (Lw.cN S))) => show Calls Try.prog 32 #[.slice (some ⟨g, 0, none⟩) S.length c, .int .i64 (q : Int)] W fun e w' => e = .returned (.tuple #[.int .i64 ((Lw.idx S q : Nat) : Int), .bool true]) ∧ Below W.heap.size W w' from by
        have h := bs_pm S.length c g (Lw.cN S) (q : Int) W R SL SLE SRTD.out (List.mem_map.2 ⟨q, hq, rfl⟩)
        rw [Lw.idx_cN] at h
        exact h)
      have GSP := Lib.hid (fun (h : 3 ≤ p) => Lw.gL_spec s2 h)
      have GON := Lib.hid (fun G (h : 3 ≤ p) h1 h2 h3 => Lw.gL_only (G := G) s2 h h1 h2 h3)
      have LNX : Hid (∀ (G : Nat) v, Lw.LnT S p ⟨(p : Int), (G : Int), v⟩ ↔ G = Lw.lnG p ∧ v.n = (Lw.lnF S p).length ∧ v.zs = Lw.lnF S p) := fun G v => by
        unfold Lw.LnT
        simp only [true_and]
        constructor
        · rintro ⟨h1, h2, h3⟩; exact ⟨by omega, h2, h3⟩
        · rintro ⟨h1, h2, h3⟩; exact ⟨by omega, h2, h3⟩
      have p2 := s2.1
      have S4 := Lib.hid s4
      have SP := Lib.hid sp
      clear s1 s2 s4 sp SLT SIN had d0
      generalize Lw.fq (p - 1) = Q at *
      obtain ⟨F, hF⟩ : ∃ F, Lw.lnF S p = F := ⟨_, rfl⟩
      simp only [hF] at FL FSq FE LNX
      clear hF
      go_wp2_with fail
      go_loopw [47] (fun i wr => ∃ i' : Nat, i = .int .i64 (i' : Int) ∧ i' ≤ Q.length ∧ ∃ v, wr.heap[bx]? = some (.cells #[.int .i64 (p : Int), .int .i64 0, v] 69 (0, 0)) ∧ wr.ownsRow W5.heap.size 3 1 v i' (Lw.intsV .i64 (F.take i')) ∧ Below wo.heap.size wo wr) (fun i _ => Q.length - (Go.RowKit.intOf i).toNat)
      case atStart => exact ⟨0, rfl, by omega, _, BX, by rw [List.take_zero]; exact World.ownsRow_nil _ _ _ _, hB5⟩
      case round =>
        obtain ⟨i', rfl, hi, v, hbv, own, hZ⟩ := hrel
        have him : i' < Q.length ∨ ¬ i' < Q.length := by omega
        have hzr : bx < wr.heap.size := Lw.blk_lt hbv
        have hvb : v.ownBlock ≠ some bx := fun e => by have := (own.lt _ e).1; omega
        rcases him with hil | hil
        · have hil' : (i' : Int) < (Q.length : Int) := by omega
          have jc : i' < (Lw.cN Q).length := by rw [Lw.cN_len]; exact hil
          obtain ⟨ad, rfl, had, d0⟩ := (RQ.out.below (Nat.le_refl _) hZ).at1 hil (Lw.intsV_get jc)
          rw [Lw.cN_get hil] at d0
          have NX := FSq.out i' hil
          have qs := S4.out _ (List.getElem_mem hil)
          obtain ⟨q, hq⟩ : ∃ q, Q[i'] = q := ⟨_, rfl⟩
          rw [hq] at d0 NX qs
          have BC := Lib.hid (BSC.out q wr qs (R4.out.below (Nat.le_refl _) (Lw.bt hB hZ)))
          obtain ⟨ix, hix⟩ : ∃ z, Lw.idx S q = z := ⟨_, rfl⟩
          rw [hix] at NX BC
          have NX := Lib.hid NX
          have OWN := Lib.hid own
          have HBV := Lib.hid hbv
          have HZ := Lib.hid hZ
          clear own hbv hq hix qs jc had
          go_wp2_with (first
            | (go_at_call 32; (with_reducible refine (BC.out).mono ?_); rintro e w6 ⟨rfl, hb6⟩; have hz6 := hb6.size; have hbv6 := (hb6.block bx hzr).trans HBV.out; have k6 := Lw.blk_cell hbv6 2; simp at k6; have O6 := Lib.hid (Lw.ownsBelow OWN.out (Nat.le_refl _) hb6); have HB6 := Lib.hid (Lw.bt HZ.out hb6); have hbv6 := Lib.hid hbv6)
            | (at_builtin; go_loud (refine Lw.wpList_app elIx rfl _ _ rfl rfl (O6.out.alloc _) rfl (by first | exact Lw.Rd.nil _ _ _ | exact Lw.Rd.lit (Lw.blk_new' (by simp) _ _) rfl rfl | exact Lw.Rd.lit (Lw.blk_alloc (Lw.blk_new' (by simp) _ _) _) rfl rfl) (Lw.one_int _) (by omega) (Lw.balloc HB6.out _) (by omega) (by simp; omega) ?_); intro v7 w7 own7 hb7 hg7 hv7; have hbv7 := (hg7.block bx (by simp; omega) (fun e => hvb e.symm)).trans (Lw.blk_alloc hbv6.out _); have k7 := Lw.blk_cell hbv7 2; have f7 := Lw.blk_free hbv7 2; simp at k7; have hbv7 := Lib.hid hbv7; obtain ⟨A7, c7, rfl, _⟩ := Lw.ownsForm own7; have own7 := Lib.hid own7))
          go_roundw
          case rel => exact ⟨i' + 1, by go_num, by omega, _, set32 hbv7.out, by rw [NX.out]; exact Lw.own_setk own7.out (fun e => by have := (own7.out.lt _ e).1; omega), hb7.setCell (p := ⟨bx, 2, none⟩) (by rw [HBX.out]; exact Nat.le_refl _) _⟩
          case measure => simp [Go.RowKit.intOf]; omega
        · have hil' : ¬ (i' : Int) < (Q.length : Int) := by omega
          have hie : i' = Q.length := by omega
          rw [hie, FE.out] at own
          obtain ⟨FA, fc, rfl, _⟩ := Lw.ownsForm own
          have k0 := Lw.blk_cell hbv 0; have k1 := Lw.blk_cell hbv 1; have k2 := Lw.blk_cell hbv 2
          simp at k0 k1 k2
          have TL : T.length ≤ 1048577 := by omega
          by_cases h3 : 3 ≤ p
          · have h3' : (2 : Int) < (p : Int) := by omega
            have f1 := Lw.blk_free hbv 1
            obtain ⟨a1, a2, a3, a4⟩ := GSP.out h3
            have GON := Lib.hid (fun G => GON.out G h3)
            have GEN := Lib.hid (fun g W => GEN.out g W h3)
            have BV1 := Lib.hid (set31 (x := .int .i64 1) hbv)
            have OW1 := Lib.hid (Lw.own_setk (i := 1) (u := .int .i64 1) own hvb)
            have HZ1 := Lib.hid (hZ.setCell (p := ⟨bx, 1, none⟩) (by rw [HBX.out]; exact Nat.le_refl _) (.int .i64 1))
            have LG : Hid (Lw.lnG p = Lw.gL p) := Lib.hid (if_neg (by omega))
            generalize Lw.gL p = GG at *
            have A3 := Lib.hid a3
            clear own hbv hZ k0 k2 hvb
            go_wp2_with fail
            clear f1 k1
            go_loopw [78] (fun _ wr => ∃ G : Nat, 1 ≤ G ∧ Hid (∀ g' : Nat, 1 ≤ g' → g' < G → Lw.genB p (g' : Int) = false) ∧ wr.heap[bx]? = some (.cells #[.int .i64 (p : Int), .int .i64 (G : Int), .slice FA Q.length fc] 69 (0, 0)) ∧ wr.ownsRow W5.heap.size 3 1 (.slice FA Q.length fc) Q.length (Lw.intsV .i64 F) ∧ Below wo.heap.size wo wr) (fun _ wr => p - (Go.RowKit.intOf ((wr.cell? ⟨bx, 1, none⟩).getD undef)).toNat)
            case atStart => exact ⟨1, Nat.le_refl _, (fun g' h1 h2 => absurd h1 (by omega)), BV1.out, OW1.out, HZ1.out⟩
            case round =>
              obtain ⟨G, hG1, NO, hbv, own, hZ⟩ := hrel
              have hGG : G ≤ GG := Classical.byContradiction fun h => by have := NO.out GG a1 (by omega); rw [A3.out] at this; cases this
              have hzr : bx < wr.heap.size := Lw.blk_lt hbv
              have hvb : (Value.slice FA Q.length fc).ownBlock ≠ some bx := fun e => by have := (own.lt _ e).1; omega
              have k0 := Lw.blk_cell hbv 0; have k1 := Lw.blk_cell hbv 1; have k2 := Lw.blk_cell hbv 2
              simp at k0 k1 k2
              obtain ⟨A3', c3, hrun3, RQ3⟩ := LK.out wr hZ
              have GC := Lib.hid (GEN.out G wr A3' c3 Q.length (RQ3.below (Nat.le_refl _) hZ) LQ)
              have GN := Lib.hid (GON.out G hG1)
              have OWN := Lib.hid own
              have HBV := Lib.hid hbv
              have HZ := Lib.hid hZ
              have K1 := Lib.hid k1
              clear own hbv hZ RQ3
              have hcase : Lw.genB p (G : Int) = true ∨ Lw.genB p (G : Int) = false := by cases Lw.genB p (G : Int) <;> simp
              rcases hcase with hgen | hgen
              · have GE := Lib.hid (GN.out hgen (fun g h1 h2 => NO.out g h1 h2))
                rw [hgen] at GC
                clear hgen NO
                go_wp2_with (first
                  | (go_at_call 33; (with_reducible refine (GC.out).mono ?_); rintro e wt ⟨rfl, hb6⟩; have hbt := Lib.hid ((hb6.block bx hzr).trans HBV.out); have m0 := Lw.blk_cell hbt.out 0; have m1 := Lw.blk_cell hbt.out 1; have m2 := Lw.blk_cell hbt.out 2; simp at m0 m1 m2; have OWT := Lib.hid (Lw.ownsBelow OWN.out (Nat.le_refl _) hb6); have HZT := Lib.hid (Lw.bt HZ.out hb6); have hzt := hb6.size)
                  | (at_builtin; go_loud (refine Lw.wpList_app elLin rfl _ _ rfl rfl ((Lw.ownsBelow HP.out.1 (Nat.le_refl _) HZT.out).alloc _) rfl (by first | exact Lw.Rd.nil _ _ _ | exact Lw.Rd.lit (Lw.blk_new' (by simp) _ _) rfl rfl | exact Lw.Rd.lit (Lw.blk_alloc (Lw.blk_new' (by simp) _ _) _) rfl rfl) (Lw.lin_one _ _ _ _ _) (by omega) (Lw.balloc (Lw.bt hB HZT.out) _) (Nat.le_refl _) (by simp; omega) ?_); intro v9 w9 own9 hb9 hg9 _))
                have FIN : Hid (PmT w4.heap.size S v9 (T ++ [⟨(p : Int), (G : Nat), ⟨FA, Q.length, fc, F⟩⟩]) w9) := Lib.hid (pm_next HP.out HZT.out (by rw [tl, SP.out]; exact (LNX.out _ _).2 ⟨(by rw [LG.out]; exact GE.out), by rw [FL], rfl⟩) (Lw.ownsBase OWT.out (by omega)) own9 hg9)
                clear own9 hg9
                go_wp2
                go_roundw
                case rel => exact ⟨j + 1, by go_num, by omega, ⟨_, by simp [tl], FIN.out⟩, hb9⟩
                case measure => simp [Go.RowKit.intOf]; omega

              · have hlt3 : G < GG := by
                  rcases Nat.lt_or_ge G GG with h | h
                  · exact h
                  · have e : G = GG := by omega
                    rw [e, A3.out] at hgen; cases hgen
                have NO2 : Hid (∀ g' : Nat, 1 ≤ g' → g' < G + 1 → Lw.genB p (g' : Int) = false) := fun g' h1 h2 => by
                  by_cases e : g' = G
                  · subst e; exact hgen
                  · exact NO.out g' h1 (by omega)
                rw [hgen] at GC
                have eG : IntKind.i64.wrap ((G : Int) + 1) = (G : Int) + 1 := by rw [IntKind.wrap_i64]; omega
                clear hgen NO
                go_wp2_with (go_at_call 33; (with_reducible refine (GC.out).mono ?_); rintro e wt ⟨rfl, hb6⟩; have hbt := Lib.hid ((hb6.block bx hzr).trans HBV.out); have m1 := Lw.blk_cell hbt.out 1; have f1 := Lw.blk_free hbt.out 1; simp at m1; have OWT := Lib.hid (Lw.ownsBelow OWN.out (Nat.le_refl _) hb6); have HZT := Lib.hid (Lw.bt HZ.out hb6))
                go_roundw
                case rel => exact ⟨G + 1, by omega, NO2.out, by have := set31 (x := .int .i64 ((G : Int) + 1)) hbt.out; simpa using this, Lw.own_setk OWT.out hvb, HZT.out.setCell (p := ⟨bx, 1, none⟩) (by rw [HBX.out]; exact Nat.le_refl _) _⟩
                case measure =>
                  have hs := Lw.blk_cell (set31 (x := .int .i64 ((G : Int) + 1)) hbt.out) 1
                  simp at hs
                  rw [hs, K1.out]
                  simp [Go.RowKit.intOf]; omega
          · have h3' : ¬ (2 : Int) < (p : Int) := by omega
            have LG : Hid (Lw.lnG p = 0) := Lib.hid (if_pos (by omega))
            obtain ⟨wt, hwt⟩ : ∃ wt, wt = wr := ⟨_, rfl⟩
            subst hwt
            have OWT := Lib.hid own
            have HZT := Lib.hid hZ
            clear own hbv hZ
            go_wp2_with ((at_builtin; go_loud (refine Lw.wpList_app elLin rfl _ _ rfl rfl ((Lw.ownsBelow HP.out.1 (Nat.le_refl _) HZT.out).alloc _) rfl (by first | exact Lw.Rd.nil _ _ _ | exact Lw.Rd.lit (Lw.blk_new' (by simp) _ _) rfl rfl | exact Lw.Rd.lit (Lw.blk_alloc (Lw.blk_new' (by simp) _ _) _) rfl rfl) (Lw.lin_one _ _ _ _ _) (by omega) (Lw.balloc (Lw.bt hB HZT.out) _) (Nat.le_refl _) (by simp; omega) ?_); intro v9 w9 own9 hb9 hg9 _))
            have FIN : Hid (PmT w4.heap.size S v9 (T ++ [⟨(p : Int), (0 : Nat), ⟨FA, Q.length, fc, F⟩⟩]) w9) := Lib.hid (pm_next HP.out HZT.out (by rw [tl, SP.out]; exact (LNX.out _ _).2 ⟨(by rw [LG.out]), by rw [FL], rfl⟩) (Lw.ownsBase OWT.out (by omega)) own9 hg9)
            clear own9 hg9
            go_wp2
            go_roundw
            case rel => exact ⟨j + 1, by go_num, by omega, ⟨_, by simp [tl], FIN.out⟩, hb9⟩
            case measure => simp [Go.RowKit.intOf]; omega

    · have hlt' : ¬ (j : Int) < (S.length : Int) := by omega
      have hje : j = S.length := by omega
      rw [hje] at hP
      obtain ⟨T, tl, h3, h4⟩ := hP
      have FIN : Hid (PmS w.heap.size S S.length u8 wr) := Lib.hid ⟨T, tl, Lw.ownsBase h3 hz4, fun i hi => ⟨(h4 i hi).1, Lw.ownsBase (h4 i hi).2 hz4⟩⟩
      clear h3 h4
      go_wp2
      go_ret2
      exact ⟨_, rfl, FIN.out, Lw.bt hB4 hB⟩
end Go.Proofs.Ytfocpbknckmmaaa
set_option linter.unusedVariables false
set_option linter.unusedSimpArgs false
namespace Go.Proofs.Ytfocpbknckmmaaa
open Go.RowKit
theorem own_some {w : World} {base e n sz c : Nat} {A : Option Addr} {xs : List Value} (h : w.ownsRow base e sz (.slice A n c) n xs) (h0 : 0 < n) : ∃ g, A = some ⟨g, 0, none⟩ := by
  rcases h.2 with ⟨_, h0'⟩ | ⟨g0, cap, cur, hv, _⟩
  · omega
  · injection hv with e1; exact ⟨g0, e1⟩
set_option maxRecDepth 100000 in
set_option maxHeartbeats 4000000 in
theorem ref_Proof (n : Nat) (w : World) (hp : Lw.Prime n) (h2 : n ≤ 1048576) :
    Calls Try.prog 14 #[.int .i64 (n : Int)] w fun e w' => ∃ l, e = .returned l ∧ PmS w.heap.size (Lw.sq n) (Lw.sq n).length l w' ∧ Below w.heap.size w w' := by
  have hn2 := hp.1
  have ND := Lib.hid (ref_needed n n w [] (.slice none 0 0) w (World.ownsRow_nil _ _ _ _) (Below.refl _ _) ⟨List.nodup_nil, fun z hz => by cases hz⟩ (by simp) hp (Nat.le_refl _) h2)
  have NK : Lw.KOk (Lw.ned n) := ⟨Lw.ned_nd hp, fun z hz => by have := (Lw.ned_in hp hz).2.1; omega⟩
  have NKL := NK.len
  have SIN := Lib.hid (fun p (h : p ∈ Lw.sq n) => show Lw.Prime p ∧ p ≤ n ∧ ∀ q ∈ Lw.fq (p - 1), q ∈ Lw.sq n from by
    obtain ⟨a1, a2, a3⟩ := Lw.ned_in hp ((Lw.sq_mem hp).1 h)
    exact ⟨a1, a2, fun q hq => (Lw.sq_mem hp).2 (a3 q hq)⟩)
  have SM := Lib.hid (fun p => Lw.sq_mem (z := p) hp)
  have SLT := Lib.hid (Lw.sq_lt n)
  have SND := Lib.hid (Lw.sq_nd n)
  have SLE : (Lw.sq n).length ≤ 1048577 := Lw.len_le_of_nodup 1048577 _ (Lw.sq_nd n) fun z hz => by
    have := (SIN.out z hz).2.1
    omega
  have IX0 := Lib.hid (Lw.idx_zero (S := Lw.sq n) (p := 2) fun z hz => (SIN.out z hz).1.1)
  have IXE := Lib.hid (Lw.idx_all (S := Lw.sq n) (p := n + 1) fun z hz => by have := (SIN.out z hz).2.1; omega)
  have IXS := Lib.hid (fun p => Lw.idx_succ (p := p) SND.out)
  have IXL := Lib.hid (fun p => Lw.idx_le (Lw.sq n) p)
  have ND : Hid (Calls Try.prog 34 #[.int .i64 (n : Int), .slice none 0 0] w (Lw.NlF 2 w (Lw.ned n) (.slice none 0 0) w)) := ND
  generalize Lw.sq n = S at *
  generalize Lw.ned n = NN at *
  clear hp NK
  go_enter Try.func14, Try.ntmps14
  go_wp2_with (go_at_call 34; (with_reducible refine (ND.out).mono ?_); rintro e w2 ⟨A2, c2, rfl, own2, _, hB2⟩; have RN := Lib.hid (Lw.Rd.of_own own2); clear own2)
  have hz2 := hB2.size
  go_loopw [4, 5] (fun l i wr => ∃ p : Nat, i = .int .i64 (p : Int) ∧ 2 ≤ p ∧ p ≤ n + 1 ∧ PmS w2.heap.size S (Lw.idx S p) l wr ∧ Below w2.heap.size w2 wr) (fun _ i _ => n + 1 - (Go.RowKit.intOf i).toNat)
  case atStart => exact ⟨2, rfl, by omega, by omega, by rw [IX0.out]; exact ⟨[], rfl, World.ownsRow_nil _ _ _ _, fun i h => by cases h⟩, Below.refl _ _⟩
  case round =>
    obtain ⟨p, rfl, p2, pn, hP, hB⟩ := hrel
    have hpm : p ≤ n ∨ ¬ p ≤ n := by omega
    have ISP := IXS.out p
    have IPL := IXL.out p
    have ep : IntKind.i64.wrap ((p : Int) + 1) = (p : Int) + 1 := by rw [IntKind.wrap_i64]; omega
    rcases hpm with hlt | hlt
    · have hlt' : (p : Int) ≤ (n : Int) := by omega
      obtain ⟨j, hj⟩ : ∃ j, Lw.idx S p = j := ⟨_, rfl⟩
      rw [hj] at hP ISP IPL
      obtain ⟨T, tl, hP⟩ := hP
      have own0 := hP.1
      rw [tl] at own0
      obtain ⟨AL, cL, rfl, _⟩ := Lw.ownsForm own0
      have LN := Lib.hid (Lw.Rd.of_own own0)
      clear own0
      have HP := Lib.hid hP
      have RN2 := Lib.hid (RN.out.below (Nat.le_refl _) hB)
      have HJ := Lib.hid hj
      clear hP hj
      obtain ⟨wo, hwo⟩ : ∃ wo, wo = wr := ⟨_, rfl⟩
      subst hwo
      have hszo := hB.size
      go_wp2_with fail
      go_loop [6, 22] (fun b i => ∃ s : Nat, i = .int .i64 (s : Int) ∧ s ≤ NN.length ∧ b = .bool (decide (p ∈ NN.take s))) (fun _ i => NN.length - (Go.RowKit.intOf i).toNat)
      case atStart => exact ⟨0, rfl, by omega, by simp⟩
      case round =>
        obtain ⟨s, rfl, hs, rfl⟩ := hrel
        have hsm : s < NN.length ∨ ¬ s < NN.length := by omega
        rcases hsm with hsl | hsl
        · have hsl' : (s : Int) < (NN.length : Int) := by omega
          have sc : s < (Lw.cN NN).length := by rw [Lw.cN_len]; exact hsl
          obtain ⟨ae, e2, hae, k0⟩ := RN2.out.at1 hsl (Lw.intsV_get sc)
          subst e2
          rw [Lw.cN_get hsl] at k0
          have MT := Lw.memT_succ (q := p) hsl
          obtain ⟨x, hx⟩ : ∃ x, NN[s] = x := ⟨_, rfl⟩
          rw [hx] at k0 MT
          clear hx sc
          have hcase : decide (p ∈ NN.take s) = true ∨ decide (p ∈ NN.take s) = false := by cases decide (p ∈ NN.take s) <;> simp
          rcases hcase with h | h
          · rw [h] at MT ⊢
            rw [Bool.true_or] at MT
            have MT := Lib.hid MT
            clear h
            go_wp2_with fail
            go_round
            case rel => exact ⟨s + 1, by go_num, by omega, by rw [MT.out]⟩
            case measure => simp [Go.RowKit.intOf]; omega
          · rw [h] at MT ⊢
            rw [Bool.false_or] at MT
            have MT := Lib.hid MT
            clear h
            go_wp2_with fail
            go_round
            case rel => exact ⟨s + 1, by go_num, by omega, by rw [MT.out]⟩
            case measure => simp [Go.RowKit.intOf]; omega
        · have hsl' : ¬ (s : Int) < (NN.length : Int) := by omega
          have hse : NN.take s = NN := List.take_of_length_le (by omega)
          rw [hse]
          by_cases hqk : p ∈ NN
          · rw [decide_eq_true hqk]
            have hpS := (SM.out p).2 hqk
            rw [if_pos hpS] at ISP
            clear hqk hse
            go_upto_region 14 with (fail)
            refine Lw.at_world (fun W5 hW5 => ?_)
            have hB5 : Below wo.heap.size wo W5 := by rw [hW5.out]; exact Lw.balloc (Below.refl _ _) _
            have BX : W5.heap[wo.heap.size]? = some (.cells #[.int .i64 (p : Int), .int .i64 0, .slice none 0 0] 69 (0, 0)) := by rw [hW5.out]; exact Lw.blk_new _ _ _
            have z5 : W5.heap.size = wo.heap.size + 1 := by rw [hW5.out]; simp
            clear hW5
            obtain ⟨bx, hbx⟩ : ∃ b, wo.heap.size = b := ⟨_, rfl⟩
            rw [hbx] at BX z5 ⊢
            have HBX := Lib.hid hbx
            obtain ⟨pp, _, pq⟩ := SIN.out p hpS
            have FC := fun W => ref_Factor ((p : Int) - 1) W (by omega) (by omega)
            have et : ((p : Int) - 1).toNat = p - 1 := by omega
            rw [et] at FC
            replace FC := Lib.hid FC
            have e1 : IntKind.i64.wrap ((p : Int) - 1) = (p : Int) - 1 := by rw [IntKind.wrap_i64]; omega
            have sp := Lw.idx_spec SLT.out hpS
            rw [HJ.out] at sp
            have hjS : j < S.length := (List.getElem?_eq_some_iff.1 sp).1
            have spD : S.getD j 0 = p := by rw [List.getD_eq_getElem?_getD, sp]; rfl
            have LQ : (Lw.fq (p - 1)).length = (Lw.fac (p - 1)).length := by simp [Lw.fq]
            have LE := Lw.fac_length_le (p - 1)
            have FL := Lw.lnF_len S p
            have FP : Hid (∀ j (h : j < (Lw.facP (p - 1)).length) (h' : j < (Lw.fq (p - 1)).length), (Lw.facP (p - 1))[j].1 = ((Lw.fq (p - 1))[j] : Int)) := fun j h h' => by simp [Lw.facP, Lw.fq]
            have LP : (Lw.facP (p - 1)).length = (Lw.fac (p - 1)).length := by simp [Lw.facP]
            have FSq : Hid (∀ i (h : i < (Lw.fq (p - 1)).length), Lw.intsV .i64 ((Lw.lnF S p).take (i + 1)) = Lw.intsV .i64 ((Lw.lnF S p).take i) ++ [.int .i64 ((Lw.idx S (Lw.fq (p - 1))[i] : Nat) : Int)]) := fun i h => by
              have h' : i < (Lw.lnF S p).length := by omega
              rw [List.take_succ_eq_append_getElem h', show (Lw.lnF S p)[i] = ((Lw.idx S (Lw.fq (p - 1))[i] : Nat) : Int) from by simp [Lw.lnF]]
              simp [Lw.intsV]
            have FE : Hid ((Lw.lnF S p).take (Lw.fq (p - 1)).length = Lw.lnF S p) := List.take_of_length_le (by omega)
            have QI := Lib.hid (fun i (h : i < (Lw.fq (p - 1)).length) => show Lw.idx S (Lw.fq (p - 1))[i] < j ∧ ∀ k, k < j → (S.getD k 0 = (Lw.fq (p - 1))[i] ↔ k = Lw.idx S (Lw.fq (p - 1))[i]) from by
              have hm := pq _ (List.getElem_mem h)
              have hl := (Lw.fq_lt (List.getElem_mem h)).1
              have hs := Lw.idx_spec SLT.out hm
              have eS : S[j] = p := (List.getElem?_eq_some_iff.1 sp).2
              have hi := Lw.idx_lt SLT.out hm hjS (by rw [eS]; exact hl)
              refine ⟨hi, fun k hk => ⟨fun e => ?_, fun e => ?_⟩⟩
              · refine Lw.idx_only SLT.out ?_
                rw [← e, List.getD_eq_getElem?_getD, List.getElem?_eq_getElem (by omega)]; rfl
              · rw [e, List.getD_eq_getElem?_getD, hs]; rfl)
            have HL := Lib.hid (fun base T' G r g' c' W hj' (h : PmQ base S (.slice (some ⟨g', 0, none⟩) (j + 1) c') T' ⟨(p : Int), ((G : Nat) : Int), r⟩ W) h3 hrn hrz g1 g2 => holds_last (base := base) (T := T') (j := j) hj' h SLT.out (fun z hz => ⟨(SIN.out z hz).1, by have := (SIN.out z hz).2.1; omega⟩) SLE pq HJ.out (by omega) hpS h3 hrn hrz g1 g2)
            have GSP := Lib.hid (fun (h : 3 ≤ p) => Lw.gL_spec pp h)
            have GON := Lib.hid (fun G (h : 3 ≤ p) h1 h2 h3 => Lw.gL_only (G := G) pp h h1 h2 h3)
            have LNX : Hid (∀ (G : Nat) v, Lw.LnT S p ⟨(p : Int), (G : Int), v⟩ ↔ G = Lw.lnG p ∧ v.n = (Lw.lnF S p).length ∧ v.zs = Lw.lnF S p) := fun G v => by
              unfold Lw.LnT
              simp only [true_and]
              constructor
              · rintro ⟨h1, h2, h3⟩; exact ⟨by omega, h2, h3⟩
              · rintro ⟨h1, h2, h3⟩; exact ⟨by omega, h2, h3⟩
            have SP := Lib.hid spD
            clear pp pq sp spD hpS
            generalize Lw.facP (p - 1) = P at *
            generalize Lw.fq (p - 1) = Q at *
            generalize (Lw.fac (p - 1)).length = L at *
            obtain ⟨F, hF⟩ : ∃ F, Lw.lnF S p = F := ⟨_, rfl⟩
            simp only [hF] at FL FSq FE LNX HL
            clear hF
            go_wp2_with (go_at_call 35; (with_reducible refine (FC.out _).mono ?_); rintro e w6 ⟨AF, cF, rfl, ownF, hb6⟩; have OF := Lib.hid ownF; clear ownF)
            have BX6 := Lib.hid ((hb6.block bx (by omega)).trans BX)
            have HB6 := Lib.hid (Lw.bt hB5 hb6)
            have z6 := hb6.size
            clear BX hB5 hb6 FC
            go_loopw [41] (fun i wr => ∃ i' : Nat, i = .int .i64 (i' : Int) ∧ i' ≤ L ∧ ∃ v, wr.heap[bx]? = some (.cells #[.int .i64 (p : Int), .int .i64 0, v] 69 (0, 0)) ∧ wr.ownsRow wo.heap.size 3 1 v i' (Lw.intsV .i64 (F.take i')) ∧ wr.ownsRow W5.heap.size 77 2 (.slice AF L cF) L (Lw.pairsV .i64 .i64 P) ∧ Below wo.heap.size wo wr) (fun i _ => L - (Go.RowKit.intOf i).toNat)
            case atStart => exact ⟨0, rfl, by omega, _, BX6.out, by rw [List.take_zero]; exact World.ownsRow_nil _ _ _ _, OF.out, HB6.out⟩
            case round =>
              obtain ⟨i', rfl, hi, v, hbv, own, ownF, hZ⟩ := hrel
              have him : i' < L ∨ ¬ i' < L := by omega
              have hzr : bx < wr.heap.size := Lw.blk_lt hbv
              rcases him with hil | hil
              · have hil' : (i' : Int) < (L : Int) := by omega
                have jp : i' < P.length := by omega
                have jq : i' < Q.length := by omega
                obtain ⟨g0, g1⟩ := Lw.pairsV_get (k := .i64) (l := .i64) jp
                obtain ⟨ad, e2, had, d0, d1⟩ := (Lw.Rd.of_own ownF).at2 hil g0 g1
                subst e2
                rw [FP.out i' jp jq] at d0
                have NX := FSq.out i' jq
                obtain ⟨qi, qe⟩ := QI.out i' jq
                obtain ⟨q, hq⟩ : ∃ q, Q[i'] = q := ⟨_, rfl⟩
                obtain ⟨ex, hex⟩ : ∃ q, P[i'].2 = q := ⟨_, rfl⟩
                rw [hq] at d0 NX qi qe
                rw [hex] at d1
                obtain ⟨ix, hix⟩ : ∃ z, Lw.idx S q = z := ⟨_, rfl⟩
                rw [hix] at NX qi qe
                have NX := Lib.hid NX
                have QE := Lib.hid qe
                have OWN := Lib.hid own
                have OWF := Lib.hid ownF
                have HBV := Lib.hid hbv
                have HZ := Lib.hid hZ
                clear own ownF hbv hZ qe g0 g1 hq hex hix jp jq
                obtain ⟨wi, hwi⟩ : ∃ wi, wi = wr := ⟨_, rfl⟩
                subst hwi
                go_upto_region 17 with (fail)
                refine Lw.at_world (fun W8 hW8 => ?_)
                have hB8 : Below wi.heap.size wi W8 := by rw [hW8.out]; exact Lw.balloc (Below.refl _ _) _
                have QX : W8.heap[wi.heap.size]? = some (.cells #[.int .i64 (q : Int), .int .i64 ex] 77 (0, 0)) := by rw [hW8.out]; exact Lw.blk_new _ _ _
                clear hW8 d0 d1
                obtain ⟨qb, hqb⟩ : ∃ b, wi.heap.size = b := ⟨_, rfl⟩
                rw [hqb] at QX ⊢
                have hqbx : bx ≠ qb := by omega
                have OWN8 := Lib.hid (Lw.ownsBelow OWN.out (Nat.le_refl _) hB8)
                have OWF8 := Lib.hid (Lw.ownsBelow OWF.out (Nat.le_refl _) hB8)
                have HBV8 := Lib.hid ((hB8.block bx (by omega)).trans HBV.out)
                have HZ8 := Lib.hid (Lw.bt HZ.out hB8)
                clear hB8
                go_wp2_with fail
                go_loopw [12] (fun k wr => ∃ k' : Nat, k = .int .i64 (k' : Int) ∧ k' ≤ j ∧ ∃ v m, m = (if ix < k' then i' + 1 else i') ∧ wr.heap[bx]? = some (.cells #[.int .i64 (p : Int), .int .i64 0, v] 69 (0, 0)) ∧ wr.heap[qb]? = some (.cells #[.int .i64 (q : Int), .int .i64 ex] 77 (0, 0)) ∧ wr.ownsRow wo.heap.size 3 1 v m (Lw.intsV .i64 (F.take m)) ∧ wr.ownsRow W5.heap.size 77 2 (.slice (some ad) L cF) L (Lw.pairsV .i64 .i64 P) ∧ Below wo.heap.size wo wr) (fun k _ => j - (Go.RowKit.intOf k).toNat)
                case atStart => exact ⟨0, rfl, by omega, _, i', by rw [if_neg (by omega)], HBV8.out, QX, OWN8.out, OWF8.out, HZ8.out⟩
                case round =>
                  obtain ⟨k, rfl, hk, v3, m, hm, hbv, hqv, own, ownF, hZ⟩ := hrel
                  have hkm : k < j ∨ ¬ k < j := by omega
                  have hzr : bx < wr.heap.size := Lw.blk_lt hbv
                  have hzq : qb < wr.heap.size := Lw.blk_lt hqv
                  rcases hkm with hkl | hkl
                  · have hkl' : (k : Int) < (j : Int) := by omega
                    have nbx := Lw.own_other own hbv (by decide)
                    have nqb := Lw.own_other own hqv (by decide)
                    obtain ⟨h0, h1', h2'⟩ := Lw.linesV_get (l := T) (i := k) (by omega)
                    obtain ⟨al, e3, hal, t0, _, _⟩ := (LN.out.below (Nat.le_refl _) hZ).at3 hkl h0 h1' h2'
                    subst e3
                    rw [(HP.out.2 k (by omega)).1.1] at t0
                    have QK := QE.out k hkl
                    obtain ⟨N, hN⟩ : ∃ N, S.getD k 0 = N := ⟨_, rfl⟩
                    rw [hN] at t0 QK
                    have q0 := Lw.blk_cell hqv 0
                    simp at q0
                    have OWN := Lib.hid own
                    have OWF := Lib.hid ownF
                    have HBV := Lib.hid hbv
                    have HQV := Lib.hid hqv
                    have HZ := Lib.hid hZ
                    have hzo := hZ.size
                    clear own ownF hbv hqv hZ hN h0 h1' h2' hal
                    by_cases e : k = ix
                    · have zb : ((N : Int) == (q : Int)) = true := by have := QK.2 e; simp; omega
                      have hm' : i' = m := by rw [hm, if_neg (by omega)]
                      subst hm'
                      have e4 : IntKind.i64.wrap ((k : Int) + 1) = (k : Int) + 1 := by rw [IntKind.wrap_i64]; omega
                      rw [← e] at NX
                      have E9 := Lib.hid e
                      clear QK hm e
                      go_wp2_with fail
                      refine wp_region_held_drew (S := fun w' => w'.cell? (al.add (k * 3)) = some (.int .i64 (N : Int)) ∧ w'.cell? ⟨qb, 0, none⟩ = some (.int .i64 (q : Int)) ∧ True ∧ True) (by kernel_rfl) (by exact ⟨t0, q0, trivial, trivial⟩) (fun hHeld => ?_)
                      (refine Lw.take1 (i := 0) (v := ?_) rfl (by kernel_rfl) (by kernel_rfl) (by kernel_rfl) (fun _ _ _ h => h) (Or.inl ⟨by rfl, ?_⟩) (by assumption) ?_; rotate_left 1; (focus (intro wS hSw; obtain ⟨hS1, hS2, hS3, hS4⟩ := hSw; go_simp <;> with_reducible rfl)); (try simp only [Act.put, List.setIfInBounds_toArray, List.set_cons_zero, List.set_cons_succ]))
                      (refine Lw.take1 (i := 1) (v := ?_) rfl (by kernel_rfl) (by kernel_rfl) (by kernel_rfl) (fun _ _ _ h => h) (Or.inl ⟨by rfl, ?_⟩) (by assumption) ?_; rotate_left 1; (focus (intro wS hSw; obtain ⟨hS1, hS2, hS3, hS4⟩ := hSw; go_simp <;> with_reducible rfl)); (try simp only [Act.put, List.setIfInBounds_toArray, List.set_cons_zero, List.set_cons_succ]))
                      (refine Lw.take1 (i := 2) (v := ?_) rfl (by kernel_rfl) (by kernel_rfl) (by kernel_rfl) (fun _ _ _ h => h) (Or.inl ⟨by rfl, ?_⟩) (by assumption) ?_; rotate_left 1; (focus (intro wS hSw; obtain ⟨hS1, hS2, hS3, hS4⟩ := hSw; go_simp <;> with_reducible rfl)); (try simp only [Act.put, List.setIfInBounds_toArray, List.set_cons_zero, List.set_cons_succ]))
                      (refine Lw.take1 (i := 3) (v := ?_) rfl (by kernel_rfl) (by kernel_rfl) (by kernel_rfl) (fun _ _ _ h => h) (Or.inl ⟨by rfl, ?_⟩) (by assumption) ?_; rotate_left 1; (focus (intro wS hSw; obtain ⟨hS1, hS2, hS3, hS4⟩ := hSw; go_simp <;> with_reducible rfl)); (try simp only [Act.put, List.setIfInBounds_toArray, List.set_cons_zero, List.set_cons_succ]))
                      (refine Lw.take1 (i := 4) (v := ?_) rfl (by kernel_rfl) (by kernel_rfl) (by kernel_rfl) (fun _ _ _ h => h) (Or.inl ⟨by rfl, ?_⟩) (by assumption) ?_; rotate_left 1; (focus (intro wS hSw; obtain ⟨hS1, hS2, hS3, hS4⟩ := hSw; go_simp <;> with_reducible rfl)); (try simp only [Act.put, List.setIfInBounds_toArray, List.set_cons_zero, List.set_cons_succ]))
                      (refine Lw.take1 (i := 5) (v := ?_) rfl (by kernel_rfl) (by kernel_rfl) (by kernel_rfl) (fun _ _ _ h => h) (Or.inl ⟨by rfl, ?_⟩) (by assumption) ?_; rotate_left 1; (focus (intro wS hSw; obtain ⟨hS1, hS2, hS3, hS4⟩ := hSw; go_simp <;> with_reducible rfl)); (try simp only [Act.put, List.setIfInBounds_toArray, List.set_cons_zero, List.set_cons_succ]))
                      (refine Lw.take1 (i := 6) (v := ?_) rfl (by kernel_rfl) (by kernel_rfl) (by kernel_rfl) (fun _ _ _ h => h) (Or.inl ⟨by rfl, ?_⟩) (by assumption) ?_; rotate_left 1; (focus (intro wS hSw; obtain ⟨hS1, hS2, hS3, hS4⟩ := hSw; go_simp <;> with_reducible rfl)); (try simp only [Act.put, List.setIfInBounds_toArray, List.set_cons_zero, List.set_cons_succ]))
                      (refine Lw.take1 (i := 7) (v := ?_) rfl (by kernel_rfl) (by kernel_rfl) (by kernel_rfl) (fun _ _ _ h => h) (Or.inl ⟨by rfl, ?_⟩) (by assumption) ?_; rotate_left 1; (focus (intro wS hSw; obtain ⟨hS1, hS2, hS3, hS4⟩ := hSw; go_simp <;> with_reducible rfl)); (try simp only [Act.put, List.setIfInBounds_toArray, List.set_cons_zero, List.set_cons_succ]))
                      refine wpAnyH_done (by kernel_rfl) ?_ _
                      have k9 : wr.drew.cell? ⟨bx, 2, none⟩ = some v3 := by have := Lw.blk_cell (Lw.blk_drew HBV.out) 2; simpa using this
                      go_wp2_with (at_builtin; go_loud (refine Lw.wpList_app elIx rfl _ _ rfl rfl (Lw.own_drew (OWN.out.alloc _)) rfl (by first | exact Lw.Rd.drew (Lw.Rd.lit (Lw.blk_new _ _ _) rfl rfl)) (Lw.one_int _) (by omega) (Below.drew (Lw.balloc HZ.out _)) (Nat.le_refl _) (by show wo.heap.size ≤ (wr.alloc _).heap.size; simp; omega) ?_); intro v7 w7 own7 hb7 hg7 hv7; have hb7v := Lib.hid ((hg7.block bx (by show bx < (wr.alloc _).heap.size; simp; omega) (fun e => nbx e.symm)).trans (Lw.blk_drew (Lw.blk_alloc HBV.out _))); have hq7 := Lib.hid ((hg7.block qb (by show qb < (wr.alloc _).heap.size; simp; omega) (fun e => nqb e.symm)).trans (Lw.blk_drew (Lw.blk_alloc HQV.out _))); have k7 := Lw.blk_cell hb7v.out 2; have f7 := Lw.blk_free hb7v.out 2; simp at k7; have F7 := Lib.hid (Lw.own_keep' (Lw.own_drew (OWF.out.alloc _)) (Lw.own_drew (OWN.out.alloc _)) (by decide) hg7); obtain ⟨A7, c7, rfl, _⟩ := Lw.ownsForm own7; have own7 := Lib.hid own7)
                      go_roundw
                      case rel => exact ⟨k + 1, by go_num, by omega, _, i' + 1, by rw [if_pos (by have := E9.out; omega)], set32 hb7v.out, Lw.blk_set_other hq7.out (by omega) _ _, by rw [NX.out]; exact Lw.own_setk own7.out (Lw.own_other own7.out hb7v.out (by decide)), Lw.own_setk F7.out (Lw.own_other F7.out hb7v.out (by decide)), hb7.setCell (p := ⟨bx, 2, none⟩) (by rw [HBX.out]; exact Nat.le_refl _) _⟩
                      case measure => simp [Go.RowKit.intOf]; omega
                    · have zb : ((N : Int) == (q : Int)) = false := by
                        simp
                        intro h
                        exact e (QK.1 (by omega))
                      clear QK
                      go_wp2_with fail
                      refine wp_region_held_drew (S := fun w' => w'.cell? (al.add (k * 3)) = some (.int .i64 (N : Int)) ∧ w'.cell? ⟨qb, 0, none⟩ = some (.int .i64 (q : Int)) ∧ True ∧ True) (by kernel_rfl) (by exact ⟨t0, q0, trivial, trivial⟩) (fun hHeld => ?_)
                      (refine Lw.take1 (i := 0) (v := ?_) rfl (by kernel_rfl) (by kernel_rfl) (by kernel_rfl) (fun _ _ _ h => h) (Or.inl ⟨by rfl, ?_⟩) (by assumption) ?_; rotate_left 1; (focus (intro wS hSw; obtain ⟨hS1, hS2, hS3, hS4⟩ := hSw; go_simp <;> with_reducible rfl)); (try simp only [Act.put, List.setIfInBounds_toArray, List.set_cons_zero, List.set_cons_succ]))
                      (refine Lw.take1 (i := 1) (v := ?_) rfl (by kernel_rfl) (by kernel_rfl) (by kernel_rfl) (fun _ _ _ h => h) (Or.inl ⟨by rfl, ?_⟩) (by assumption) ?_; rotate_left 1; (focus (intro wS hSw; obtain ⟨hS1, hS2, hS3, hS4⟩ := hSw; go_simp <;> with_reducible rfl)); (try simp only [Act.put, List.setIfInBounds_toArray, List.set_cons_zero, List.set_cons_succ]))
                      (refine Lw.take1 (i := 2) (v := ?_) rfl (by kernel_rfl) (by kernel_rfl) (by kernel_rfl) (fun _ _ _ h => h) (Or.inl ⟨by rfl, ?_⟩) (by assumption) ?_; rotate_left 1; (focus (intro wS hSw; obtain ⟨hS1, hS2, hS3, hS4⟩ := hSw; go_simp <;> with_reducible rfl)); (try simp only [Act.put, List.setIfInBounds_toArray, List.set_cons_zero, List.set_cons_succ]))
                      (refine Lw.take1 (i := 3) (v := ?_) rfl (by kernel_rfl) (by kernel_rfl) (by kernel_rfl) (fun _ _ _ h => h) (Or.inl ⟨by rfl, ?_⟩) (by assumption) ?_; rotate_left 1; (focus (intro wS hSw; obtain ⟨hS1, hS2, hS3, hS4⟩ := hSw; go_simp <;> with_reducible rfl)); (try simp only [Act.put, List.setIfInBounds_toArray, List.set_cons_zero, List.set_cons_succ]))
                      (refine Lw.take1 (i := 4) (v := ?_) rfl (by kernel_rfl) (by kernel_rfl) (by kernel_rfl) (fun _ _ _ h => h) (Or.inl ⟨by rfl, ?_⟩) (by assumption) ?_; rotate_left 1; (focus (intro wS hSw; obtain ⟨hS1, hS2, hS3, hS4⟩ := hSw; go_simp <;> with_reducible rfl)); (try simp only [Act.put, List.setIfInBounds_toArray, List.set_cons_zero, List.set_cons_succ]))
                      (refine Lw.take1 (i := 5) (v := ?_) rfl (by kernel_rfl) (by kernel_rfl) (by kernel_rfl) (fun _ _ _ h => h) (Or.inl ⟨by rfl, ?_⟩) (by assumption) ?_; rotate_left 1; (focus (intro wS hSw; obtain ⟨hS1, hS2, hS3, hS4⟩ := hSw; go_simp <;> with_reducible rfl)); (try simp only [Act.put, List.setIfInBounds_toArray, List.set_cons_zero, List.set_cons_succ]))
                      (refine Lw.take1 (i := 6) (v := ?_) rfl (by kernel_rfl) (by kernel_rfl) (by kernel_rfl) (fun _ _ _ h => h) (Or.inl ⟨by rfl, ?_⟩) (by assumption) ?_; rotate_left 1; (focus (intro wS hSw; obtain ⟨hS1, hS2, hS3, hS4⟩ := hSw; go_simp <;> with_reducible rfl)); (try simp only [Act.put, List.setIfInBounds_toArray, List.set_cons_zero, List.set_cons_succ]))
                      (refine Lw.take1 (i := 7) (v := ?_) rfl (by kernel_rfl) (by kernel_rfl) (by kernel_rfl) (fun _ _ _ h => h) (Or.inl ⟨by rfl, ?_⟩) (by assumption) ?_; rotate_left 1; (focus (intro wS hSw; obtain ⟨hS1, hS2, hS3, hS4⟩ := hSw; go_simp <;> with_reducible rfl)); (try simp only [Act.put, List.setIfInBounds_toArray, List.set_cons_zero, List.set_cons_succ]))
                      refine wpAnyH_done (by kernel_rfl) ?_ _
                      go_wp2_with fail
                      go_roundw
                      case rel => exact ⟨k + 1, by go_num, by omega, v3, m, by rw [hm]; split <;> split <;> omega, HBV.out, HQV.out, OWN.out, OWF.out, HZ.out.drew⟩
                      case measure => simp [Go.RowKit.intOf]; omega
                  · have hkl' : ¬ (k : Int) < (j : Int) := by omega
                    have hke : k = j := by omega
                    rw [if_pos (by omega)] at hm
                    subst hm
                    have OWN := Lib.hid own
                    have OWF := Lib.hid ownF
                    have HBV := Lib.hid hbv
                    have HZ := Lib.hid hZ
                    clear own ownF hbv hqv hZ
                    go_wp2_with fail
                    go_roundw
                    case rel => exact ⟨i' + 1, by go_num, by omega, v3, HBV.out, OWN.out, OWF.out, HZ.out⟩
                    case measure => simp [Go.RowKit.intOf]; omega
              · have hil' : ¬ (i' : Int) < (L : Int) := by omega
                have hie : i' = L := by omega
                have FT : F.take L = F := by rw [← LQ]; exact FE.out
                rw [hie, FT] at own
                obtain ⟨FA, fc, rfl, _⟩ := Lw.ownsForm own
                have k0 := Lw.blk_cell hbv 0; have k1 := Lw.blk_cell hbv 1; have k2 := Lw.blk_cell hbv 2
                simp at k0 k1 k2
                have TL : T.length ≤ 1048577 := by omega
                have OWT := Lib.hid own
                have HZT := Lib.hid hZ
                have hzt := hZ.size
                have hFL : F.length = L := by omega
                clear own ownF hbv hZ
                by_cases h3 : 3 ≤ p
                · have h3' : (2 : Int) < (p : Int) := by omega
                  obtain ⟨a1, a2, a3, a4⟩ := GSP.out h3
                  have GON := Lib.hid (fun G => GON.out G h3)
                  have LG : Hid (Lw.lnG p = Lw.gL p) := Lib.hid (if_neg (by omega))
                  generalize Lw.gL p = GG at *
                  have A3 := Lib.hid a3
                  go_wp2_with (at_builtin; go_loud (refine Lw.wpList_app elLin rfl _ _ rfl rfl ((Lw.ownsBelow HP.out.1 (Nat.le_refl _) HZT.out).alloc _) rfl (by first | exact Lw.Rd.nil _ _ _ | exact Lw.Rd.lit (Lw.blk_new' (by simp) _ _) rfl rfl | exact Lw.Rd.lit (Lw.blk_alloc (Lw.blk_new' (by simp) _ _) _) rfl rfl) (Lw.lin_one _ _ _ _ _) (by omega) (Lw.balloc (Lw.bt hB HZT.out) _) (Nat.le_refl _) (by simp; omega) ?_); intro v9 w9 own9 hb9 hg9 _; have PQ0 := pq_first (x := ⟨(p : Int), 0, ⟨FA, L, fc, F⟩⟩) HP.out HZT.out (Lw.ownsBase OWT.out (by omega)) own9 hg9; rw [tl] at own9; obtain ⟨A9, c9, rfl, _⟩ := Lw.ownsForm own9; obtain ⟨g9, rfl⟩ := own_some own9 (by omega); have PQ0 := Lib.hid PQ0; clear own9 hg9)
                  go_loopw [90] (fun _ wr => ∃ G : Nat, G + 1 ≤ GG ∧ Hid (∀ g' : Nat, 1 ≤ g' → g' < G + 1 → Lw.genB p (g' : Int) = false) ∧ PmQ w2.heap.size S (.slice (some ⟨g9, 0, none⟩) (j + 1) c9) T ⟨(p : Int), (G : Int), ⟨FA, L, fc, F⟩⟩ wr ∧ Below w2.heap.size w2 wr) (fun _ wr => GG - (Go.RowKit.intOf ((wr.cell? ⟨g9, j * 3 + 1, none⟩).getD undef)).toNat)
                  case atStart => exact ⟨0, a1, (fun g' h1 h2 => absurd h1 (by omega)), PQ0.out, hb9⟩
                  case round =>
                    obtain ⟨G, hG1, NO, hPQ, hBq⟩ := hrel
                    obtain ⟨_, x1, _⟩ := Lw.linesV_get (l := T ++ [(⟨(p : Int), (G : Int), ⟨FA, L, fc, F⟩⟩ : Lw.LineT)]) (i := T.length) (by simp)
                    have hPQ1 := hPQ.1
                    obtain ⟨k5, f5⟩ := Lw.own_cellS (by rw [tl] at hPQ1; exact hPQ1) x1
                    simp at k5
                    rw [tl] at k5 f5
                    have hgb : w2.heap.size ≤ g9 := by
                      rw [tl] at hPQ1
                      obtain ⟨_, _, h⟩ := Lw.own_blkS hPQ1
                      exact h
                    have PQ2 := pq_set (G' := ((G + 1 : Nat) : Int)) (by rw [tl]) hPQ
                    rw [tl] at PQ2
                    have HC := HL.out w2.heap.size T (G + 1) ⟨FA, L, fc, F⟩ g9 c9 _ tl.symm PQ2 h3 hFL.symm rfl (by omega) (by omega)
                    rw [show (((G + 1 : Nat) : Int)) = (G : Int) + 1 from by omega] at HC PQ2
                    have HC := Lib.hid HC
                    have PQ2 := Lib.hid PQ2
                    have eG : IntKind.i64.wrap ((G : Int) + 1) = (G : Int) + 1 := by rw [IntKind.wrap_i64]; omega
                    have ej : IntKind.i64.wrap (j : Int) = (j : Int) := by rw [IntKind.wrap_i64]; omega
                    have ej2 : IntKind.i64.wrap ((j : Int) + 1 - 1) = (j : Int) := by rw [IntKind.wrap_i64]; omega
                    have K5 := Lib.hid k5
                    have HB5 := Lib.hid (hBq.setCell (p := ⟨g9, j * 3 + 1, none⟩) hgb (.int .i64 ((G : Int) + 1)))
                    have GN := Lib.hid (GON.out (G + 1) (by omega))
                    clear hPQ hPQ1 hBq x1
                    have hcase : Lw.genB p ((G : Int) + 1) = true ∨ Lw.genB p ((G : Int) + 1) = false := by cases Lw.genB p ((G : Int) + 1) <;> simp
                    rcases hcase with hgen | hgen
                    · have GE := Lib.hid (GN.out (by rw [show (((G + 1 : Nat) : Int)) = (G : Int) + 1 from by omega]; exact hgen) (fun g h1 h2 => NO.out g h1 h2))
                      rw [hgen] at HC
                      clear hgen NO
                      go_wp2_with (go_at_call 36; (with_reducible refine (HC.out).mono ?_); rintro e w12 ⟨rfl, hb12⟩)
                      have FIN : Hid (PmS w2.heap.size S (j + 1) (.slice (some ⟨g9, 0, none⟩) (j + 1) c9) w12) := by
                        have h := pq_done (pq_below PQ2.out hb12) (by rw [tl, SP.out, show ((G : Int) + 1) = ((G + 1 : Nat) : Int) from by omega]; exact (LNX.out _ _).2 ⟨by rw [LG.out]; exact GE.out, hFL.symm, rfl⟩)
                        rw [tl] at h
                        exact h
                      go_roundw
                      case rel => exact ⟨p + 1, by go_num, by omega, by omega, by rw [ISP]; exact FIN.out, Lw.bt HB5.out hb12⟩
                      case measure => simp [Go.RowKit.intOf]; omega
                    · have hlt3 : G + 1 < GG := by
                        rcases Nat.lt_or_ge (G + 1) GG with h | h
                        · exact h
                        · have e : G + 1 = GG := by omega
                          have h5 := A3.out
                          rw [← e, show (((G + 1 : Nat) : Int)) = (G : Int) + 1 from by omega, hgen] at h5
                          cases h5
                      have NO2 : Hid (∀ g' : Nat, 1 ≤ g' → g' < G + 1 + 1 → Lw.genB p (g' : Int) = false) := fun g' h1 h2 => by
                        by_cases e : g' = G + 1
                        · subst e; rw [show (((G + 1 : Nat) : Int)) = (G : Int) + 1 from by omega]; exact hgen
                        · exact NO.out g' h1 (by omega)
                      rw [hgen] at HC
                      clear hgen NO
                      go_wp2_with (go_at_call 36; (with_reducible refine (HC.out).mono ?_); rintro e w12 ⟨rfl, hb12⟩)
                      have PQ3 := Lib.hid (pq_below PQ2.out hb12)
                      go_roundw
                      case rel => exact ⟨G + 1, by omega, NO2.out, by rw [show (((G + 1 : Nat) : Int)) = (G : Int) + 1 from by omega]; exact PQ3.out, Lw.bt HB5.out hb12⟩
                      case measure =>
                        obtain ⟨_, x1, _⟩ := Lw.linesV_get (l := T ++ [(⟨(p : Int), (G : Int) + 1, ⟨FA, L, fc, F⟩⟩ : Lw.LineT)]) (i := T.length) (by simp)
                        have hPQ1 := PQ3.out.1
                        obtain ⟨k6, _⟩ := Lw.own_cellS (by rw [tl] at hPQ1; exact hPQ1) x1
                        simp at k6
                        rw [tl] at k6
                        rw [k6, K5.out]
                        simp [Go.RowKit.intOf]; omega
                · have h3' : ¬ (2 : Int) < (p : Int) := by omega
                  have LG : Hid (Lw.lnG p = 0) := Lib.hid (if_pos (by omega))
                  go_wp2_with (at_builtin; go_loud (refine Lw.wpList_app elLin rfl _ _ rfl rfl ((Lw.ownsBelow HP.out.1 (Nat.le_refl _) HZT.out).alloc _) rfl (by first | exact Lw.Rd.nil _ _ _ | exact Lw.Rd.lit (Lw.blk_new' (by simp) _ _) rfl rfl | exact Lw.Rd.lit (Lw.blk_alloc (Lw.blk_new' (by simp) _ _) _) rfl rfl) (Lw.lin_one _ _ _ _ _) (by omega) (Lw.balloc (Lw.bt hB HZT.out) _) (Nat.le_refl _) (by simp; omega) ?_); intro v9 w9 own9 hb9 hg9 _; have PQ0 := pq_first (x := ⟨(p : Int), 0, ⟨FA, L, fc, F⟩⟩) HP.out HZT.out (Lw.ownsBase OWT.out (by omega)) own9 hg9; rw [tl] at own9; obtain ⟨A9, c9, rfl, _⟩ := Lw.ownsForm own9; obtain ⟨g9, rfl⟩ := own_some own9 (by omega); have PQ0 := Lib.hid PQ0; clear own9 hg9)
                  have FIN : Hid (PmS w2.heap.size S (j + 1) (.slice (some ⟨g9, 0, none⟩) (j + 1) c9) w9) := by
                    have h := pq_done PQ0.out (by rw [tl, SP.out]; exact (LNX.out 0 _).2 ⟨by rw [LG.out], hFL.symm, rfl⟩)
                    rw [tl] at h
                    exact h
                  refine wp_loop_rounds 1 ?_
                  rw [rounds_succ]
                  go_wp2_with fail
                  go_roundw
                  case rel => exact ⟨p + 1, by go_num, by omega, by omega, by rw [ISP]; exact FIN.out, hb9⟩
                  case measure => simp [Go.RowKit.intOf]; omega
          · rw [decide_eq_false hqk]
            have hpS : ¬ p ∈ S := fun h => hqk ((SM.out p).1 h)
            rw [if_neg hpS, Nat.add_zero] at ISP
            have ISP := Lib.hid ISP
            clear hqk hse hpS
            go_wp2_with fail
            go_roundw
            case rel => exact ⟨p + 1, by go_num, by omega, by omega, by rw [ISP.out]; exact ⟨T, tl, HP.out⟩, hB⟩
            case measure => simp [Go.RowKit.intOf]; omega
    · have hlt' : ¬ (p : Int) ≤ (n : Int) := by omega
      have hpe : p = n + 1 := by omega
      rw [hpe, IXE.out] at hP
      obtain ⟨T, tl, h3, h4⟩ := hP
      have FIN : Hid (PmS w.heap.size S S.length u4 wr) := Lib.hid ⟨T, tl, Lw.ownsBase h3 hz2, fun i hi => ⟨(h4 i hi).1, Lw.ownsBase (h4 i hi).2 hz2⟩⟩
      clear h3 h4
      go_wp2
      go_ret
      exact ⟨_, rfl, FIN.out, Lw.bt hB2 hB⟩
end Go.Proofs.Ytfocpbknckmmaaa
set_option linter.unusedVariables false
set_option linter.unusedSimpArgs false
namespace Go.Proofs.Ytfocpbknckmmaaa
open Go.RowKit
theorem pm_lines {base j n c : Nat} {S : List Nat} {A : Option Addr} {w : World} (h : PmS base S j (.slice A n c) w) : ∃ T : List Lw.LineT, T.length = j ∧ n = j ∧ Lw.Rd w 3 A j (Lw.linesV T) ∧ ∀ i (h : i < T.length), Lw.LnT S (S.getD i 0) T[i] ∧ Lw.Rd w 1 T[i].r.A T[i].r.n (Lw.intsV .i64 T[i].r.zs) ∧ T[i].r.n ≤ 9223372036854775807 := by
  obtain ⟨T, tl, h1, h2⟩ := h
  rw [tl] at h1
  obtain ⟨A', c', e, _⟩ := Lw.ownsForm h1
  injection e with e1 e2 e3
  subst e1 e2 e3
  refine ⟨T, tl, rfl, Lw.Rd.of_own h1, fun i hi => ⟨(h2 i hi).1, Lw.Rd.of_own (h2 i hi).2, ?_⟩⟩
  obtain ⟨A3, c3, e3, h3, h4, _⟩ := Lw.ownsForm (h2 i hi).2
  exact Nat.le_trans h3 h4
set_option maxRecDepth 100000 in
set_option maxHeartbeats 4000000 in
theorem ref_Lines (b1 b2 j c d : Nat) (S : List Nat) (A B : Option Addr) (w : World) (h1 : PmS b1 S j (.slice A j c) w) (h2 : PmS b2 S j (.slice B j d) w) (hj : j ≤ 1048577) :
    Calls Try.prog 13 #[.slice A j c, .slice B j d] w fun e w' => e = .returned (.bool true) ∧ ∃ d, w' = w.drewN d := by
  obtain ⟨T, tl, _, RT, HT⟩ := pm_lines h1
  obtain ⟨U, ul, _, RU, HU⟩ := pm_lines h2
  have RT := Lib.hid RT
  have RU := Lib.hid RU
  have HT := Lib.hid HT
  have HU := Lib.hid HU
  clear h1 h2
  go_enter Try.func13, Try.ntmps13
  go_wp2
  go_loopw [5] (fun i wr => ∃ k d : Nat, i = .int .i64 (k : Int) ∧ k ≤ j ∧ wr = w.drewN d) (fun i _ => j - (Go.RowKit.intOf i).toNat)
  case atStart => exact ⟨0, 0, rfl, by omega, rfl⟩
  case round =>
    obtain ⟨k, d, rfl, k1, rfl⟩ := hrel
    have hkm : k < j ∨ ¬ k < j := by omega
    rcases hkm with hlt | hlt
    · have hlt' : (k : Int) < (j : Int) := by omega
      obtain ⟨g0, g1, g2⟩ := Lw.linesV_get (l := T) (i := k) (by omega)
      obtain ⟨ad, rfl, had, t0, t1, t2⟩ := RT.out.at3 hlt g0 g1 g2
      obtain ⟨f0, f1, f2⟩ := Lw.linesV_get (l := U) (i := k) (by omega)
      obtain ⟨bd, rfl, hbd, u0, u1, u2⟩ := RU.out.at3 hlt f0 f1 f2
      obtain ⟨⟨a1, a2, a3, a4⟩, a5, a6⟩ := HT.out k (by omega)
      obtain ⟨⟨b1, b2, b3, b4⟩, b5, _⟩ := HU.out k (by omega)
      rw [a1] at t0
      rw [a2] at t1
      rw [a3] at t2 a5 a6
      rw [a4] at a5
      rw [b1] at u0
      rw [b2] at u1
      rw [b3] at u2 b5
      rw [b4] at b5
      have A5 := Lib.hid a5
      have B5 := Lib.hid b5
      generalize T[k].r.A = TA at *
      generalize T[k].r.c = TC at *
      generalize U[k].r.A = UA at *
      generalize U[k].r.c = UC at *
      generalize Lw.lnF S (S.getD k 0) = F at *
      generalize Lw.lnG (S.getD k 0) = G at *
      generalize S.getD k 0 = N at *
      clear a1 a2 a3 a4 a5 b1 b2 b3 b4 b5 g0 g1 g2 f0 f1 f2
      go_wp2
      go_quiet (fail)
      go_wp2
      go_loopw [6] (fun i wr => ∃ m d : Nat, i = .int .i64 (m : Int) ∧ m ≤ F.length ∧ wr = w.drewN d) (fun i _ => F.length - (Go.RowKit.intOf i).toNat)
      case atStart => exact ⟨0, _, rfl, by omega, World.drewN_drewN _ _ _⟩
      case round =>
        obtain ⟨m, d2, rfl, m1, rfl⟩ := hrel
        have eM : m < F.length → IntKind.i64.wrap ((m : Int) + 1) = (m : Int) + 1 := fun h => by rw [IntKind.wrap_i64]; omega
        have hmm : m < F.length ∨ ¬ m < F.length := by omega
        rcases hmm with hml | hml
        · have hml' : (m : Int) < (F.length : Int) := by omega
          have eM := eM hml
          obtain ⟨ae, rfl, hae, v0⟩ := A5.out.at1 hml (Lw.intsV_get hml)
          obtain ⟨be, rfl, hbe, v1⟩ := B5.out.at1 hml (Lw.intsV_get hml)
          obtain ⟨x, hx⟩ : ∃ x, F[m] = x := ⟨_, rfl⟩
          rw [hx] at v0 v1
          clear hx
          go_wp2
          go_quiet (fail)
          go_wp2
          go_roundw
          case rel => exact ⟨m + 1, _, by go_num, by omega, rfl⟩
          case measure => simp [Go.RowKit.intOf]; omega
        · have hml' : ¬ (m : Int) < (F.length : Int) := by omega
          go_wp2
          go_roundw
          case rel => exact ⟨k + 1, _, by go_num, by omega, rfl⟩
          case measure => simp [Go.RowKit.intOf]; omega
    · have hlt' : ¬ (k : Int) < (j : Int) := by omega
      go_wp2
      go_ret
      exact ⟨rfl, d, rfl⟩
theorem pratt_Make_far (n : Int) (w : World) (h : n < 1 ∨ 1048576 < n) :
    Calls Try.prog 10 #[.int .i64 n] w fun e w' => e = .returned (.tuple #[.slice none 0 0, .int .i64 2]) ∧ Below w.heap.size w w' := by
  have IS := Lib.hid (primes_Is_bad n w h)
  clear h
  go_enter Try.func10, Try.ntmps10
  go_wp2_with (go_at_call 28; (with_reducible refine (IS.out).mono ?_); rintro e w1 ⟨rfl, hb1⟩)
  go_ret2
  exact ⟨rfl, hb1⟩
theorem pratt_Make_none (n : Int) (w : World) (h1 : 1 ≤ n) (h2 : n ≤ 1048576) (h : Lw.primeB n = false) :
    Calls Try.prog 10 #[.int .i64 n] w fun e w' => e = .returned (.tuple #[.slice none 0 0, .int .i64 5]) ∧ Below w.heap.size w w' := by
  have IS := primes_Is n w h1 h2
  rw [h] at IS
  replace IS := Lib.hid IS
  clear h
  go_enter Try.func10, Try.ntmps10
  go_wp2_with (go_at_call 28; (with_reducible refine (IS.out).mono ?_); rintro e w1 ⟨rfl, hb1⟩)
  go_ret2
  exact ⟨rfl, hb1⟩
end Go.Proofs.Ytfocpbknckmmaaa
set_option linter.unusedVariables false
namespace Go.Proofs.Ytfocpbknckmmaaa
open Go.RowKit
theorem PmS.below {base j : Nat} {S : List Nat} {l : Value} {w w' : World} (h : PmS base S j l w) (hb : Below w.heap.size w w') : PmS base S j l w' := by
  obtain ⟨T, tl, h1, h2⟩ := h
  exact ⟨T, tl, Lw.ownsBelow h1 (Nat.le_refl _) hb, fun i hi => ⟨(h2 i hi).1, Lw.ownsBelow (h2 i hi).2 (Nat.le_refl _) hb⟩⟩
theorem PmS.form {base j : Nat} {S : List Nat} {l : Value} {w : World} (h : PmS base S j l w) : ∃ A c, l = .slice A j c := by
  obtain ⟨T, tl, h1, h2⟩ := h
  rw [tl] at h1
  obtain ⟨A, c, e, _⟩ := Lw.ownsForm h1
  exact ⟨A, c, e⟩
end Go.Proofs.Ytfocpbknckmmaaa
namespace Go.Proofs.Ytfocpbknckmmaaa.LW
open Go.RowKit
set_option maxHeartbeats 1000000 in
theorem PrattMakes (n : Int) (w : World) (wn : (Lit.int .i64 n).wf = true) :
    Calls Try.prog 4 #[.int .i64 n] w fun e w' => e = .returned (.bool true) ∧ Below w.heap.size w w' := by
  by_cases h : n < 1 ∨ 1048576 < n
  · have E : Lw.modI n = 2 := if_pos h
    have PB := Lib.hid (pratt_Make_far n w h)
    clear h
    go_enter Try.func4, Try.ntmps4
    go_wp2_with (first | (go_at_call 11; refine (law_modulus _ _).mono ?_; rintro e w' ⟨rfl, rfl⟩) | (go_at_call 10; (with_reducible refine (PB.out).mono ?_); rintro e w1 ⟨rfl, hb1⟩))
    go_ret
    exact ⟨by simp, hb1⟩
  · have E : Lw.modI n = 0 := if_neg h
    have IS := Lib.hid (fun w => ref_Is n w (by omega))
    cases hp : Lw.primeB n with
    | false =>
      rw [hp] at IS
      have PB := Lib.hid (pratt_Make_none n w (by omega) (by omega) hp)
      clear h hp
      go_enter Try.func4, Try.ntmps4
      go_wp2_with (first | (go_at_call 11; refine (law_modulus _ _).mono ?_; rintro e w' ⟨rfl, rfl⟩) | (go_at_call 10; (with_reducible refine (PB.out).mono ?_); rintro e w1 ⟨rfl, hb1⟩) | (go_at_call 12; (with_reducible refine (IS.out _).mono ?_); rintro e w' ⟨rfl, rfl⟩))
      go_ret
      exact ⟨by simp, hb1⟩
    | true =>
      rw [hp] at IS
      obtain ⟨m, rfl⟩ := Int.eq_ofNat_of_zero_le (by omega : 0 ≤ n)
      have hP : Lw.Prime m := by
        unfold Lw.primeB at hp
        rw [Int.toNat_natCast] at hp
        exact of_decide_eq_true hp
      have PG := Lib.hid (pratt_Make_ok m w hP (by omega))
      have RG := Lib.hid (fun w => ref_Proof m w hP (by omega))
      have SLE : (Lw.sq m).length ≤ 1048577 := Lw.len_le_of_nodup 1048577 _ (Lw.sq_nd m) fun z hz => by
        have := (Lw.ned_in hP ((Lw.sq_mem hP).1 hz)).2.1
        omega
      generalize Lw.sq m = S at *
      clear h hp hP
      go_enter Try.func4, Try.ntmps4
      go_wp2_with fail
      refine PG.out.mono ?_
      rintro e w1 ⟨l1, rfl, P1, hb1⟩
      obtain ⟨A1, c1, rfl⟩ := P1.form
      have P1 := Lib.hid P1
      go_wp2_with (first | (go_at_call 11; refine (law_modulus _ _).mono ?_; rintro e w' ⟨rfl, rfl⟩) | (go_at_call 12; (with_reducible refine (IS.out _).mono ?_); rintro e w' ⟨rfl, rfl⟩) | (go_at_call 14; (with_reducible refine (RG.out _).mono ?_); rintro e w3 ⟨l3, rfl, P3, hb3⟩; obtain ⟨A3, c3, rfl⟩ := P3.form; have P3 := Lib.hid P3) | (go_at_call 13; (with_reducible refine (ref_Lines _ _ S.length c1 c3 S A1 A3 _ (P1.out.below hb3) P3.out SLE).mono ?_); rintro e w4 ⟨rfl, d4, rfl⟩))
      go_ret
      exact ⟨by simp, Lw.bdrewN (Lw.bt hb1 hb3) _⟩
end Go.Proofs.Ytfocpbknckmmaaa.LW
