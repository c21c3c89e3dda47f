/- ratchet.Play: the walk. -/
import Derived.Test.YtlgegdmnbhoepaaRcw
namespace Lw
open Go Go.RowKit Go.Maps
/-- below B only two blocks have turned -/
structure BX (B a b : Nat) (w w' : World) : Prop where
  os : w'.os = w.os
  tape : w'.tape = w.tape
  output : w'.output = w.output
  size : w.heap.size ≤ w'.heap.size
  block : ∀ k, k < B → k ≠ a → k ≠ b → w'.heap[k]? = w.heap[k]?
theorem BX.of {B a b : Nat} {w w' : World} (h : Below B w w') : BX B a b w w' := ⟨h.os, h.tape, h.output, h.size, fun k hk _ _ => h.block k hk⟩
theorem BX.of2 {B a b : Nat} {w w' : World} (h : G2 a b w w') (hB : B ≤ w.heap.size) : BX B a b w w' := ⟨h.os, h.tape, h.output, h.size, fun k hk h1 h2 => h.block k (by omega) h1 h2⟩
theorem BX.trans {B a b : Nat} {u v w : World} (h : BX B a b u v) (k : BX B a b v w) : BX B a b u w :=
  ⟨k.os.trans h.os, k.tape.trans h.tape, k.output.trans h.output, Nat.le_trans h.size k.size, fun j hj h1 h2 => (k.block j hj h1 h2).trans (h.block j hj h1 h2)⟩
theorem BX.below {B a b C : Nat} {w w' : World} (h : BX B a b w w') (ha : C ≤ a) (hb : C ≤ b) (hC : C ≤ B) : Below C w w' := ⟨h.os, h.tape, h.output, h.size, fun k hk => h.block k (by omega) (by omega) (by omega)⟩
theorem own_bx {a b base e s n : Nat} {w w' : World} {v : Value} {xs : List Value} (h : w.ownsRow base e s v n xs) (hg : BX w.heap.size a b w w') (ha : ∀ cs z, w.heap[a]? ≠ some (.cells cs e z)) (hb : ∀ cs z, w.heap[b]? ≠ some (.cells cs e z)) : w'.ownsRow base e s v n xs := by
  obtain ⟨hl, h2⟩ := h
  refine ⟨hl, ?_⟩
  rcases h2 with ⟨h0, h1⟩ | ⟨g, cap, cur, hu, hbg, hh, rest⟩
  · exact .inl ⟨h0, h1⟩
  · refine .inr ⟨g, cap, cur, hu, hbg, ?_, rest⟩
    exact (hg.block g (Array.getElem?_eq_some_iff.1 hh).1 (fun e => ha _ _ (e ▸ hh)) (fun e => hb _ _ (e ▸ hh))).trans hh
theorem own_keep' {w w' : World} {b1 b2 e1 e2 s1 s2 n m : Nat} {u v : Value} {xs ys : List Value} (h : w.ownsRow b1 e1 s1 u n xs) (hv : w.ownsRow b2 e2 s2 v m ys) (he : e1 ≠ e2) (hg : w.grownBy w' v.ownBlock) : w'.ownsRow b1 e1 s1 u n xs := by
  obtain ⟨hl, h2⟩ := h
  refine ⟨hl, ?_⟩
  rcases h2 with ⟨h0, h1⟩ | ⟨g, cap, cur, hu, hbg, hh, rest⟩
  · exact .inl ⟨h0, h1⟩
  · refine .inr ⟨g, cap, cur, hu, hbg, ?_, rest⟩
    refine (hg.block g (Array.getElem?_eq_some_iff.1 hh).1 (fun e => ?_)).trans hh
    rcases hv.2 with ⟨h0, _⟩ | ⟨g2, cap2, cur2, hu2, _, hh2, _⟩
    · subst h0; cases e
    · subst hu2
      have : g2 = g := by injection e.symm
      subst this
      rw [hh] at hh2
      injection hh2 with hh2
      injection hh2 with _ h3
      exact he h3
theorem own_other {base e s n : Nat} {w : World} {v : Value} {xs : List Value} (h : w.ownsRow base e s v n xs) {k : Nat} {cs : Array Value} {t : TypeId} {z : Nat × Nat} (hk : w.heap[k]? = some (.cells cs t z)) (ht : t ≠ e) : v.ownBlock ≠ some k := by
  intro ek
  rcases h.2 with ⟨h0, _⟩ | ⟨g, cap, cur, hu, hbg, hh, _⟩
  · subst h0; cases ek
  · subst hu
    have : g = k := by injection ek
    subst this
    rw [hk] at hh; injection hh with hh; injection hh with _ h3; exact ht h3
theorem own_setk {base e s n : Nat} {w : World} {v : Value} {xs : List Value} (h : w.ownsRow base e s v n xs) {k i : Nat} {u : Value} (hk : v.ownBlock ≠ some k) : (w.setCell ⟨k, i, none⟩ u).ownsRow base e s v n xs := by
  obtain ⟨hl, h2⟩ := h
  refine ⟨hl, ?_⟩
  rcases h2 with ⟨h0, h1⟩ | ⟨g, cap, cur, hv, hbg, hh, rest⟩
  · exact .inl ⟨h0, h1⟩
  · refine .inr ⟨g, cap, cur, hv, hbg, ?_, rest⟩
    rw [Below.heap_setCell w ⟨k, i, none⟩ u g (by subst hv; intro e; exact hk (by rw [show g = k from e]; rfl))]
    exact hh
end Lw
set_option linter.unusedVariables false
set_option linter.unusedSimpArgs false
namespace Go.Proofs.Ytlgegdmnbhoepaa
open Go.RowKit
open Go.Maps
theorem elInt : Lw.El Try.prog 90 3 (.int .i64 0) 1 8 := Lw.El.mk' Try.underlying90 (by kernel_rfl) rfl (by decide) (by decide)
theorem elPsd : Lw.El Try.prog 56 113 (.agg #[.int .i64 0, .int .i64 0]) 2 16 := Lw.El.mk' Try.underlying56 (by kernel_rfl) rfl (by decide) (by decide)
/-- where the program stands: m keys of the sender's turned, s, out told -/
def PlS (key most : Int) (w : World) (m : Nat) (s : Lw.RSt) (out : List (Int × Int)) (v10 v11 : Value) (wr : World) : Prop :=
  Below w.heap.size w wr ∧ TK key most (w.heap.size + 1) w.heap.size s.ks s.come wr ∧ wr.heap[w.heap.size + 2]? = some (.cells #[.int .i64 (Lw.keyN key m)] 105 (0, 0)) ∧
  wr.ownsRow (w.heap.size + 3) 3 1 v10 s.nums.length (Lw.intsV .i64 (Lw.sealL key s.nums)) ∧ wr.ownsRow (w.heap.size + 3) 113 2 v11 out.length (Lw.pairsV .i64 .i64 out)
theorem PlS.size {key most : Int} {w : World} {m : Nat} {s : Lw.RSt} {out : List (Int × Int)} {v10 v11 : Value} {wr : World} (h : PlS key most w m s out v10 v11 wr) : w.heap.size + 2 < wr.heap.size := Lw.blk_lt h.2.2.1
theorem TK.not {key most : Int} {tb bm : Nat} {ks : List Nat} {come : Nat} {w : World} {e : TypeId} (h : TK key most tb bm ks come w) (he : 109 ≠ e) : (∀ cs z, w.heap[tb]? ≠ some (.cells cs e z)) ∧ ∀ cs z, w.heap[bm]? ≠ some (.cells cs e z) := by
  obtain ⟨h1, D, ⟨es, clock, hb, _⟩, _⟩ := h
  refine ⟨fun cs z h => ?_, fun cs z h => ?_⟩
  · rw [h1] at h; injection h with h; injection h with _ h; exact he h
  · rw [hb] at h; cases h
/-- the taker has turned -/
theorem PlS.taker {key most : Int} {w : World} {m : Nat} {s s' : Lw.RSt} {out : List (Int × Int)} {v10 v11 : Value} {wr W : World} (h : PlS key most w m s out v10 v11 wr) (hx : Lw.BX wr.heap.size (w.heap.size + 1) w.heap.size wr W)
    (hT : TK key most (w.heap.size + 1) w.heap.size s'.ks s'.come W) (hn : s'.nums = s.nums) : PlS key most w m s' out v10 v11 W := by
  have hsz := h.size
  obtain ⟨h1, h2, h3, h4, h5⟩ := h
  obtain ⟨n1, n2⟩ := TK.not (e := 3) h2 (by decide)
  obtain ⟨n3, n4⟩ := TK.not (e := 113) h2 (by decide)
  have hw := h1.size
  exact ⟨h1.trans (hx.below (by omega) (Nat.le_refl _) hw), hT, (hx.block _ (by omega) (by omega) (by omega)).trans h3, by rw [hn]; exact Lw.own_bx h4 hx n1 n2, Lw.own_bx h5 hx n3 n4⟩
/-- the sender has turned -/
theorem PlS.sender {key most : Int} {w : World} {m m' : Nat} {s : Lw.RSt} {out : List (Int × Int)} {v10 v11 : Value} {wr W : World} (h : PlS key most w m s out v10 v11 wr) (hx : Lw.BX wr.heap.size (w.heap.size + 2) (w.heap.size + 2) wr W)
    (hT : W.heap[w.heap.size + 2]? = some (.cells #[.int .i64 (Lw.keyN key m')] 105 (0, 0))) : PlS key most w m' s out v10 v11 W := by
  have hsz := h.size
  obtain ⟨h1, ⟨t1, D, ⟨es, clock, hb, q1⟩, q2⟩, h3, h4, h5⟩ := h
  have hw := h1.size
  have n1 : ∀ e, 105 ≠ e → ∀ cs z, wr.heap[w.heap.size + 2]? ≠ some (.cells cs e z) := fun e he cs z h => by
    rw [h3] at h; injection h with h; injection h with _ h; exact he h
  exact ⟨h1.trans (hx.below (by omega) (by omega) hw), ⟨(hx.block _ (by omega) (by omega) (by omega)).trans t1, D, ⟨es, clock, (hx.block _ (by omega) (by omega) (by omega)).trans hb, q1⟩, q2⟩, hT, Lw.own_bx h4 hx (n1 _ (by decide)) (n1 _ (by decide)), Lw.own_bx h5 hx (n1 _ (by decide)) (n1 _ (by decide))⟩
theorem TK.grown {key most : Int} {tb bm : Nat} {ks : List Nat} {come : Nat} {w w' : World} {r : Option Nat} (h : TK key most tb bm ks come w) (hg : w.grownBy w' r) (h1 : r ≠ some tb) (h2 : r ≠ some bm) : TK key most tb bm ks come w' := by
  obtain ⟨t1, D, own, q2⟩ := h
  exact ⟨(hg.block _ (Lw.blk_lt t1) (fun e => h1 e.symm)).trans t1, D, own.kept hg (fun e => h2 e.symm), q2⟩
theorem own_away {e s n base : Nat} {w : World} {v : Value} {xs : List Value} (h : w.ownsRow base e s v n xs) {k : Nat} (hk : k < base) : v.ownBlock ≠ some k := fun e => by have := (h.lt k e).1; omega
/-- a post is told -/
theorem PlS.tell {key most : Int} {w : World} {m : Nat} {s : Lw.RSt} {out out' : List (Int × Int)} {v10 v11 v' : Value} {wr W : World} {o : Obj} (h : PlS key most w m s out v10 v11 wr) (hg : (wr.alloc o).grownBy W v11.ownBlock)
    (hB : Below w.heap.size w W) (own : W.ownsRow (w.heap.size + 3) 113 2 v' out'.length (Lw.pairsV .i64 .i64 out')) : PlS key most w m s out' v10 v' W := by
  have hsz := h.size
  obtain ⟨h1, h2, h3, h4, h5⟩ := h
  have g0 := World.grownBy_alloc wr o none
  have a1 := own_away h5 (k := w.heap.size + 1) (by omega)
  have a0 := own_away h5 (k := w.heap.size) (by omega)
  have a2 := own_away h5 (k := w.heap.size + 2) (by omega)
  exact ⟨hB, (h2.grown g0 (by simp) (by simp)).grown hg a1 a0, (hg.block _ (by simp; omega) (fun e => a2 e.symm)).trans ((g0.block _ (by omega) (by simp)).trans h3), Lw.own_keep' (h4.alloc o) (h5.alloc o) (by decide) hg, own⟩
/-- a number is sealed -/
theorem PlS.sealed {key most : Int} {w : World} {m : Nat} {s : Lw.RSt} {z : Int} {out : List (Int × Int)} {v10 v11 v' : Value} {wr W : World} {o : Obj} (h : PlS key most w m s out v10 v11 wr) (hg : (wr.alloc o).grownBy W v10.ownBlock)
    (hB : Below w.heap.size w W) (own : W.ownsRow (w.heap.size + 3) 3 1 v' (s.nums ++ [z]).length (Lw.intsV .i64 (Lw.sealL key (s.nums ++ [z])))) : PlS key most w m { s with nums := s.nums ++ [z] } out v' v11 W := by
  have hsz := h.size
  obtain ⟨h1, h2, h3, h4, h5⟩ := h
  have g0 := World.grownBy_alloc wr o none
  have a1 := own_away h4 (k := w.heap.size + 1) (by omega)
  have a0 := own_away h4 (k := w.heap.size) (by omega)
  have a2 := own_away h4 (k := w.heap.size + 2) (by omega)
  exact ⟨hB, (h2.grown g0 (by simp) (by simp)).grown hg a1 a0, (hg.block _ (by simp; omega) (fun e => a2 e.symm)).trans ((g0.block _ (by omega) (by simp)).trans h3), own, Lw.own_keep' (h5.alloc o) (h4.alloc o) (by decide) hg⟩
theorem PlS.below {key most : Int} {w : World} {m : Nat} {s : Lw.RSt} {out : List (Int × Int)} {v10 v11 : Value} {wr W : World} (h : PlS key most w m s out v10 v11 wr) (hb : Below wr.heap.size wr W) : PlS key most w m s out v10 v11 W :=
  h.sender (Lw.BX.of hb) ((hb.block _ (Lw.blk_lt h.2.2.1)).trans h.2.2.1)
theorem PlS.px {key most : Int} {w : World} {m : Nat} {s : Lw.RSt} {out : List (Int × Int)} {v10 v11 : Value} {W : World} {k i : Nat} {u : Value} (h : PlS key most w m s out v10 v11 W) (hk : w.heap.size + 3 ≤ k) (h10 : v10.ownBlock ≠ some k) (h11 : v11.ownBlock ≠ some k) : PlS key most w m s out v10 v11 (W.setCell ⟨k, i, none⟩ u) := by
  obtain ⟨h1, h2, h3, h4, h5⟩ := h
  have g : W.grownBy (W.setCell ⟨k, i, none⟩ u) (some k) := Lw.grown_set (Below.refl _ _) _
  exact ⟨h1.setCell (p := ⟨k, i, none⟩) (by show w.heap.size ≤ k; omega) _, h2.grown g (fun e => by injection e; omega) (fun e => by injection e; omega), (Below.heap_setCell _ _ _ _ (by show w.heap.size + 2 ≠ k; omega)).trans h3, Lw.own_setk h4 h10, Lw.own_setk h5 h11⟩
theorem psd_one (a b : Int) : ∀ u ∈ Lw.pairsV .i64 .i64 [(a, b)], u.oneCell' = true := by intro u hu; simp [Lw.pairsV] at hu; rcases hu with rfl | rfl <;> rfl
/-- what Play returns -/
def PlayR (out : List (Int × Int)) (w : World) (x : Ending) (w' : World) : Prop := ∃ A c, x = .returned (.tuple #[.slice A out.length c, .int .i64 0]) ∧ w'.ownsRow w.heap.size 113 2 (.slice A out.length c) out.length (Lw.pairsV .i64 .i64 out) ∧ Below w.heap.size w w'
theorem ratchet_out (x : Int) (w : World) : Calls Try.prog 73 #[.int .i64 x] w fun e w' => e = .returned (.bool (decide (x < 0) || decide (65535 < x))) ∧ w = w' := by
  by_cases h0 : x < 0
  · go_enter Try.func73, Try.ntmps73
    go_wp2
    go_ret
    exact ⟨by simp [h0], rfl⟩
  · by_cases h1 : 65535 < x
    · have h2 : (65536 : Int) ≤ x := by omega
      go_enter Try.func73, Try.ntmps73
      go_wp2
      go_ret
      exact ⟨by simp [h0, h1], rfl⟩
    · have h2 : ¬ (65536 : Int) ≤ x := by omega
      go_enter Try.func73, Try.ntmps73
      go_wp2
      go_ret
      exact ⟨by simp [h0, h1], rfl⟩
set_option maxRecDepth 100000 in
set_option maxHeartbeats 8000000 in
theorem ratchet_Play (key most : Int) (A : Option Addr) (n c : Nat) (L : List (Int × Int × Int)) (w : World) (R : Lw.Rd w 3 A n (Lw.tripsV L)) (k1 : 0 ≤ key) (k2 : key < 65536) (m1 : 0 ≤ most) (m2 : most ≤ 100) (hn : n ≤ 100) :
    Calls Try.prog 31 #[.int .i64 key, .int .i64 most, .slice A n c] w (PlayR (Lw.rRun key most L).1 w) := by
  have OU := Lib.hid (fun x w => ratchet_out x w)
  have o1 : (decide (key < 0) || decide (65535 < key)) = false := by simp; omega
  have LL := Lib.hid (show L.length = n by have := R.1; rw [Lw.tripsV_length] at this; omega)
  have R := Lib.hid R
  have K1 := Lib.hid (And.intro k1 k2)
  have hmm := @run_makeMap Try.prog
  have q1 : ¬ most < 0 := by omega
  have q2 : ¬ 100 < most := by omega
  have q3 : ¬ (100 : Int) < (n : Int) := by omega
  go_enter Try.func31, Try.ntmps31
  go_wp2_with (go_at_call 73; (with_reducible refine (OU.out _ _).mono ?_); rintro e w' ⟨rfl, rfl⟩)
  go_loopw [10, 11, 37] (fun v10 v11 i wr => ∃ k : Nat, i = .int .i64 (k : Int) ∧ k ≤ n ∧ PlS key most w (Lw.rRun key most (L.take k)).2.nums.length (Lw.rRun key most (L.take k)).2 (Lw.rRun key most (L.take k)).1 v10 v11 wr) (fun _ _ i _ => n - (intOf i).toNat)
  case atStart =>
    refine ⟨0, rfl, by omega, Lw.balloc (Lw.balloc (Lw.balloc (Below.refl _ _) _) _) _, ⟨Lw.blk_alloc (Lw.blk_new' (by simp) _ _) _, _, ((World.ownsMap_made _ _ _ _).alloc _).alloc _, Lw.kep_zero key⟩, Lw.blk_new' (by simp) _ _, World.ownsRow_nil _ _ _ _, World.ownsRow_nil _ _ _ _⟩
  case round =>
    obtain ⟨k, rfl, k1, PS⟩ := hrel
    by_cases hlt : k < n
    · have hlt' : (k : Int) < (n : Int) := by omega
      have hl : k < L.length := by rw [LL.out]; exact hlt
      have RT := Lib.hid (Lw.rrun_take (key := key) (most := most) hl)
      have RO := Lib.hid (Lw.rrun_ok key most L k (by omega))
      have RL := Lib.hid (Lw.rrun_len key most L k (by omega))
      have RN := Lib.hid (Lw.rrun_nums key most L k (by omega))
      obtain ⟨ad, rfl, had, h0, h1, h2⟩ := R.out.at3 hlt (Lw.tripsV_get hl).1 (Lw.tripsV_get hl).2.1 (Lw.tripsV_get hl).2.2
      have PSZ := PS.size
      have hB := PS.1
      have r0 := (hB.cell (p := ad.add (k * 3)) (by rw [Lw.add_block]; exact had)).trans h0
      have r1 := (hB.cell (p := ⟨(ad.add (k * 3)).block, (ad.add (k * 3)).off + 1, none⟩) (by rw [Lw.add_block]; exact had)).trans h1
      have r2 := (hB.cell (p := ⟨(ad.add (k * 3)).block, (ad.add (k * 3)).off + 2, none⟩) (by rw [Lw.add_block]; exact had)).trans h2
      have REL : Hid (∀ (v10 v11 : Value) (wr' : World), PlS key most w (Lw.rRun key most (L.take (k + 1))).2.nums.length (Lw.rRun key most (L.take (k + 1))).2 (Lw.rRun key most (L.take (k + 1))).1 v10 v11 wr' → ∃ k_1 : Nat, Value.int .i64 ((k : Int) + 1) = .int .i64 (k_1 : Int) ∧ k_1 ≤ n ∧ PlS key most w (Lw.rRun key most (L.take k_1)).2.nums.length (Lw.rRun key most (L.take k_1)).2 (Lw.rRun key most (L.take k_1)).1 v10 v11 wr') :=
        fun _ _ _ h => ⟨k + 1, by go_num, by omega, h⟩
      rw [RT.out] at REL
      obtain ⟨⟨kd, ms, nn⟩, hx⟩ : ∃ x, L[k] = x := ⟨_, rfl⟩
      rw [hx] at REL r0 r1 r2
      obtain ⟨⟨out, st⟩, hrr⟩ : ∃ x, Lw.rRun key most (L.take k) = x := ⟨_, rfl⟩
      rw [hrr] at REL RO RL RN PS
      simp only at REL RO RL RN PS r0 r1 r2
      obtain ⟨⟨p1, s2⟩, hstp⟩ : ∃ x, Lw.rStep key most st kd ms nn = x := ⟨_, rfl⟩
      rw [hstp] at REL
      simp only at REL
      have PSH := Lib.hid PS
      have HST := Lib.hid hstp
      have hsv := PS.size
      have PS1 := Lib.hid (fun o => PS.below (Lw.balloc (Lw.balloc (Below.refl _ wr) (.cells #[.int .i64 kd, .int .i64 ms, .int .i64 nn] 111)) o))
      have rl : out.length ≤ 100 := by have := RL.out; omega
      have hs3 := hB.size
      clear RT hx hrr hstp PS h0 h1 h2
      rcases (by omega : (kd = 1 ∧ (nn < 0 ∨ 65535 < nn)) ∨ (kd = 1 ∧ 0 ≤ nn ∧ nn < 65536) ∨ (¬ kd = 1 ∧ ¬ kd = 2) ∨ (kd = 2 ∧ (ms < 0 ∨ (st.nums.length : Int) ≤ ms)) ∨ (kd = 2 ∧ 0 ≤ ms ∧ ms < (st.nums.length : Int))) with ⟨rfl, hc⟩ | ⟨rfl, hc⟩ | ⟨hc1, hc2⟩ | ⟨rfl, hc⟩ | ⟨rfl, hc1, hc2⟩
      -- CASES
      · obtain ⟨rfl, rfl⟩ := Prod.mk.inj (HST.out.symm.trans (Lw.rstep_range rfl hc))
        have ob : (decide (nn < 0) || decide (65535 < nn)) = true := by simp; omega
        clear hc
        go_wp2_with (first | (go_at_call 73; (with_reducible refine (OU.out _ _).mono ?_); rintro e w' ⟨rfl, rfl⟩) | (at_builtin; refine Lw.wpList_app elPsd rfl _ _ rfl rfl (World.ownsRow.alloc (PS1.out _).2.2.2.2 _) rfl (by exact Lw.Rd.lit (Lw.blk_new' (by simp) _ _) rfl rfl) (psd_one 2 0) (by omega) (Lw.balloc (PS1.out _).1 _) (by omega) (by first | (simp; omega) | (have := (PS1.out _).size; simp; omega)) ?_; intro v3 w3 own3 hb3 hg3 _))
        go_roundw
        case rel => exact REL.out _ _ _ (PlS.tell (PS1.out _) hg3 hb3 (by rw [List.length_append, Lw.pairsV_append]; exact own3))
        case measure => simp [intOf]; omega
      · obtain ⟨rfl, rfl⟩ := Prod.mk.inj (HST.out.symm.trans (Lw.rstep_send rfl (by omega)))
        have ob : (decide (nn < 0) || decide (65535 < nn)) = false := by simp; omega
        obtain ⟨z0, z1⟩ := Lw.msgKey_bd key st.nums.length
        have hX := Lw.i64_xorI (a := nn) (b := Lw.msgKey key st.nums.length) (by omega) (by omega) z0 (by omega)
        obtain ⟨kb1, kb2⟩ := Lw.keyN_bd K1.out.1 K1.out.2 st.nums.length
        have EK : Hid (Lw.keyPart (Lw.keyN key st.nums.length) 2 = Lw.keyN key (st.nums.length + 1)) := rfl
        have EM : Hid (Lw.keyPart (Lw.keyN key st.nums.length) 1 = Lw.msgKey key st.nums.length) := rfl
        have T4 := Lib.hid (fun W h => ratchet_turn (Lw.keyN key st.nums.length) (w.heap.size + 2) 105 W kb1 kb2 h)
        rw [EM.out, EK.out] at T4
        have SN := Lib.hid (Lw.sealL_snoc key st.nums nn)
        simp only [List.length_append, List.length_cons, List.length_nil] at REL
        generalize Lw.msgKey key st.nums.length = mk at *
        obtain ⟨X, hXX⟩ : ∃ X, Lw.xorI nn mk = X := ⟨_, rfl⟩
        rw [hXX] at hX SN REL
        have hN : st.nums.length ≤ 100 := by have := RN.out; omega
        clear hc EK EM hXX
        obtain ⟨W1, hW1⟩ : ∃ W1, (wr.alloc (.cells #[.int .i64 1, .int .i64 ms, .int .i64 nn] 111)).alloc (.cells #[.int .i64 0, .int .i64 0] 113) = W1 := ⟨_, rfl⟩
        have bS : W1.heap[wr.heap.size]? = some (.cells #[.int .i64 1, .int .i64 ms, .int .i64 nn] 111 (0, 0)) := by rw [← hW1]; exact Lw.blk_alloc (Lw.blk_new _ _ _) _
        have bP : W1.heap[wr.heap.size + 1]? = some (.cells #[.int .i64 0, .int .i64 0] 113 (0, 0)) := by rw [← hW1]; exact Lw.blk_new' (by simp) _ _
        have hz1 : W1.heap.size = wr.heap.size + 2 := by rw [← hW1]; simp
        have hbW : Below wr.heap.size wr W1 := by rw [← hW1]; exact Lw.balloc (Lw.balloc (Below.refl _ wr) _) _
        have bSB := (PSH.out.below hbW).2.2.1
        have sN := Lw.blk_cell bS 2
        simp at sN
        have HW1 := Lib.hid hW1
        clear hW1
        go_wp2_with (go_at_call 73; (with_reducible refine (OU.out _ _).mono ?_); rintro e w' ⟨rfl, rfl⟩)
        rw [HW1.out]
        refine wp_region_held_drew (S := fun w' => w'.cell? ⟨wr.heap.size, 2, none⟩ = some (.int .i64 nn) ∧ True ∧ True ∧ True) (by kernel_rfl) (by exact ⟨sN, trivial, trivial, trivial⟩) (fun hHeld => ?_)
        (refine Lw.take1 (i := 0) (v := ?_) rfl (by kernel_rfl) (by kernel_rfl) (by kernel_rfl) (fun _ _ _ h => h) (Or.inl ⟨by rfl, ?_⟩) (by assumption) ?_; rotate_left 1; (focus (intro wS hSw; obtain ⟨hS1, hS2, hS3, hS4⟩ := hSw; go_simp <;> with_reducible rfl)); (try simp only [Act.put, List.setIfInBounds_toArray, List.set_cons_zero, List.set_cons_succ]))
        (refine Lw.take1 (i := 1) (v := ?_) rfl (by kernel_rfl) (by kernel_rfl) (by kernel_rfl) (fun _ _ _ h => h) (Or.inl ⟨by rfl, ?_⟩) (by assumption) ?_; rotate_left 1; (focus (intro wS hSw; obtain ⟨hS1, hS2, hS3, hS4⟩ := hSw; go_simp <;> with_reducible rfl)); (try simp only [Act.put, List.setIfInBounds_toArray, List.set_cons_zero, List.set_cons_succ]))
        have SS : ∀ W' : World, W'.heap[wr.heap.size]? = W1.heap[wr.heap.size]? → W'.cell? ⟨wr.heap.size, 2, none⟩ = some (.int .i64 nn) ∧ True ∧ True ∧ True := fun W' h => by
          have d := Lw.blk_cell (h.trans bS) 2
          simp at d
          exact ⟨d, trivial, trivial, trivial⟩
        (refine wpAnyH_ready (rs := [2]) (by kernel_rfl) (by simp) ?_; refine Lw.cons1 (i := 2) rfl (fun K hK => ?_) AllReadyH.nil; go_simp; go_at_call 74; (with_reducible refine (T4.out W1.drew (Lw.blk_drew bSB)).mono ?_); rintro e w1 ⟨rfl, bsb1, g1⟩; refine hK.out _ _ ?_ (fun hHeld => ?_); (focus exact SS _ (g1.block _ (by show wr.heap.size < W1.heap.size; omega) (by simp; omega))); clear hK K; (try simp only [Act.put, List.setIfInBounds_toArray, List.set_cons_zero, List.set_cons_succ]))
        (refine Lw.take1 (i := 3) (v := ?_) rfl (by kernel_rfl) (by kernel_rfl) (by kernel_rfl) (fun _ _ _ h => h) (Or.inl ⟨by rfl, ?_⟩) (by assumption) ?_; rotate_left 1; (focus (intro wS hSw; obtain ⟨hS1, hS2, hS3, hS4⟩ := hSw; go_simp <;> with_reducible rfl)); (try simp only [Act.put, List.setIfInBounds_toArray, List.set_cons_zero, List.set_cons_succ]))
        (refine Lw.take1 (i := 4) (v := ?_) rfl (by kernel_rfl) (by kernel_rfl) (by kernel_rfl) (fun _ _ _ h => h) (Or.inl ⟨by rfl, ?_⟩) (by assumption) ?_; rotate_left 1; (focus (intro wS hSw; obtain ⟨hS1, hS2, hS3, hS4⟩ := hSw; go_simp <;> with_reducible rfl)); (try simp only [Act.put, List.setIfInBounds_toArray, List.set_cons_zero, List.set_cons_succ]))
        have bS1 : w1.heap[wr.heap.size]? = W1.heap[wr.heap.size]? := g1.block _ (by show wr.heap.size < W1.heap.size; omega) (by simp; omega)
        have bP1 : w1.heap[wr.heap.size + 1]? = some (.cells #[.int .i64 0, .int .i64 0] 113 (0, 0)) := (g1.block _ (by show wr.heap.size + 1 < W1.heap.size; omega) (by simp; omega)).trans bP
        have p1 := Lw.blk_cell bP1 1
        have f1 := Lw.blk_free bP1 1
        simp at p1
        (refine wpAnyH_ready (rs := [5]) (by kernel_rfl) (by simp) ?_; refine Lw.cons1 (i := 5) rfl (fun K hK => ?_) AllReadyH.nil; go_simp; refine hK.out _ _ ?_ (fun hHeld => ?_); (focus exact SS _ ((Below.heap_setCell _ _ _ _ (by show wr.heap.size ≠ wr.heap.size + 1; omega)).trans bS1)); clear hK K; (try simp only [Act.put, List.setIfInBounds_toArray, List.set_cons_zero, List.set_cons_succ]))
        refine wpAnyH_done (by kernel_rfl) ?_ _
        have bP2 := Lw.blk_set_same bP1 1 (.int .i64 X)
        have sz1 := g1.size
        have sz1 : W1.heap.size ≤ w1.heap.size := sz1
        have PS2 := PSH.out.sender (m' := st.nums.length + 1) (W := w1.setCell ⟨wr.heap.size + 1, 1, none⟩ (.int .i64 X)) (((Lw.BX.of (Below.drew hbW)).trans (Lw.BX.of2 (Lw.G2.left g1) (by show wr.heap.size ≤ W1.heap.size; omega))).trans (Lw.BX.of (Below.setCell (Below.refl _ w1) (p := ⟨wr.heap.size + 1, 1, none⟩) (by show wr.heap.size ≤ wr.heap.size + 1; omega) _))) ((Below.heap_setCell _ _ _ _ (by show w.heap.size + 2 ≠ wr.heap.size + 1; omega)).trans bsb1)
        have PS2 := Lib.hid PS2
        have q0 := Lw.blk_cell bP2 0
        have q1 := Lw.blk_cell bP2 1
        simp at q0 q1
        clear hHeld bS1
        go_wp2_with (first | ((at_builtin; refine Lw.wpList_app elInt rfl _ _ rfl rfl (World.ownsRow.alloc (PS2.out).2.2.2.1 _) rfl (by exact Lw.Rd.lit (Lw.blk_new' (by simp) _ _) rfl rfl) (Lw.intsV_one _ [X]) (by omega) (Lw.balloc (PS2.out).1 _) (by omega) (by first | (simp; omega) | (have := (PS2.out).size; simp; omega)) ?_; intro v2 w5 own5 hb5 hg5 _); have bP5 := (hg5.block _ (by simp; omega) (fun e => Lw.own_other PS2.out.2.2.2.1 bP2 (by decide) e.symm)).trans (Lw.blk_alloc bP2 _); have PS5 := Lib.hid (PlS.sealed PS2.out hg5 hb5 (by rw [SN.out, List.length_append, Lw.intsV_app]; exact own5)); have u0 := Lw.blk_cell bP5 0; have u1 := Lw.blk_cell bP5 1; simp at u0 u1; have sz5 := PS5.out.size) | (at_builtin; refine Lw.wpList_app elPsd rfl _ _ rfl rfl (World.ownsRow.alloc (PS5.out).2.2.2.2 _) rfl (by exact Lw.Rd.lit (Lw.blk_new' (by simp) _ _) rfl rfl) (psd_one 0 X) (by omega) (Lw.balloc (PS5.out).1 _) (by omega) (by first | (simp; omega) | (have := (PS5.out).size; simp; omega)) ?_; intro v3 w3 own3 hb3 hg3 _))
        have bP5 := (hg5.block _ (by simp; omega) (fun e => Lw.own_other PS2.out.2.2.2.1 bP2 (by decide) e.symm)).trans (Lw.blk_alloc bP2 _)
        have PS5 := PlS.sealed PS2.out hg5 hb5 (by rw [SN.out, List.length_append, Lw.intsV_app]; exact own5)
        go_roundw
        case rel => exact REL.out _ _ _ (PlS.tell PS5 hg3 hb3 (by rw [List.length_append, Lw.pairsV_append]; exact own3))
        case measure => simp [intOf]; omega
      · obtain ⟨rfl, rfl⟩ := Prod.mk.inj (HST.out.symm.trans (Lw.rstep_kind hc1 hc2))
        have z1 : (kd == 1) = false := by simpa using hc1
        have z2 : (kd == 2) = false := by simpa using hc2
        go_wp2_with (first | (at_builtin; refine Lw.wpList_app elPsd rfl _ _ rfl rfl (World.ownsRow.alloc (PS1.out _).2.2.2.2 _) rfl (by exact Lw.Rd.lit (Lw.blk_new' (by simp) _ _) rfl rfl) (psd_one 6 0) (by omega) (Lw.balloc (PS1.out _).1 _) (by omega) (by first | (simp; omega) | (have := (PS1.out _).size; simp; omega)) ?_; intro v3 w3 own3 hb3 hg3 _))
        go_roundw
        case rel => exact REL.out _ _ _ (PlS.tell (PS1.out _) hg3 hb3 (by rw [List.length_append, Lw.pairsV_append]; exact own3))
        case measure => simp [intOf]; omega
      · have HSA := Lib.hid (Lw.rstep_arg (key := key) (most := most) (n := nn) rfl hc)
        rcases (by omega : ms < 0 ∨ (¬ ms < 0 ∧ (st.nums.length : Int) ≤ ms)) with h1 | ⟨h1, h2⟩
        all_goals
          clear hc
          obtain ⟨rfl, rfl⟩ := Prod.mk.inj (HST.out.symm.trans HSA.out)
          obtain ⟨A10, c10, rfl, _⟩ := Lw.ownsForm PSH.out.2.2.2.1
          go_wp2_with (first | (at_builtin; refine Lw.wpList_app elPsd rfl _ _ rfl rfl (World.ownsRow.alloc (PS1.out _).2.2.2.2 _) rfl (by exact Lw.Rd.lit (Lw.blk_new' (by simp) _ _) rfl rfl) (psd_one 3 0) (by omega) (Lw.balloc (PS1.out _).1 _) (by omega) (by first | (simp; omega) | (have := (PS1.out _).size; simp; omega)) ?_; intro v3 w3 own3 hb3 hg3 _))
          go_roundw
          case rel => exact REL.out _ _ _ (PlS.tell (PS1.out _) hg3 hb3 (by rw [List.length_append, Lw.pairsV_append]; exact own3))
          case measure => simp [intOf]; omega
      · obtain ⟨m, rfl⟩ := Int.eq_ofNat_of_zero_le hc1
        have hm : m < st.nums.length := by omega
        have hN : st.nums.length ≤ 100 := by have := RN.out; omega
        have hks : st.ks.length ≤ 100 := by have := RO.out.1; have := RO.out.2.2.1; omega
        obtain ⟨W1, hW1⟩ : ∃ W1, (wr.alloc (.cells #[.int .i64 2, .int .i64 (m : Int), .int .i64 nn] 111)).alloc (.cells #[.int .i64 0, .int .i64 0] 113) = W1 := ⟨_, rfl⟩
        have bS : W1.heap[wr.heap.size]? = some (.cells #[.int .i64 2, .int .i64 (m : Int), .int .i64 nn] 111 (0, 0)) := by rw [← hW1]; exact Lw.blk_alloc (Lw.blk_new _ _ _) _
        have bP : W1.heap[wr.heap.size + 1]? = some (.cells #[.int .i64 0, .int .i64 0] 113 (0, 0)) := by rw [← hW1]; exact Lw.blk_new' (by simp) _ _
        have hz1 : W1.heap.size = wr.heap.size + 2 := by rw [← hW1]; simp
        have hbW : Below wr.heap.size wr W1 := by rw [← hW1]; exact Lw.balloc (Lw.balloc (Below.refl _ wr) _) _
        have TK1 := (PSH.out.below hbW).2.1
        have hne10 : u10.ownBlock ≠ some (wr.heap.size + 1) := fun e => by have := (PSH.out.2.2.2.1.lt _ e).2; omega
        have hne11 : u11.ownBlock ≠ some (wr.heap.size + 1) := fun e => by have := (PSH.out.2.2.2.2.lt _ e).2; omega
        obtain ⟨A10, c10, rfl, _⟩ := Lw.ownsForm PSH.out.2.2.2.1
        have h1' : ¬ (m : Int) < 0 := by omega
        have h2' : ¬ (st.nums.length : Int) ≤ (m : Int) := by omega
        have HW1 := Lib.hid hW1
        have HSM := Lib.hid hm
        clear hW1
        by_cases hg : (m < st.come ∧ m ∈ st.ks) ∨ (st.come ≤ m ∧ ¬ most < (st.ks.length : Int) + (m : Int) - (st.come : Int))
        · obtain ⟨ks', come', hs2, OP⟩ : ∃ ks' come', (p1, s2) = ((0, st.nums.getD m 0), (⟨st.nums, ks', come'⟩ : Lw.RSt)) ∧ Hid (Calls Try.prog 75 #[.pointer (some ⟨w.heap.size + 1, 0, none⟩), .int .i64 (m : Int)] W1 fun e w' => e = .returned (.tuple #[.int .i64 (Lw.msgKey key m), .int .i64 0]) ∧ TK key most (w.heap.size + 1) w.heap.size ks' come' w' ∧ Lw.G2 (w.heap.size + 1) w.heap.size W1 w') := by
            rcases hg with ⟨g1, g2⟩ | ⟨g1, g2⟩
            · exact ⟨_, _, HST.out.symm.trans (Lw.rstep_kept rfl hm g1 g2), open_kept key most _ _ _ _ m W1 (by omega) TK1 g1 g2⟩
            · exact ⟨_, _, HST.out.symm.trans (Lw.rstep_take rfl hm g1 g2), open_take key most _ _ _ _ m W1 K1.out.1 K1.out.2 (by omega) (by omega) TK1 RO.out.2.1 g1 g2⟩
          obtain ⟨rfl, rfl⟩ := Prod.mk.inj hs2
          obtain ⟨a0, a1⟩ := RO.out.2.2.2 (st.nums.getD m 0) (by rw [List.getD_eq_getElem?_getD, List.getElem?_eq_getElem hm]; exact List.getElem_mem hm)
          obtain ⟨z0, z1⟩ := Lw.msgKey_bd key m
          have XB := Lw.xorI_bd (st.nums.getD m 0) (Lw.msgKey key m) (by omega) (by omega)
          have hX := Lw.i64_xorI (a := Lw.xorI (st.nums.getD m 0) (Lw.msgKey key m)) (b := Lw.msgKey key m) XB.1 XB.2 z0 (by omega)
          rw [Lw.xorI_back a0 z0] at hX
          have SG := Lib.hid (Lw.sealL_get (key := key) hm)
          generalize Lw.msgKey key m = mk at *
          generalize st.nums.getD m 0 = num at *
          generalize Lw.xorI num mk = xr at *
          clear hg hs2 TK1 XB hm
          go_wp2_with fail
          rw [HW1.out]
          refine OP.out.mono ?_
          rintro e w1 ⟨rfl, T2, g2⟩
          have sz1 := g2.size
          have bS1 := (g2.block wr.heap.size (by omega) (by omega) (by omega)).trans bS
          have bP1 := (g2.block (wr.heap.size + 1) (by omega) (by omega) (by omega)).trans bP
          have p0 := Lw.blk_cell bP1 0
          have f0 := Lw.blk_free bP1 0
          simp at p0
          have bP2 := Lw.blk_set_same bP1 0 (.int .i64 0)
          have bS2 := (Below.heap_setCell w1 ⟨wr.heap.size + 1, 0, none⟩ (.int .i64 0) wr.heap.size (by show wr.heap.size ≠ wr.heap.size + 1; omega)).trans bS1
          have q0 := Lw.blk_cell bP2 0
          have q1 := Lw.blk_cell bP2 1
          have v1 := Lw.blk_free bP2 1
          have s1 := Lw.blk_cell bS2 1
          simp at q0 q1 s1
          have PSa := PSH.out.taker (s' := ⟨st.nums, ks', come'⟩) ((Lw.BX.of hbW).trans (Lw.BX.of2 g2 (by omega))) T2 rfl
          have PSb := Lib.hid (PSa.px (i := 0) (u := .int .i64 0) (by omega) hne10 hne11)
          have PSc := Lib.hid (PSb.out.px (i := 1) (u := .int .i64 num) (by omega) hne10 hne11)
          obtain ⟨ad10, rfl, _, c10'⟩ := (Lw.Rd.of_own PSb.out.2.2.2.1).at1 (x := .int .i64 xr) HSM.out (by unfold Lw.intsV; rw [List.getElem?_map, SG.out]; rfl)
          have bP3 := Lw.blk_set_same bP2 1 (.int .i64 num)
          have t0 := Lw.blk_cell bP3 0
          have t1 := Lw.blk_cell bP3 1
          simp at t0 t1
          have szc := PSc.out.size
          have h3' : (m : Int) < (st.nums.length : Int) := by have := HSM.out; omega
          clear PSa bP1 bS1
          go_wp2_with (first | (at_builtin; refine Lw.wpList_app elPsd rfl _ _ rfl rfl (World.ownsRow.alloc (PSc.out).2.2.2.2 _) rfl (by exact Lw.Rd.lit (Lw.blk_new' (by simp) _ _) rfl rfl) (psd_one 0 num) (by omega) (Lw.balloc (PSc.out).1 _) (by omega) (by first | (simp; omega) | (have := (PSc.out).size; simp; omega)) ?_; intro v3 w3 own3 hb3 hg3 _))
          go_roundw
          case rel => exact REL.out _ _ _ (PlS.tell PSc.out hg3 hb3 (by rw [List.length_append, Lw.pairsV_append]; exact own3))
          case measure => simp [intOf]; omega
        · obtain ⟨code, hcode, hs2, OP⟩ : ∃ code : Int, (code == 0) = false ∧ (p1, s2) = ((code, 0), st) ∧ Hid (Calls Try.prog 75 #[.pointer (some ⟨w.heap.size + 1, 0, none⟩), .int .i64 (m : Int)] W1 fun e w' => e = .returned (.tuple #[.int .i64 0, .int .i64 code]) ∧ Below W1.heap.size W1 w') := by
            by_cases g1 : m < st.come
            · have g2 : m ∉ st.ks := fun h => hg (.inl ⟨g1, h⟩)
              exact ⟨5, rfl, HST.out.symm.trans (Lw.rstep_none rfl hm g1 g2), (open_none key most _ _ _ _ m W1 (by omega) TK1 g1 g2).mono fun e w' ⟨h1, h2⟩ => ⟨h1, by subst h2; exact Below.refl _ _⟩⟩
            · have g2 : most < (st.ks.length : Int) + (m : Int) - (st.come : Int) := by
                rcases Int.lt_or_le most ((st.ks.length : Int) + (m : Int) - (st.come : Int)) with h | h
                · exact h
                · exact absurd (.inr ⟨by omega, by omega⟩) hg
              exact ⟨1, rfl, HST.out.symm.trans (Lw.rstep_large rfl hm (by omega) g2), open_large key most _ _ _ _ m W1 (by omega) (by omega) TK1 (by omega) g2⟩
          clear hg TK1 hm
          obtain ⟨rfl, hs3⟩ := Prod.mk.inj hs2
          subst hs3
          clear hs2
          go_wp2_with fail
          rw [HW1.out]
          refine OP.out.mono ?_
          rintro e w1 ⟨rfl, hb1⟩
          have sz1 := hb1.size
          have bP1 := (hb1.block (wr.heap.size + 1) (by omega)).trans bP
          have p0 := Lw.blk_cell bP1 0
          have f0 := Lw.blk_free bP1 0
          simp at p0
          have bP2 := Lw.blk_set_same bP1 0 (.int .i64 code)
          have q0 := Lw.blk_cell bP2 0
          have q1 := Lw.blk_cell bP2 1
          simp at q0 q1
          have PSa := PSH.out.below (Lw.bt hbW hb1)
          have PSb := Lib.hid (PSa.px (i := 0) (u := .int .i64 code) (by omega) hne10 hne11)
          have szc := PSb.out.size
          clear PSa bP1
          go_wp2_with (first | (at_builtin; refine Lw.wpList_app elPsd rfl _ _ rfl rfl (World.ownsRow.alloc (PSb.out).2.2.2.2 _) rfl (by exact Lw.Rd.lit (Lw.blk_new' (by simp) _ _) rfl rfl) (psd_one code 0) (by omega) (Lw.balloc (PSb.out).1 _) (by omega) (by first | (simp; omega) | (have := (PSb.out).size; simp; omega)) ?_; intro v3 w3 own3 hb3 hg3 _))
          go_roundw
          case rel => exact REL.out _ _ _ (PlS.tell PSb.out hg3 hb3 (by rw [List.length_append, Lw.pairsV_append]; exact own3))
          case measure => simp [intOf]; omega
    · -- END
      have hlt' : ¬ (k : Int) < (n : Int) := by omega
      have hk : L.take k = L := List.take_of_length_le (by rw [LL.out]; omega)
      rw [hk] at PS
      obtain ⟨b1, _, _, _, b5⟩ := PS
      obtain ⟨A11, c11, rfl, _⟩ := Lw.ownsForm b5
      have B5 := Lib.hid b5
      clear b5 hk
      go_wp2
      go_ret2
      exact ⟨A11, c11, rfl, Lw.ownsBase B5.out (by omega), b1⟩
theorem play_range (key most : Int) (A : Option Addr) (n c : Nat) (w : World) (h : key < 0 ∨ 65535 < key ∨ most < 0 ∨ 100 < most) :
    Calls Try.prog 31 #[.int .i64 key, .int .i64 most, .slice A n c] w fun e w' => e = .returned (.tuple #[.slice none 0 0, .int .i64 2]) ∧ w = w' := by
  have OU := Lib.hid (fun x w => ratchet_out x w)
  by_cases hk : key < 0 ∨ 65535 < key
  · have o1 : (decide (key < 0) || decide (65535 < key)) = true := by simp; omega
    clear h hk
    go_enter Try.func31, Try.ntmps31
    go_wp2_with (go_at_call 73; (with_reducible refine (OU.out _ _).mono ?_); rintro e w' ⟨rfl, rfl⟩)
    go_ret2
    exact ⟨rfl, rfl⟩
  · have o1 : (decide (key < 0) || decide (65535 < key)) = false := by simp; omega
    rcases (by omega : most < 0 ∨ (¬ most < 0 ∧ 100 < most)) with h1 | ⟨h1, h2⟩
    all_goals
      clear h hk
      go_enter Try.func31, Try.ntmps31
      go_wp2_with (go_at_call 73; (with_reducible refine (OU.out _ _).mono ?_); rintro e w' ⟨rfl, rfl⟩)
      go_ret2
      exact ⟨rfl, rfl⟩
theorem play_large (key most : Int) (A : Option Addr) (n c : Nat) (w : World) (k1 : 0 ≤ key) (k2 : key < 65536) (m1 : 0 ≤ most) (m2 : most ≤ 100) (h : 100 < n) :
    Calls Try.prog 31 #[.int .i64 key, .int .i64 most, .slice A n c] w fun e w' => e = .returned (.tuple #[.slice none 0 0, .int .i64 1]) ∧ w = w' := by
  have OU := Lib.hid (fun x w => ratchet_out x w)
  have o1 : (decide (key < 0) || decide (65535 < key)) = false := by simp; omega
  have q1 : ¬ most < 0 := by omega
  have q2 : ¬ 100 < most := by omega
  have q3 : (100 : Int) < (n : Int) := by omega
  clear h
  go_enter Try.func31, Try.ntmps31
  go_wp2_with (go_at_call 73; (with_reducible refine (OU.out _ _).mono ?_); rintro e w' ⟨rfl, rfl⟩)
  go_ret2
  exact ⟨rfl, rfl⟩
end Go.Proofs.Ytlgegdmnbhoepaa
