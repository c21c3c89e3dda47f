/- Contract of primes.Factor: the list of the prime factors, collected from the iterator. -/
import Derived.Test.YtlgegdmnbhoepaaIs
import Derived.Test.YtlgegdmnbhoepaaFacRef
import Derived.RangeFuncBox
set_option linter.unusedVariables false
set_option linter.unusedSimpArgs false
namespace Go.Proofs.Ytlgegdmnbhoepaa
open Go.RowKit
open Go.Shelf
attribute [local go_sem] Oper.semAt_some
theorem held_abc {β : Type} {c base B : Nat} (t e : TypeId) (sz : Nat) (n : β → Nat) (xs : β → List Value) (hB : c < B) (hb : c < base) : Lw.AbC c (fun (s : β) W => ∃ v, Boxed W B t v ∧ W.ownsRow base e sz v (n s) (xs s) ∧ True) := by
  rintro s W W' row ⟨v, h1, h2, _⟩ hg hr
  refine ⟨v, h1.kept hg (fun e => by have := hr B e.symm; omega), ?_, trivial⟩
  rcases h2.2 with ⟨rfl, _⟩ | ⟨g, cap, cur, rfl, hg2, _⟩
  · exact h2.kept hg (.inl rfl)
  · refine h2.kept hg (.inr fun e => ?_)
    have := hr g (by simpa [Value.ownBlock] using e.symm); omega
set_option maxHeartbeats 1000000 in
theorem append_powers (m c : Nat) (w : World) (hm1 : 1 ≤ m) (hm2 : m ≤ 1048576) (hc : c < w.heap.size) (hb : w.heap[c]? = some (.cells #[.int .i64 (m : Int)] 2 (0, 0))) :
    Calls Try.prog 197 #[.slice none 0 0, .func (.func 140) #[] #[.pointer (some ⟨c, 0, none⟩)]] w fun e w' => (∃ A k, e = .returned (.slice A (Lw.fac m).length k) ∧ w'.ownsRow w.heap.size 142 2 (.slice A (Lw.fac m).length k) (Lw.fac m).length (Lw.pairsV .i64 .i64 (Lw.facP m))) ∧ Below c w w' := by
  obtain ⟨i0, hi, hz0, hz1, hz2⟩ := info_parts infoPower
  have HB0 := Lib.hid hb
  clear hb
  refine (callsIn_wide (n := 4)).1 ?_
  refine callsIn_of_wp_marks Try.func197 rfl trivial ?_ rfl
  simp only [Try.ntmps197, List.size_toArray, List.length_cons, List.length_nil, Nat.reduceAdd, Nat.reduceSub, Array.replicate_succ, Array.replicate_zero, List.push_toArray, List.append_toArray, List.nil_append, List.cons_append]
  gi_wp2
  refine Lw.wpIn_rangeC rfl (by omega) (gf := 140) (lb := #[.pointer (some ⟨c, 0, none⟩)]) rfl trivial (enters_of Try.func140 (by kernel_rfl) rfl) (powers1_seq _ c m _ (by omega) (by omega) (by omega) (Lw.blk_alloc HB0.out _)) (by simp; omega) (fun _ => rfl)
    (fun pre W => (∃ v, Boxed W w.heap.size 154 v ∧ W.ownsRow w.heap.size 142 2 v pre.length (Lw.pairsV .i64 .i64 (Lw.preP pre)) ∧ True) ∧ Below c w W)
    (fun k pre W => False)
    (Lw.own_and (Own.from (holdsRow_own _ _ _ _ _ (fun pre : List (Nat × Nat) => pre.length) (fun pre => Lw.pairsV .i64 .i64 (Lw.preP pre)) (fun _ _ => True)) _) (Lw.own_below (by simp; omega) (by omega)))
    (Lw.AbC.and (held_abc _ _ _ _ _ hc hc) (Lw.below_abc (by omega) (by omega)))
    (fun k => Lw.own_pure _) (fun k => Lw.abc_pure _) ⟨⟨_, Boxed.new _ _ _, World.ownsRow_nil _ _ _ _, trivial⟩, (Below.refl _ _).alloc (by omega) _⟩
    (fun x a' W => ∃ Bx, (w.heap.size < Bx ∧ a' = { tmps := #[.slice none 0 0, .func (.func 140) #[] #[.pointer (some ⟨c, 0, none⟩)], .pointer (some ⟨w.heap.size, 0, none⟩), undef, .slice none 0 0, .pointer (some ⟨Bx, 0, none⟩), .func (.func 140) #[] #[.pointer (some ⟨c, 0, none⟩)], .agg #[.int .i64 (x.1 : Int), .int .i64 (x.2 : Int)], undef, undef, undef, undef, undef], defers := [] }) ∧ W.heap[Bx]? = some (.cells #[.int .i64 (x.1 : Int), .int .i64 (x.2 : Int)] 142 (0, 0)))
    (fun x a' => Lw.own_ex fun Bx => Lw.own_and (Lw.own_pure _) (Lw.blk_own _ _ (fun _ => _) (fun _ => rfl))) ?assign ?body ?done ?stop
  case assign =>
    intro l pre x W K hi hK
    obtain ⟨⟨v, hv, own, _⟩, hB⟩ := hi
    have hlt := hv.lt
    have HV := Lib.hid hv
    have OWN := Lib.hid own
    clear hv own
    gi_wp2
    exact hK _ _ ((KeepsOthers.alloc _ _).from _) (Below.heap_alloc _ _ _ (by omega)) ⟨⟨v, HV.out.alloc _, OWN.out.alloc _, trivial⟩, hB.alloc (by have := hB.size; omega) _⟩ ⟨W.heap.size, ⟨hlt, rfl⟩, Lw.blk_new _ _ _⟩
  case body =>
    rename_i Q1 K1 HK1
    clear HK1 K1 Q1
    rintro l pre x a' W hl ⟨r, hr⟩ ⟨⟨v, hv, own, _⟩, hB⟩ ⟨Bx, ⟨hBx, rfl⟩, bx⟩ hx
    have hlen : pre.length + 1 ≤ m := by
      have h1 := hx.length_le
      have h2 := Lw.fac_length_le m
      simp at h1; omega
    have cv := hv.cell; have fv := hv.frozen
    have cx0 := Lw.blk_cell bx 0; have cx1 := Lw.blk_cell bx 1
    simp at cx0 cx1
    have hszW := hB.size
    have HV := Lib.hid hv
    have OWN := Lib.hid own
    have HX := Lib.hid hx
    have HR := Lib.hid hr
    clear hv own hx hr bx
    gi_wp2_with (gi_at_builtin; refine wpListIn_append_own _ rfl _ _ 154 rfl w.heap.size 142 i0 _ 2 16 Try.underlying154 hi hz0 hz1 hz2 rfl (by decide) _ _ _ rfl (OWN.out.alloc _) ⟨W.heap.size, 0, none⟩ 1 1 [.int .i64 (x.1 : Int), .int .i64 (x.2 : Int)] rfl rfl (Lw.cells_new _ _ _) (Lw.one2 _ _ _ _) (Lw.max_of (by omega)) (by omega) (by simp; omega) ?_; intro v' w1 hown' hgrow _; obtain ⟨g', cap', rfl⟩ := ownsRow_succ hown'; obtain ⟨hv1, hv2, hr2, hk2, hb2⟩ := HV.out.appended (by decide) OWN.out (by have := hB.size; omega) (Nat.le_refl _) hown' hgrow; have hc1 := hv1.cell; have hf1 := hv1.frozen; have R := Lib.hid (And.intro hv2 (And.intro hr2 (And.intro hk2 hb2))); clear hv1 hv2 hr2 hk2 hb2 hown' hgrow)
    obtain ⟨hv2, hr2, hk2, hb2⟩ := R.out
    refine ⟨hk2.from _, hb2.block c (by omega), ⟨_, hv2, ?_, trivial⟩, hB.trans (hb2.mono (by omega))⟩
    rw [Lw.preP_snoc, List.length_append]; exact hr2
  case done =>
    rintro D W hD ⟨⟨v, hv, own, _⟩, hB⟩ hK
    have cv := hv.cell
    obtain ⟨A, k, rfl, _⟩ := Lw.ownsForm own
    have HV := Lib.hid hv
    have OWN := Lib.hid own
    have HK := Lib.hid hK
    clear hv own hK
    gi_wp2
    refine ⟨by simp, .inl ⟨_, _, rfl, run_takeDeferred HK.out, ?_⟩⟩
    exact ⟨_, results_tmp rfl _ _ _, ⟨A, k, rfl, ownsRow_putObj OWN.out _ HK.out rfl⟩, hB.trans (belowK_b (w := w) (by omega) W D _ _ (by simp at hD; omega) HK.out rfl rfl)⟩
  case stop => intro D k pre W _ _ h; exact h.elim
theorem collect_powers (m c : Nat) (w : World) (hm1 : 1 ≤ m) (hm2 : m ≤ 1048576) (hc : c < w.heap.size) (hb : w.heap[c]? = some (.cells #[.int .i64 (m : Int)] 2 (0, 0))) :
    Calls Try.prog 161 #[.func (.func 140) #[] #[.pointer (some ⟨c, 0, none⟩)]] w fun e w' => (∃ A k, e = .returned (.slice A (Lw.fac m).length k) ∧ w'.ownsRow w.heap.size 142 2 (.slice A (Lw.fac m).length k) (Lw.fac m).length (Lw.pairsV .i64 .i64 (Lw.facP m))) ∧ Below c w w' := by
  have HB := Lib.hid hb
  clear hb
  go_enter Try.func161, Try.ntmps161
  go_wp2_with (go_at_call 197; refine (append_powers m c _ hm1 hm2 hc HB.out).mono ?_; rintro e w1 ⟨⟨A, k, rfl, own⟩, hb1⟩; have OWN := Lib.hid own; clear own)
  go_ret
  exact ⟨⟨A, k, rfl, OWN.out⟩, hb1⟩
theorem primes_Factor (n : Int) (w : World) (h1 : 1 ≤ n) (h2 : n ≤ 1048576) :
    Calls Try.prog 119 #[.int .i64 n] w fun e w' => (∃ A k, e = .returned (.tuple #[.slice A (Lw.fac n.toNat).length k, .int .i64 0]) ∧ w'.ownsRow w.heap.size 142 2 (.slice A (Lw.fac n.toNat).length k) (Lw.fac n.toNat).length (Lw.pairsV .i64 .i64 (Lw.facP n.toNat))) ∧ Below w.heap.size w w' := by
  obtain ⟨m, rfl⟩ := Int.eq_ofNat_of_zero_le (by omega : 0 ≤ n)
  simp only [Int.toNat_natCast]
  have ho := Lw.outB_false h1 h2
  have C := Lib.hid (collect_powers m w.heap.size (w.alloc (.cells #[.int .i64 (m : Int)] 2)) (by omega) (by omega) (by simp) (Lw.blk_new _ _ _))
  go_enter Try.func119, Try.ntmps119
  go_wp2_with (first | (go_at_call 95; refine (primes_out _ _).mono ?_; rintro e w' ⟨rfl, rfl⟩) | (go_at_call 96; refine (primes_powers _ _).mono ?_; rintro e w' ⟨rfl, rfl⟩) | (go_at_call 161; refine (C.out).mono ?_; rintro e w1 ⟨⟨A, k, rfl, own⟩, hb1⟩; have OWN := Lib.hid own; clear own))
  go_ret2
  exact ⟨⟨A, k, rfl, Lw.ownsBase OWN.out (by simp)⟩, ((Below.refl _ _).alloc (Nat.le_refl _) _).trans hb1⟩
theorem primes_Factor_bad (n : Int) (w : World) (h : n < 1 ∨ 1048576 < n) :
    Calls Try.prog 119 #[.int .i64 n] w fun e w' => e = .returned (.tuple #[.slice none 0 0, .int .i64 2]) ∧ w = w' := by
  have ho := Lw.outB_true h
  go_enter Try.func119, Try.ntmps119
  go_wp2_with (go_at_call 95; refine (primes_out _ _).mono ?_; rintro e w' ⟨rfl, rfl⟩)
  go_ret2
  exact ⟨rfl, rfl⟩
end Go.Proofs.Ytlgegdmnbhoepaa
