/- What a polynomial is at a place: poly.Value, poly.At, the reference's Value. -/
import Derived.Test.YtlgegdmnbhoepaaPlm
import Derived.Test.YtlgegdmnbhoepaaBkw
import Derived.Test.YtlgegdmnbhoepaaRegS
namespace Lw
open Go Go.RowKit
def hornV (p : Int) (zs : List Int) (x : Int) : Int := zs.foldr (fun k y => (y * x + k) % p) 0
def evalI (zs : List Int) (x : Int) : Int := zs.foldr (fun k y => y * x + k) 0
def valS (p : Int) (zs : List Int) (x : Int) : Nat → Int
  | 0 => 0
  | k + 1 => (valS p zs x k + zs.getD k 0 * pw x (k : Int) p) % p
def sumI (zs : List Int) (x : Int) : Nat → Int
  | 0 => 0
  | k + 1 => sumI zs x k + zs.getD k 0 * x ^ k
theorem sumI_cons (z : Int) (zs : List Int) (x : Int) : ∀ k, sumI (z :: zs) x (k + 1) = z + x * sumI zs x k
  | 0 => by simp [sumI]
  | k + 1 => by
    show sumI (z :: zs) x (k + 1) + (z :: zs).getD (k + 1) 0 * x ^ (k + 1) = z + x * (sumI zs x k + zs.getD k 0 * x ^ k)
    rw [sumI_cons z zs x k, List.getD_cons_succ, Int.pow_succ]
    grind
theorem sumI_all (x : Int) : ∀ zs : List Int, sumI zs x zs.length = evalI zs x
  | [] => rfl
  | z :: zs => by
    show sumI (z :: zs) x (zs.length + 1) = evalI zs x * x + z
    rw [sumI_cons, sumI_all x zs]; grind
theorem horn_eval (p x : Int) : ∀ zs : List Int, hornV p zs (x % p) = evalI zs x % p
  | [] => by simp [hornV, evalI]
  | z :: zs => by
    show (hornV p zs (x % p) * (x % p) + z) % p = (evalI zs x * x + z) % p
    rw [horn_eval p x zs, Int.add_emod, ← Int.mul_emod, ← Int.add_emod]
theorem valS_sum (p : Int) (zs : List Int) (x : Int) : ∀ k, valS p zs x k = sumI zs x k % p
  | 0 => by simp [valS, sumI]
  | k + 1 => by
    show (valS p zs x k + zs.getD k 0 * pw x (k : Int) p) % p = (sumI zs x k + zs.getD k 0 * x ^ k) % p
    rw [valS_sum p zs x k]
    unfold pw
    rw [Int.toNat_natCast, Int.add_emod (sumI zs x k % p), Int.emod_emod_of_dvd _ (Int.dvd_refl p), Int.mul_emod (zs.getD k 0), Int.emod_emod_of_dvd _ (Int.dvd_refl p), ← Int.mul_emod, ← Int.add_emod]
theorem val_eq (p : Int) (zs : List Int) (x : Int) : valS p zs x zs.length = hornV p zs (x % p) := by rw [valS_sum, sumI_all, horn_eval]
theorem valS_bd {p : Int} (hp : 0 < p) {zs : List Int} {x : Int} : ∀ k, 0 ≤ valS p zs x k ∧ valS p zs x k < p
  | 0 => ⟨Int.le_refl _, hp⟩
  | _ + 1 => ⟨Int.emod_nonneg _ (by omega), Int.emod_lt_of_pos _ hp⟩
/-- a number that may be -/
abbrev NumG (p : Int) := { z : Int // 0 ≤ z ∧ z < p }
def numsG (p : Int) (zs : List Int) (h : ∀ z ∈ zs, 0 ≤ z ∧ z < p) : List (NumG p) := zs.pmap (fun z h => ⟨z, h⟩) h
theorem numsG_map (p : Int) (zs : List Int) (h) : (numsG p zs h).map (fun a => a.1) = zs := by unfold numsG; rw [List.map_pmap]; simp
def stV {p : Int} (x : Int) (pre : List (Nat × NumG p)) : Int := pre.foldl (fun y z => (y * x + z.2.1) % p) 0
theorem stV_snoc {p x : Int} (pre : List (Nat × NumG p)) (z : Nat × NumG p) : stV x (pre ++ [z]) = (stV x pre * x + z.2.1) % p := by simp [stV]
theorem stV_bd {p x : Int} (hp : 0 < p) (pre : List (Nat × NumG p)) : 0 ≤ stV x pre ∧ stV x pre < p := by
  unfold stV
  have : ∀ (pre : List (Nat × NumG p)) (y : Int), 0 ≤ y ∧ y < p → 0 ≤ pre.foldl (fun y z => (y * x + z.2.1) % p) y ∧ pre.foldl (fun y z => (y * x + z.2.1) % p) y < p := by
    intro pre
    induction pre with
    | nil => intro y h; exact h
    | cons z pre ih => intro y _; exact ih _ ⟨Int.emod_nonneg _ (by omega), Int.emod_lt_of_pos _ hp⟩
  exact this pre 0 ⟨Int.le_refl _, hp⟩
theorem stV_all {p x : Int} (zs : List Int) (h) : stV x (bks (numsG p zs h) 0) = hornV p zs x := by
  have e : ∀ (l : List (Nat × NumG p)) (y : Int), l.foldl (fun y z => (y * x + z.2.1) % p) y = (l.map (fun z => z.2.1)).foldl (fun y z => (y * x + z) % p) y := by
    intro l
    induction l with
    | nil => intro y; rfl
    | cons z l ih => intro y; simp only [List.foldl_cons, List.map_cons]; exact ih _
  unfold stV
  rw [e]
  have e2 : (bks (numsG p zs h) 0).map (fun z => z.2.1) = zs.reverse := by
    have := congrArg (List.map (fun a : NumG p => a.1)) (bks_snd (numsG p zs h))
    rw [List.map_map, List.map_reverse, numsG_map] at this
    exact this
  rw [e2, List.foldl_reverse]
  rfl
end Lw
namespace Go.Proofs.Ytlgegdmnbhoepaa
open Go.RowKit Go.Shelf
attribute [local go_sem] Oper.semAt_some
set_option maxRecDepth 100000 in
set_option maxHeartbeats 2000000 in
theorem bkw_longs_run {α : Type} (enc : α → Value) (xs : List α) (Bs Ba len cap : Nat) (ad : Addr) (hl : xs.length = len) (hlen : len ≤ 1048576) (hBa : ad.block = Ba) (n l : Nat) (hn : 1 ≤ n) (J Jx : List (Nat × α) → World → Prop)
    (hY : ∀ pre x W, J pre W → pre.length < len → YieldAt Fence.wide (n - 1) Try.prog l #[.int .i64 (x.1 : Int), enc x.2] W fun e W' =>
      (e = .returned (.bool true) ∧ J (pre ++ [x]) W' ∧ Lw.KB Bs Ba W W') ∨ (e = .returned (.bool false) ∧ Jx (pre ++ [x]) W'))
    (W : World) (hBs : W.cell? ⟨Bs, 0, none⟩ = some (.slice (some ad) len cap)) (hc : ∀ j (h : j < xs.length), W.cell? (ad.add j) = some (enc xs[j])) (h0 : J [] W) :
    CallsIn Fence.wide n Try.prog 203 #[.func (.yield l) #[] #[], .pointer (some ⟨Bs, 0, none⟩)] W fun e W' => (∃ v, e = .returned v) ∧
      ((∃ ys, ys = Lw.bks xs 0 ∧ J ys W') ∨ (∃ pre, (∃ m, m ≤ len ∧ pre = Lw.bks xs m) ∧ Jx pre W')) := by
  refine callsIn_of_wp Try.func203 rfl trivial ?_ rfl
  simp only [Try.ntmps203, List.size_toArray, List.length_cons, List.length_nil, Nat.reduceAdd, Nat.reduceSub, Array.replicate_succ, Array.replicate_zero, List.push_toArray, List.append_toArray, List.nil_append, List.cons_append]
  gi_wp2
  gi_loopw [3] (fun i wr => ∃ m : Nat, m ≤ len ∧ i = .int .i64 ((m : Int) - 1) ∧ J (Lw.bks xs m) wr ∧ Lw.KB Bs Ba W wr) (fun i _ => (intOf i + 1).toNat)
  case atStart => exact ⟨len, Nat.le_refl _, by go_num, by rw [← hl, Lw.bks_top]; exact h0, Lw.KB.refl _ _ _⟩
  case round =>
    obtain ⟨m, hm, rfl, hJs, hk⟩ := hrel
    have hBs2 := (hk.cells ⟨Bs, 0, none⟩ (.inl rfl)).trans hBs
    cases m with
    | zero =>
      gi_wp2
      go_end0
      exact ⟨⟨_, rfl⟩, .inl ⟨_, rfl, hJs⟩⟩
    | succ m =>
      have hmx : m < xs.length := by omega
      have hcx := (hk.cells (ad.add m) (.inr (by rw [Lw.add_block]; exact hBa))).trans (hc m hmx)
      have hi : ((m + 1 : Nat) : Int) - 1 = (m : Int) := by omega
      rw [hi]
      obtain ⟨fn, tmps, assign, body, hy, hR⟩ := hY _ (m, xs[m]) wr hJs (by rw [Lw.bks_length]; omega)
      dsimp only at hy
      obtain ⟨v, hv⟩ : ∃ v, enc xs[m] = v := ⟨_, rfl⟩
      rw [hv] at hcx hy
      have hml : (m : Int) < (len : Int) := by omega
      clear hv hc
      gi_wp2
      refine hR.mono ?_
      rintro e W3 (⟨rfl, hJ3, hk3⟩ | ⟨rfl, hJx3⟩)
      · gi_wp2
        go_roundw
        case rel => exact ⟨m, by omega, by go_num, by rw [Lw.bks_succ hmx]; exact hJ3, hk.trans hk3⟩
        case measure => simp [intOf] <;> omega
      · gi_wp2
        refine bodyPost_ret (results_none rfl _ _ _) rfl ?_
        exact ⟨⟨_, rfl⟩, .inr ⟨_, ⟨m, by omega, (Lw.bks_succ hmx).symm⟩, hJx3⟩⟩
set_option maxRecDepth 100000 in
theorem bkw_longs_nil {α : Type} (Bs : Nat) (n l : Nat) (J : List (Nat × α) → World → Prop) (W : World) (A : Option Addr) (cap : Nat) (hBs : W.cell? ⟨Bs, 0, none⟩ = some (.slice A 0 cap)) (h0 : J [] W) :
    CallsIn Fence.wide n Try.prog 203 #[.func (.yield l) #[] #[], .pointer (some ⟨Bs, 0, none⟩)] W fun e W' => (∃ v, e = .returned v) ∧ J [] W' := by
  refine callsIn_of_wp Try.func203 rfl trivial ?_ rfl
  simp only [Try.ntmps203, List.size_toArray, List.length_cons, List.length_nil, Nat.reduceAdd, Nat.reduceSub, Array.replicate_succ, Array.replicate_zero, List.push_toArray, List.append_toArray, List.nil_append, List.cons_append]
  gi_wp2
  gi_loopw [3] (fun i wr => i = .int .i64 (-1) ∧ J [] wr) (fun _ _ => 0)
  case atStart => exact ⟨by first | rfl | go_num, h0⟩
  case round =>
    obtain ⟨rfl, hJs⟩ := hrel
    gi_wp2
    go_end0
    exact ⟨⟨_, rfl⟩, hJs⟩
theorem bkw_longs_stops {α : Type} (enc : α → Value) (xs : List α) (Bs Ba len cap : Nat) (A : Option Addr) (hlen : len ≤ 1048576) (n : Nat) (hn : 1 ≤ n) (w : World) (hBs : Bs < w.heap.size) (hBa : Ba < w.heap.size)
    (hs : w.cell? ⟨Bs, 0, none⟩ = some (.slice A len cap)) (R : Lw.Rd w 1 A len (xs.map enc)) (hA : 0 < len → ∀ ad, A = some ad → ad.block = Ba) :
    SeqStopsK Fence.wide n Try.prog 203 #[.pointer (some ⟨Bs, 0, none⟩)] (fun x : Nat × α => #[Value.int .i64 (x.1 : Int), enc x.2]) (Lw.KB Bs Ba) (fun ys => ys = Lw.bks xs 0)
      (fun pre => ∃ m, m ≤ len ∧ pre = Lw.bks xs m) len w := fun l J Jx W hW _ _ hY h0 => by
  have hs' := (hW.cell (p := ⟨Bs, 0, none⟩) hBs).trans hs
  have hl : xs.length = len := by have := R.1; simpa using this
  rcases Nat.eq_zero_or_pos len with rfl | hp
  · have hx : xs = [] := List.eq_nil_of_length_eq_zero hl
    subst hx
    exact (bkw_longs_nil Bs n l J W A cap hs' h0).mono fun e W' ⟨he, hj⟩ => ⟨he, .inl ⟨_, rfl, hj⟩⟩
  · obtain ⟨ad, rfl, _, hc⟩ := R.2 hp
    exact bkw_longs_run enc xs Bs Ba len cap ad hl hlen (hA hp ad rfl) n l hn J Jx hY W hs' (fun j hj => (hW.cell (p := ad.add j) (by rw [Lw.add_block, hA hp ad rfl]; exact hBa)).trans (hc j _ (by simp [hj]))) h0
theorem bkw_longs (A : Option Addr) (len cap : Nat) (w : World) :
    Calls Try.prog 172 #[.slice A len cap] w fun e w' => e = .returned (.func (.func 203) #[] #[.pointer (some ⟨w.heap.size, 0, none⟩)]) ∧ w.alloc (.cells #[.slice A len cap] 24) = w' := by
  go_enter Try.func172, Try.ntmps172
  go_wp2
  go_ret
  exact ⟨rfl, rfl⟩

set_option maxRecDepth 100000 in
set_option maxHeartbeats 4000000 in
theorem poly_Value (p : Int) (A : Option Addr) (n c : Nat) (zs : List Int) (x : Int) (w : World) (R : Lw.Rd w 1 A n (Lw.intsV .i64 zs)) (hz : ∀ z ∈ zs, 0 ≤ z ∧ z < p) (p1 : 2 ≤ p) (p2 : p ≤ 251) (hn : n ≤ 4096) (x1 : 0 ≤ x) (x2 : x < p) :
    Calls Try.prog 131 #[.int .i64 p, .slice A n c, .int .i64 x] w fun e w' => e = .returned (.int .i64 (Lw.hornV p zs x)) ∧ Below w.heap.size w w' := by
  have RR := Lib.hid R
  refine (callsIn_wide (n := 4)).1 ?_
  refine callsIn_of_wp_marks Try.func131 rfl trivial ?_ rfl
  simp only [Try.ntmps131, List.size_toArray, List.length_cons, List.length_nil, Nat.reduceAdd, Nat.reduceSub, Array.replicate_succ, Array.replicate_zero, List.push_toArray, List.append_toArray, List.nil_append, List.cons_append]
  gi_wp2_with (refine ⟨trivial, ?_⟩; gi_at_call 172; refine (callsIn_wide.2 (bkw_longs _ _ _ _)).mono ?_; rintro e w' ⟨rfl, rfl⟩)
  have hB4 : Below w.heap.size w ((((w.alloc (.cells #[.int .i64 p] 2)).alloc (.cells #[.int .i64 x] 2)).alloc (.cells #[.int .i64 0] 2)).alloc (.cells #[.slice A n c] 24)) := Lw.balloc (Lw.balloc (Lw.balloc (Lw.balloc (Below.refl _ _) _) _) _) _
  obtain ⟨Ba, hBa, hA⟩ : ∃ Ba, Ba < w.heap.size + 4 ∧ (0 < n → ∀ ad, A = some ad → ad.block = Ba) ∧ (0 < n → Ba < w.heap.size) ∧ (n = 0 → Ba = w.heap.size + 3) := by
    rcases Nat.eq_zero_or_pos n with h0 | hp
    · exact ⟨w.heap.size + 3, by omega, fun h => by omega, fun h => by omega, fun _ => rfl⟩
    · obtain ⟨ad, rfl, hb, _⟩ := R.2 hp
      exact ⟨ad.block, by omega, fun _ ad' e => by injection e with e; rw [e], fun _ => hb, fun h => by omega⟩
  obtain ⟨hA, hBl, hB0⟩ := hA
  have bP := Boxed.new w 2 (.int .i64 p)
  have bX := Boxed.new (w.alloc (.cells #[.int .i64 p] 2)) 2 (.int .i64 x)
  have bY := Boxed.new ((w.alloc (.cells #[.int .i64 p] 2)).alloc (.cells #[.int .i64 x] 2)) 2 (.int .i64 0)
  rw [World.size_alloc] at bX
  rw [World.size_alloc, World.size_alloc] at bY
  have hcS := Lw.blk_cell (Lw.blk_new (((w.alloc (.cells #[.int .i64 p] 2)).alloc (.cells #[.int .i64 x] 2)).alloc (.cells #[.int .i64 0] 2)) #[.slice A n c] 24) 0
  simp at hcS
  have ST := Lib.hid (fun pre => Lw.stV_bd (x := x) (by omega : 0 < p) pre)
  refine wpIn_rangeFunc_ownG rfl (by omega) (gf := 203) (lb := #[.pointer (some ⟨w.heap.size + 1 + 1 + 1, 0, none⟩)]) rfl trivial (enters_of Try.func203 (by kernel_rfl) rfl)
    (bkw_longs_stops (fun a : Lw.NumG p => .int .i64 a.1) (Lw.numsG p zs hz) (w.heap.size + 1 + 1 + 1) Ba n c A (by omega) _ (by omega) _ (by simp) (by simp; omega) hcS
      ((show Lw.Rd w 1 A n ((Lw.numsG p zs hz).map (fun a => Value.int .i64 a.1)) from by
        have e : (Lw.numsG p zs hz).map (fun a => Value.int .i64 a.1) = Lw.intsV .i64 zs := by
          have := congrArg (List.map (Value.int .i64)) (Lw.numsG_map p zs hz)
          rw [List.map_map] at this; exact this
        rw [e]; exact RR.out).below (Nat.le_refl _) hB4) hA) Lw.KB.trans (Lw.KB.put (by simp) (by simp; omega)) (Below.refl _ _) (fun _ => rfl)
    (fun pre W => (W.cell? ⟨w.heap.size, 0, none⟩ = some (.int .i64 p) ∧ W.cell? ⟨w.heap.size + 1, 0, none⟩ = some (.int .i64 x) ∧ W.cell? ⟨w.heap.size + 1 + 1, 0, none⟩ = some (.int .i64 (Lw.stV x pre)) ∧ W.frozen? ⟨w.heap.size + 1 + 1, 0, none⟩ = false) ∧ Below w.heap.size w W)
    (fun _ _ _ => False)
    (OwnFrom.and (Own.from (fun s A B row hs hg hr => ⟨cell_kept hs.1 hg hr, cell_kept hs.2.1 hg hr, cell_kept hs.2.2.1 hg hr, (frozen_kept hs.2.2.1 hg hr).trans hs.2.2.2⟩) _) (ownFrom_below (Nat.le_refl _) (by simp; omega)))
    (fun _ _ _ _ _ hs _ _ => hs)
    ⟨⟨(((bP.alloc _).alloc _).alloc _).cell, ((bX.alloc _).alloc _).cell, (bY.alloc _).cell, (bY.alloc _).frozen⟩, hB4⟩
    (fun z => { tmps := #[.int .i64 p, .slice A n c, .int .i64 x, .pointer (some ⟨w.heap.size, 0, none⟩), undef, .pointer (some ⟨w.heap.size + 1, 0, none⟩), .int .i64 0, .pointer (some ⟨w.heap.size + 1 + 1, 0, none⟩), undef, .int .i64 z.2.1, .slice A n c, .func (.func 203) #[] #[.pointer (some ⟨w.heap.size + 1 + 1 + 1, 0, none⟩)], .int .i64 (z.1 : Int), .int .i64 z.2.1, undef, undef, undef, undef, undef, undef, undef, undef], defers := [] }) ?assign ?body ?done ?stop
  case assign =>
    intro l x W K hK
    gi_wp2
    exact hK
  case body =>
    rintro l pre ⟨i, z, z1, z2⟩ W ⟨⟨cP, cX, cY, fY⟩, hB⟩ hlen
    obtain ⟨y1, y2⟩ := ST.out pre
    have F1 := Lw.stV_snoc (x := x) pre (i, (⟨z, z1, z2⟩ : Lw.NumG p))
    obtain ⟨y, hy⟩ : ∃ y, Lw.stV x pre = y := ⟨_, rfl⟩
    rw [hy] at F1 cY y1 y2
    obtain ⟨m1, m2⟩ := Lw.mul_ab (κ := y) (x := x) (by omega) (by omega) x1 (by omega)
    have m3 : 0 ≤ y * x := Int.mul_nonneg y1 x1
    have e1 : IntKind.i64.wrap (y * x) = y * x := by rw [IntKind.wrap_i64]; omega
    have e2 : IntKind.i64.wrap (y * x + z) = y * x + z := by rw [IntKind.wrap_i64]; omega
    have e3 : (y * x + z).tmod p = (y * x + z) % p := Int.tmod_eq_emod_of_nonneg (by omega)
    have p0 : ¬ p = 0 := by omega
    have F1 := Lib.hid F1
    have hn0 : 0 < n := by omega
    have hbl := hBl hn0
    clear hy
    gi_wp2
    refine ⟨(KeepsOthers.setCell _ _ _).from _, ⟨Below.heap_setCell _ _ _ _ (by show w.heap.size + 1 + 1 + 1 ≠ w.heap.size + 1 + 1; omega), Below.heap_setCell _ _ _ _ (by show Ba ≠ w.heap.size + 1 + 1; omega)⟩, ⟨?_, ?_, ?_, ?_⟩, hB.setCell (p := ⟨w.heap.size + 1 + 1, 0, none⟩) (by show w.heap.size ≤ w.heap.size + 1 + 1; omega) _⟩
    · rw [World.cell?_setCell_far _ _ _ _ (by show w.heap.size + 1 + 1 ≠ w.heap.size; omega)]; exact cP
    · rw [World.cell?_setCell_far _ _ _ _ (by show w.heap.size + 1 + 1 ≠ w.heap.size + 1; omega)]; exact cX
    · rw [F1.out]; exact World.cell?_setCell_same' _ _ _ (by rw [cY]; rfl)
    · rw [World.frozen?_setCell]; exact fY
  case done =>
    rintro D ys W hD rfl ⟨⟨cP, cX, cY, fY⟩, hB⟩ hK
    rw [Lw.stV_all] at cY
    gi_wp2
    refine ⟨by simp, .inl ⟨_, _, rfl, run_takeDeferred hK, ?_⟩⟩
    exact ⟨_, results_tmp rfl _ _ _, rfl, hB.trans (belowK_b (w := w) (Nat.le_refl _) W D _ _ (by simp at hD; omega) hK rfl rfl)⟩
  case stop =>
    rintro D c pre W _ _ h _
    exact h.elim
end Go.Proofs.Ytlgegdmnbhoepaa
