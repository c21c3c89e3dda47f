/- Polynomials: without zeros at the end (poly.trim, the reference's trimmed), what stands at a place, a sum with a multiple that is moved up (poly.Plus). -/
import Derived.Test.YtlgegdmnbhoepaaPly
import Derived.Test.YtlgegdmnbhoepaaPow
import Derived.Test.YtlgegdmnbhoepaaApp
import Derived.Laws.CopyOwn
namespace Lw
open Go Go.RowKit
/-- without zeros at the end -/
def trimL (l : List Int) : List Int := (l.reverse.dropWhile (· == 0)).reverse
theorem trim_snoc {l : List Int} {x : Int} : trimL (l ++ [x]) = if x = 0 then trimL l else l ++ [x] := by
  unfold trimL
  rw [List.reverse_append, List.reverse_singleton, List.singleton_append]
  by_cases h : x = 0
  · rw [if_pos h, List.dropWhile_cons_of_pos (by simpa using h)]
  · rw [if_neg h, List.dropWhile_cons_of_neg (by simpa using h)]; simp
theorem trim_nil : trimL [] = [] := rfl
theorem trim_take {l : List Int} {k : Nat} (h : k < l.length) : trimL (l.take (k + 1)) = if l[k] = 0 then trimL (l.take k) else l.take (k + 1) := by
  rw [List.take_succ_eq_append_getElem h, trim_snoc]
/-- what stands at place i of a sum, when the first k places of b have come -/
def plusF (p : Int) (a b : List Int) (κ : Int) (u k i : Nat) : Int := if u ≤ i ∧ i - u < k then (a.getD i 0 + κ * b.getD (i - u) 0) % p else a.getD i 0
def plusK (p : Int) (a b : List Int) (κ : Int) (u N k : Nat) : List Int := (List.range N).map (plusF p a b κ u k)
/-- what stands at place i of a sum -/
def plusV (p : Int) (a b : List Int) (κ : Int) (u i : Nat) : Int := (a.getD i 0 + κ * (if u ≤ i then b.getD (i - u) 0 else 0)) % p
def plusL (p : Int) (a b : List Int) (κ : Int) (u : Nat) : List Int := trimL ((List.range (max a.length (b.length + u))).map (plusV p a b κ u))
theorem plusK_length {p : Int} {a b : List Int} {κ : Int} {u N k : Nat} : (plusK p a b κ u N k).length = N := by simp [plusK]
theorem plusK_zero {p : Int} {a b : List Int} {κ : Int} {u N : Nat} (h : a.length ≤ N) : plusK p a b κ u N 0 = a ++ List.replicate (N - a.length) 0 := by
  apply List.ext_getElem
  · simp [plusK]; omega
  · intro i h1 h2
    simp only [plusK, List.getElem_map, List.getElem_range, plusF, Nat.not_lt_zero, and_false, if_false]
    by_cases hi : i < a.length
    · rw [List.getElem_append_left hi, List.getD_eq_getElem?_getD, List.getElem?_eq_getElem hi]; rfl
    · rw [List.getElem_append_right (by omega), List.getD_eq_getElem?_getD, List.getElem?_eq_none (by omega)]; simp
theorem splice_plus {p : Int} {a b : List Int} {κ : Int} {u N : Nat} (h : a.length ≤ N) : splice (List.replicate N (Value.int .i64 0)) 0 (intsV .i64 a) = intsV .i64 (plusK p a b κ u N 0) := by
  rw [plusK_zero h]
  simp [splice, intsV]
theorem plusK_get {p : Int} {a b : List Int} {κ : Int} {u N k : Nat} (h : u + k < N) : (plusK p a b κ u N k)[u + k]? = some (a.getD (u + k) 0) := by
  unfold plusK
  rw [List.getElem?_map, List.getElem?_range h]
  simp [plusF]
theorem plusK_next {p : Int} {a b : List Int} {κ : Int} {u N k : Nat} (h : u + k < N) : plusK p a b κ u N (k + 1) = (plusK p a b κ u N k).set (u + k) ((a.getD (u + k) 0 + κ * b.getD k 0) % p) := by
  apply List.ext_getElem
  · simp [plusK]
  · intro i h1 h2
    rw [List.getElem_set]
    simp only [plusK, List.getElem_map, List.getElem_range, plusF]
    by_cases hi : u + k = i
    · subst hi
      rw [if_pos rfl, if_pos (by omega)]
      simp
    · rw [if_neg hi]
      by_cases h3 : u ≤ i ∧ i - u < k
      · rw [if_pos h3, if_pos (by omega)]
      · rw [if_neg h3, if_neg (by omega)]
theorem plusK_end {p : Int} {a b : List Int} {κ : Int} {u N : Nat} (hp : 0 < p) (ha : ∀ x ∈ a, 0 ≤ x ∧ x < p) (hN : N = max a.length (b.length + u)) : trimL (plusK p a b κ u N b.length) = plusL p a b κ u := by
  subst hN
  unfold plusL plusK
  congr 1
  apply List.map_congr_left
  intro i _
  unfold plusF plusV
  have hb : 0 ≤ a.getD i 0 ∧ a.getD i 0 < p := by
    rw [List.getD_eq_getElem?_getD]
    by_cases hi : i < a.length
    · rw [List.getElem?_eq_getElem hi]; exact ha _ (List.getElem_mem hi)
    · rw [List.getElem?_eq_none (by omega)]; exact ⟨by simp, by simpa using hp⟩
  by_cases h1 : u ≤ i
  · rw [if_pos h1]
    by_cases h2 : i - u < b.length
    · rw [if_pos ⟨h1, h2⟩]
    · rw [if_neg (by omega)]
      have : b.getD (i - u) 0 = 0 := by rw [List.getD_eq_getElem?_getD, List.getElem?_eq_none (by omega)]; rfl
      rw [this, Int.mul_zero, Int.add_zero, Int.emod_eq_of_lt hb.1 hb.2]
  · rw [if_neg h1, if_neg (by omega), Int.mul_zero, Int.add_zero, Int.emod_eq_of_lt hb.1 hb.2]
theorem mul_ab {κ x : Int} (k1 : -251 ≤ κ) (k2 : κ ≤ 251) (x1 : 0 ≤ x) (x2 : x ≤ 251) : -63001 ≤ κ * x ∧ κ * x ≤ 63001 := by
  have h1 : κ * x ≤ 251 * x := Int.mul_le_mul_of_nonneg_right k2 x1
  have h2 : (-251) * x ≤ κ * x := Int.mul_le_mul_of_nonneg_right k1 x1
  omega
/-- a list that is returned: where it lies, how it reads -/
def RetL (zs : List Int) (w : World) (e : Ending) (w' : World) : Prop := ∃ C m c, e = .returned (.slice C m c) ∧ Rd w' 1 C m (intsV .i64 zs) ∧ m ≤ c ∧ Below w.heap.size w w'
theorem rd_take {w : World} {A : Option Addr} {n k : Nat} {zs : List Int} (R : Rd w 1 A n (intsV .i64 zs)) (h : k ≤ n) : Rd w 1 A k (intsV .i64 (zs.take k)) := by
  have l1 : zs.length = n := by have := R.1; simpa [intsV] using this
  refine ⟨by simp [intsV]; omega, fun hk => ?_⟩
  obtain ⟨ad, e, hb, hc⟩ := R.2 (by omega)
  refine ⟨ad, e, hb, fun j v hv => hc j v ?_⟩
  rw [intsV, List.map_take] at hv
  rw [intsV]
  rw [List.getElem?_take] at hv
  split at hv
  · exact hv
  · cases hv
end Lw
set_option linter.unusedVariables false
set_option linter.unusedSimpArgs false
namespace Go.Proofs.Ytlgegdmnbhoepaa
open Go.RowKit
theorem elPly : Lw.El Try.prog 24 2 (.int .i64 0) 1 8 := Lw.El.mk' Try.underlying24 (by kernel_rfl) rfl (by decide) (by decide)
set_option maxHeartbeats 1000000 in
theorem poly_trim (A : Option Addr) (n c : Nat) (zs : List Int) (w : World) (R : Lw.Rd w 1 A n (Lw.intsV .i64 zs)) (hc : n ≤ c) (hc2 : c ≤ 1048576) :
    Calls Try.prog 202 #[.slice A n c] w (Lw.RetL (Lw.trimL zs) w) := by
  have l1 : zs.length = n := by have := R.1; simpa [Lw.intsV] using this
  have R := Lib.hid R
  have L := Lib.hid l1
  clear l1
  go_enter Try.func202, Try.ntmps202
  go_wp2
  go_loop [0] (fun s => ∃ k : Nat, k ≤ n ∧ s = .slice A k c ∧ Hid (Lw.trimL (zs.take k) = Lw.trimL zs)) (fun s => (match s with | .slice _ k _ => k | _ => 0))
  case atStart => exact ⟨n, Nat.le_refl _, rfl, by unfold Hid; rw [List.take_of_length_le (by rw [L.out]; exact Nat.le_refl _)]⟩
  case round =>
    obtain ⟨k, k1, rfl, T⟩ := hrel
    cases k with
    | zero =>
      have E : Hid (Lw.trimL zs = []) := by have := T.out; rw [List.take_zero] at this; exact this.symm
      have R0 := Lib.hid (Lw.rd_take R.out (Nat.zero_le n))
      go_wp2
      go_ret
      exact ⟨A, 0, c, rfl, by rw [E.out]; exact R0.out, by omega, Below.refl _ _⟩
    | succ k =>
      have hl : k < zs.length := by rw [L.out]; omega
      have S := T.out
      rw [Lw.trim_take hl] at S
      obtain ⟨ad, rfl, had, hcell⟩ := R.out.at1 (by omega : k < n) (Lw.intsV_get hl)
      by_cases h0 : zs[k] = 0
      · rw [if_pos h0] at S
        rw [h0] at hcell
        have S := Lib.hid S
        clear T h0
        go_wp2
        go_round
        case rel => exact ⟨k, by omega, rfl, S⟩
        case measure => simp
      · rw [if_neg h0] at S
        have z0 : (zs[k] == 0) = false := by simpa using h0
        obtain ⟨x, hx⟩ : ∃ x, zs[k] = x := ⟨_, rfl⟩
        rw [hx] at hcell z0
        have S := Lib.hid S
        have R0 := Lib.hid (Lw.rd_take R.out k1)
        clear T h0 hx
        go_wp2
        go_ret
        exact ⟨some ad, k + 1, c, rfl, by rw [← S.out]; exact R0.out, by omega, Below.refl _ _⟩
set_option maxRecDepth 100000 in
set_option maxHeartbeats 4000000 in
theorem poly_Plus (p : Int) (A B : Option Addr) (n c m d : Nat) (a b : List Int) (κ : Int) (u : Nat) (w : World) (RA : Lw.Rd w 1 A n (Lw.intsV .i64 a)) (RB : Lw.Rd w 1 B m (Lw.intsV .i64 b))
    (ha : ∀ x ∈ a, 0 ≤ x ∧ x < p) (hb : ∀ x ∈ b, 0 ≤ x ∧ x < p) (p1 : 2 ≤ p) (p2 : p ≤ 251) (k1 : -251 ≤ κ) (k2 : κ ≤ 251) (hn : n ≤ 65536) (hm : m ≤ 65536) (hu : u ≤ 65536) :
    Calls Try.prog 169 #[.int .i64 p, .slice A n c, .slice B m d, .int .i64 κ, .int .i64 (u : Int)] w (Lw.RetL (Lw.plusL p a b κ u) w) := by
  have la : a.length = n := by have := RA.1; simpa [Lw.intsV] using this
  have lb : b.length = m := by have := RB.1; simpa [Lw.intsV] using this
  obtain ⟨N, hN⟩ : ∃ N, max n (m + u) = N := ⟨_, rfl⟩
  have N1 : n ≤ N := by omega
  have N2 : m + u ≤ N := by omega
  have N3 : N ≤ 131072 := by omega
  have hcase : (n < m + u ∧ m + u = N) ∨ (¬ n < m + u ∧ n = N) := by omega
  have END := Lib.hid (Lw.plusK_end (κ := κ) (b := b) (u := u) (N := N) (by omega : 0 < p) ha (by rw [la, lb]; exact hN.symm))
  have GET := Lib.hid (fun k => Lw.plusK_get (p := p) (a := a) (b := b) (κ := κ) (u := u) (N := N) (k := k))
  have NXT := Lib.hid (fun k => Lw.plusK_next (p := p) (a := a) (b := b) (κ := κ) (u := u) (N := N) (k := k))
  have SPL := Lib.hid (Lw.splice_plus (p := p) (a := a) (b := b) (κ := κ) (u := u) (N := N) (by omega))
  have AB : Hid (∀ i, 0 ≤ a.getD i 0 ∧ a.getD i 0 < p) := fun i => by
    rw [List.getD_eq_getElem?_getD]
    by_cases hi : i < a.length
    · rw [List.getElem?_eq_getElem hi]; exact ha _ (List.getElem_mem hi)
    · rw [List.getElem?_eq_none (by omega)]; exact ⟨by simp, by show (0 : Int) < p; omega⟩
  have HB := Lib.hid hb
  have RB := Lib.hid RB
  have LB := Lib.hid lb
  have M : ∀ w : World, (Instr.makeSlice 24 (.int .i64 (N : Int)) (.int .i64 (N : Int))).run Try.prog w = .ok (.slice (some ⟨w.heap.size, 0, none⟩) N N) (w.alloc (.cells (List.replicate N (Value.int .i64 0)).toArray 2)) := fun w => Lw.run_mk elPly rfl .i64 .i64 N (by omega) w
  have G : Hid ((w.alloc (.cells (Array.replicate N (Value.int .i64 0)) 2)).heap[w.heap.size]? = some (.cells (List.replicate N (Value.int .i64 0)).toArray 2 (0, 0))) := by
    unfold Hid
    rw [List.toArray_replicate]; exact Lw.blk_new w _ _
  have P1 : 0 < (Lw.intsV .i64 a).length → ∃ ad, A = some ad ∧ ∀ j v, (Lw.intsV .i64 a)[j]? = some v → (w.alloc (.cells (Array.replicate N (Value.int .i64 0)) 2)).cell? (ad.add j) = some v := by
    intro hp
    obtain ⟨ad, e, _, h3⟩ := (RA.alloc (.cells (Array.replicate N (Value.int .i64 0)) 2)).2 (by rw [Lw.intsV_length, la] at hp; exact hp)
    exact ⟨ad, e, h3⟩
  have P1 := Lib.hid P1
  have LA := Lib.hid la
  clear ha hb la lb RA
  have after : ∀ (wr : World), Below w.heap.size w wr → wr.ownsRow w.heap.size 2 1 (.slice (some ⟨w.heap.size, 0, none⟩) N N) N (Lw.intsV .i64 (Lw.plusK p a b κ u N m)) →
      Calls Try.prog 202 #[.slice (some ⟨w.heap.size, 0, none⟩) N N] wr (Lw.RetL (Lw.plusL p a b κ u) wr) := fun wr hB own => by
    have := poly_trim (some ⟨w.heap.size, 0, none⟩) N N (Lw.plusK p a b κ u N m) wr (Lw.Rd.of_own own) (Nat.le_refl _) (by omega)
    have e := END.out
    rw [LB.out] at e
    rwa [e] at this
  have AF := Lib.hid after
  clear after
  rcases hcase with ⟨c1, c2⟩ | ⟨c1, c2⟩
  · have c1 : (n : Int) < (m : Int) + (u : Int) := by omega
    have c2' : (m : Int) + (u : Int) = (N : Int) := by omega
    have ci : (n : Int) < (N : Int) := by omega
    clear hN c2
    obtain ⟨U, hU⟩ : ∃ U : Int, (u : Int) = U := ⟨_, rfl⟩
    rw [hU] at c1 c2' ⊢
    replace hU := Lib.hid hU
    go_enter Try.func169, Try.ntmps169
    go_wp2_with (with_reducible refine wpList_copy_splice rfl (.tmp 22) (.tmp 23) 24 24 rfl 2 Try.underlying24 (by kernel_rfl) (some ⟨w.heap.size, 0, none⟩) A N N n c rfl rfl w.heap.size 0 (List.replicate N (.int .i64 0)) 2 (by exact G.out) (Lw.intsV .i64 a) (by rw [Lw.intsV_length, LA.out]; exact (Nat.min_eq_left (by omega)).symm) (fun hp => ⟨rfl, P1.out hp⟩) (by rw [Lw.intsV_length, LA.out, List.length_replicate]; omega) (Lw.intsV_one _ _) w.heap.size w (Lw.balloc (Below.refl _ _) _) (Nat.le_refl _) ?_; intro w1 hg1 hb1; rw [SPL.out] at hg1)
    have own1 : w1.ownsRow w.heap.size 2 1 (.slice (some ⟨w.heap.size, 0, none⟩) N N) N (Lw.intsV .i64 (Lw.plusK p a b κ u N 0)) := Lw.own_blk hg1 (by rw [Lw.intsV_length, Lw.plusK_length]; omega) (by omega) (Nat.le_refl _)
    have OWN1 := Lib.hid own1
    clear own1 hg1 SPL P1 G M
    go_wp2_with fail
    go_loopw [12, 13, 27] (fun j x i wr => ∃ k : Nat, i = .int .i64 (k : Int) ∧ k ≤ m ∧ wr.ownsRow w.heap.size 2 1 (.slice (some ⟨w.heap.size, 0, none⟩) N N) N (Lw.intsV .i64 (Lw.plusK p a b κ u N k)) ∧ Below w.heap.size w wr) (fun _ _ i _ => m - (intOf i).toNat)
    case atStart => exact ⟨0, rfl, by omega, OWN1.out, hb1⟩
    case round =>
      clear OWN1 hb1
      obtain ⟨k, rfl, kk, own, hB⟩ := hrel
      by_cases hlt : k < m
      · have hl : k < b.length := by rw [LB.out]; exact hlt
        obtain ⟨ad, rfl, had, hcell⟩ := (RB.out.below (Nat.le_refl _) hB).at1 hlt (Lw.intsV_get hl)
        have huk : u + k < N := by omega
        have NX := NXT.out k huk
        have GT := GET.out k huk
        have ab := AB.out (u + k)
        obtain ⟨x1, x2⟩ := HB.out _ (List.getElem_mem hl)
        have hbx : b.getD k 0 = b[k] := by rw [List.getD_eq_getElem?_getD, List.getElem?_eq_getElem hl]; rfl
        rw [hbx] at NX
        obtain ⟨x, hx⟩ : ∃ x, b[k] = x := ⟨_, rfl⟩
        rw [hx] at hcell x1 x2 NX
        obtain ⟨t, ht⟩ : ∃ t, u + k = t := ⟨_, rfl⟩
        rw [ht] at NX GT ab huk
        obtain ⟨y, hy⟩ : ∃ y, a.getD t 0 = y := ⟨_, rfl⟩
        rw [hy] at NX GT ab
        obtain ⟨y1, y2⟩ := ab
        obtain ⟨c0, f0, hg0, hgl⟩ := Lw.own_cell (i := t) own (by rw [Lw.intsV, List.getElem?_map, GT]; rfl)
        have OW2 := Lib.hid (Lw.own_set (v := .int .i64 ((y + κ * x) % p)) own huk)
        have NX := Lib.hid NX
        have hkU : (k : Int) + U = (t : Int) := by have := hU.out; omega
        obtain ⟨m1, m2⟩ := Lw.mul_ab k1 k2 x1 (by omega : x ≤ 251)
        have e1 : IntKind.i64.wrap (κ * x) = κ * x := by rw [IntKind.wrap_i64]; omega
        have e2 : IntKind.i64.wrap (y + κ * x) = y + κ * x := by rw [IntKind.wrap_i64]; omega
        have htN : (t : Int) < (N : Int) := by omega
        have MD := Lib.hid (fun w => euclid_Mod (y + κ * x) p w (by omega) (by omega))
        clear own hx hy ht hbx GT
        go_wp2_with (go_at_call 61; (with_reducible refine (MD.out _).mono ?_); rintro e w' ⟨rfl, rfl⟩)
        go_roundw
        case rel => exact ⟨k + 1, by go_num, by omega, by rw [NX.out]; have := OW2.out; rw [Lw.intsV, ← List.map_set] at this; exact this, Lw.bset hB (by simp) _⟩
        case measure => simp [intOf]; omega
      · have hk : k = m := by omega
        subst hk
        have TR := Lib.hid (AF.out _ hB own)
        clear own
        go_wp2_with (go_at_call 202; (with_reducible refine TR.out.mono ?_); rintro e w' ⟨C, m', c', rfl, R', hc', hb'⟩)
        go_ret
        exact ⟨C, m', c', rfl, R', hc', Lw.bt hB hb'⟩
  · have c2 := c2.symm
    have c1 : ¬ (n : Int) < (m : Int) + (u : Int) := by omega
    clear hN
    subst c2
    (try clear c2)
    obtain ⟨U, hU⟩ : ∃ U : Int, (u : Int) = U := ⟨_, rfl⟩
    have U0 : 0 ≤ U := by omega
    have U1 : U ≤ 65536 := by omega
    rw [hU] at c1 ⊢
    replace hU := Lib.hid hU
    go_enter Try.func169, Try.ntmps169
    go_wp2_with (with_reducible refine wpList_copy_splice rfl (.tmp 22) (.tmp 23) 24 24 rfl 2 Try.underlying24 (by kernel_rfl) (some ⟨w.heap.size, 0, none⟩) A N N N c rfl rfl w.heap.size 0 (List.replicate N (.int .i64 0)) 2 (by exact G.out) (Lw.intsV .i64 a) (by rw [Lw.intsV_length, LA.out]; exact (Nat.min_eq_left (by omega)).symm) (fun hp => ⟨rfl, P1.out hp⟩) (by rw [Lw.intsV_length, LA.out, List.length_replicate]; omega) (Lw.intsV_one _ _) w.heap.size w (Lw.balloc (Below.refl _ _) _) (Nat.le_refl _) ?_; intro w1 hg1 hb1; rw [SPL.out] at hg1)
    have own1 : w1.ownsRow w.heap.size 2 1 (.slice (some ⟨w.heap.size, 0, none⟩) N N) N (Lw.intsV .i64 (Lw.plusK p a b κ u N 0)) := Lw.own_blk hg1 (by rw [Lw.intsV_length, Lw.plusK_length]; omega) (by omega) (Nat.le_refl _)
    have OWN1 := Lib.hid own1
    clear own1 hg1 SPL P1 G M
    go_wp2_with fail
    go_loopw [12, 13, 27] (fun j x i wr => ∃ k : Nat, i = .int .i64 (k : Int) ∧ k ≤ m ∧ wr.ownsRow w.heap.size 2 1 (.slice (some ⟨w.heap.size, 0, none⟩) N N) N (Lw.intsV .i64 (Lw.plusK p a b κ u N k)) ∧ Below w.heap.size w wr) (fun _ _ i _ => m - (intOf i).toNat)
    case atStart => exact ⟨0, rfl, by omega, OWN1.out, hb1⟩
    case round =>
      clear OWN1 hb1
      obtain ⟨k, rfl, kk, own, hB⟩ := hrel
      by_cases hlt : k < m
      · have hl : k < b.length := by rw [LB.out]; exact hlt
        obtain ⟨ad, rfl, had, hcell⟩ := (RB.out.below (Nat.le_refl _) hB).at1 hlt (Lw.intsV_get hl)
        have huk : u + k < N := by omega
        have NX := NXT.out k huk
        have GT := GET.out k huk
        have ab := AB.out (u + k)
        obtain ⟨x1, x2⟩ := HB.out _ (List.getElem_mem hl)
        have hbx : b.getD k 0 = b[k] := by rw [List.getD_eq_getElem?_getD, List.getElem?_eq_getElem hl]; rfl
        rw [hbx] at NX
        obtain ⟨x, hx⟩ : ∃ x, b[k] = x := ⟨_, rfl⟩
        rw [hx] at hcell x1 x2 NX
        obtain ⟨t, ht⟩ : ∃ t, u + k = t := ⟨_, rfl⟩
        rw [ht] at NX GT ab huk
        obtain ⟨y, hy⟩ : ∃ y, a.getD t 0 = y := ⟨_, rfl⟩
        rw [hy] at NX GT ab
        obtain ⟨y1, y2⟩ := ab
        obtain ⟨c0, f0, hg0, hgl⟩ := Lw.own_cell (i := t) own (by rw [Lw.intsV, List.getElem?_map, GT]; rfl)
        have OW2 := Lib.hid (Lw.own_set (v := .int .i64 ((y + κ * x) % p)) own huk)
        have NX := Lib.hid NX
        have hkU : (k : Int) + U = (t : Int) := by have := hU.out; omega
        obtain ⟨m1, m2⟩ := Lw.mul_ab k1 k2 x1 (by omega : x ≤ 251)
        have e1 : IntKind.i64.wrap (κ * x) = κ * x := by rw [IntKind.wrap_i64]; omega
        have e2 : IntKind.i64.wrap (y + κ * x) = y + κ * x := by rw [IntKind.wrap_i64]; omega
        have htN : (t : Int) < (N : Int) := by omega
        have MD := Lib.hid (fun w => euclid_Mod (y + κ * x) p w (by omega) (by omega))
        clear own hx hy ht hbx GT
        go_wp2_with (go_at_call 61; (with_reducible refine (MD.out _).mono ?_); rintro e w' ⟨rfl, rfl⟩)
        go_roundw
        case rel => exact ⟨k + 1, by go_num, by omega, by rw [NX.out]; have := OW2.out; rw [Lw.intsV, ← List.map_set] at this; exact this, Lw.bset hB (by simp) _⟩
        case measure => simp [intOf]; omega
      · have hk : k = m := by omega
        subst hk
        have TR := Lib.hid (AF.out _ hB own)
        clear own
        go_wp2_with (go_at_call 202; (with_reducible refine TR.out.mono ?_); rintro e w' ⟨C, m', c', rfl, R', hc', hb'⟩)
        go_ret
        exact ⟨C, m', c', rfl, R', hc', Lw.bt hB hb'⟩
end Go.Proofs.Ytlgegdmnbhoepaa
