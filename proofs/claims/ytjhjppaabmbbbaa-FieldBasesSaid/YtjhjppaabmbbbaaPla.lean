/- Sums of polynomials: poly.both, poly.Add, the reference's Add and Longs, the law's two. -/
import Derived.Test.YtjhjppaabmbbbaaPlz
import Derived.Test.YtjhjppaabmbbbaaHelp
namespace Lw
open Go Go.RowKit
theorem outR_in {zs : List Int} {m : Int} (h : outR m zs = false) : ∀ z ∈ zs, 0 ≤ z ∧ z < m := by
  intro z hz
  unfold outR at h
  rw [List.any_eq_false] at h
  have := h z hz
  simp at this
  omega
theorem intsV_snoc (k : IntKind) (a : List Int) (x : Int) : intsV k (a ++ [x]) = intsV k a ++ [.int k x] := by simp [intsV]
theorem plusV_add (p : Int) (a b : List Int) (i : Nat) : plusV p a b 1 0 i = (a.getD i 0 + b.getD i 0) % p := by simp [plusV]
def sumK (p : Int) (a b : List Int) (k : Nat) : List Int := (List.range k).map (plusV p a b 1 0)
theorem sumK_succ (p : Int) (a b : List Int) (k : Nat) : sumK p a b (k + 1) = sumK p a b k ++ [(a.getD k 0 + b.getD k 0) % p] := by
  unfold sumK; rw [List.range_succ, List.map_append, List.map_singleton, plusV_add]
theorem sumK_length (p : Int) (a b : List Int) (k : Nat) : (sumK p a b k).length = k := by simp [sumK]
theorem poly_facts {p : Int} {zs : List Int} (h : polyE p zs = 0) : 2 ≤ p ∧ p ≤ 251 ∧ primeB p = true ∧ zs.length ≤ 13 ∧ (∀ x ∈ zs, 0 ≤ x ∧ x < p) ∧ endZ zs = false := by
  by_cases hp : pprE p = 0
  · obtain ⟨h1, h2, h3⟩ := ppr_ok hp
    by_cases hl : 13 < zs.length
    · rw [poly_len hp hl] at h; omega
    · rw [poly_in hp hl] at h
      by_cases ho : (outR p zs || endZ zs) = true
      · rw [if_pos ho] at h; omega
      · simp at ho
        exact ⟨h1, h2, h3, by omega, outR_in ho.1, ho.2⟩
  · rw [poly_p hp] at h; exact absurd h hp
theorem getD_bd {p : Int} (hp : 0 < p) {a : List Int} (ha : ∀ x ∈ a, 0 ≤ x ∧ x < p) (i : Nat) : 0 ≤ a.getD i 0 ∧ a.getD i 0 < p := by
  rw [List.getD_eq_getElem?_getD]
  by_cases hi : i < a.length
  · rw [List.getElem?_eq_getElem hi]; exact ha _ (List.getElem_mem hi)
  · rw [List.getElem?_eq_none (by omega)]; exact ⟨by simp, by simpa using hp⟩
end Lw
set_option linter.unusedVariables false
set_option linter.unusedSimpArgs false
namespace Go.Proofs.Ytjhjppaabmbbbaa
open Go.RowKit
theorem ref_Longs (n c1 c2 : Nat) (A1 A2 : Option Addr) (zs : List Int) (w : World) (R1 : Lw.Rd w 1 A1 n (Lw.intsV .i64 zs)) (R2 : Lw.Rd w 1 A2 n (Lw.intsV .i64 zs)) (hn : n ≤ 1048576) :
    Calls Try.prog 39 #[.slice A1 n c1, .slice A2 n c2] w fun e w' => e = .returned (.bool true) ∧ ∃ d, w' = w.drewN d := by
  have hl : zs.length = n := by have := R1.1; simpa [Lw.intsV] using this
  have R1 := Lib.hid R1
  have R2 := Lib.hid R2
  have HL := Lib.hid hl
  clear hl
  go_enter Try.func39, Try.ntmps39
  go_wp2
  go_loopw [5] (fun i wr => ∃ k d : Nat, i = .int .i64 (k : Int) ∧ k ≤ n ∧ wr = w.drewN d) (fun i _ => n - (intOf i).toNat)
  case atStart => exact ⟨0, 0, rfl, by omega, rfl⟩
  case round =>
    obtain ⟨k, d, rfl, k1, rfl⟩ := hrel
    by_cases hlt : k < n
    · have hk : k < zs.length := by have := HL.out; omega
      obtain ⟨ad, rfl, had, c0⟩ := R1.out.at1 hlt (Lw.intsV_get hk)
      obtain ⟨ae, rfl, hae, e0⟩ := R2.out.at1 hlt (Lw.intsV_get hk)
      obtain ⟨x, hx⟩ : ∃ x, zs[k] = x := ⟨_, rfl⟩
      rw [hx] at c0 e0
      clear hx hk
      go_wp2
      go_quiet (fail)
      go_wp2
      go_roundw
      case rel => exact ⟨k + 1, _, by go_num, by omega, rfl⟩
      case measure => simp [intOf]; omega
    · go_wp2
      go_ret
      exact ⟨rfl, d, rfl⟩
set_option maxRecDepth 100000 in
set_option maxHeartbeats 2000000 in
theorem ref_Add (p : Int) (A B : Option Addr) (n c m d : Nat) (a b : List Int) (w : World) (RA : Lw.Rd w 1 A n (Lw.intsV .i64 a)) (RB : Lw.Rd w 1 B m (Lw.intsV .i64 b)) (ha : ∀ x ∈ a, 0 ≤ x ∧ x < p) (hb : ∀ x ∈ b, 0 ≤ x ∧ x < p) (p1 : 2 ≤ p) (p2 : p ≤ 251) (hn : n ≤ 65536) (hm : m ≤ 65536) :
    Calls Try.prog 87 #[.int .i64 p, .slice A n c, .slice B m d] w (Lw.RetL (Lw.plusL p a b 1 0) w) := by
  have la : a.length = n := by have := RA.1; simpa [Lw.intsV] using this
  have lb : b.length = m := by have := RB.1; simpa [Lw.intsV] using this
  have GA := Lib.hid (Lw.getD_bd (by omega : 0 < p) ha)
  have GB := Lib.hid (Lw.getD_bd (by omega : 0 < p) hb)
  have E : Hid (∀ k, ¬ k < n → ¬ k < m → k ≤ max n m → Lw.trimL (Lw.sumK p a b k) = Lw.plusL p a b 1 0) := by
    intro k h1 h2 h3
    have : k = max a.length (b.length + 0) := by omega
    subst this; rfl
  have SK := Lib.hid (Lw.sumK_succ p a b)
  have AA := Lib.hid (fun W (h : Below w.heap.size w W) i hi => ref_at A n c a W (RA.below (Nat.le_refl w.heap.size) h) i hi (by omega))
  have AB := Lib.hid (fun W (h : Below w.heap.size w W) i hi => ref_at B m d b W (RB.below (Nat.le_refl w.heap.size) h) i hi (by omega))
  clear RA RB ha hb la lb
  have hz : ¬ p = 0 := by omega
  go_enter Try.func87, Try.ntmps87
  go_wp2
  go_loopw [7, 8] (fun l i wr => ∃ k : Nat, i = .int .i64 (k : Int) ∧ k ≤ max n m ∧ wr.ownsRow w.heap.size 2 1 l k (Lw.intsV .i64 (Lw.sumK p a b k)) ∧ Below w.heap.size w wr) (fun _ i _ => max n m - (intOf i).toNat)
  case atStart => exact ⟨0, rfl, by omega, World.ownsRow_nil _ _ _ _, Below.refl _ _⟩
  case round =>
    obtain ⟨k, rfl, kk, own, hB⟩ := hrel
    have hszr := hB.size
    by_cases hlt : k < n ∨ k < m
    · obtain ⟨x1, x2⟩ := GA.out k
      obtain ⟨y1, y2⟩ := GB.out k
      have XA := AA.out wr hB k (by omega)
      have XB := AB.out wr hB k (by omega)
      have S := SK.out k
      obtain ⟨x, hx⟩ : ∃ x, a.getD k 0 = x := ⟨_, rfl⟩
      obtain ⟨y, hy⟩ : ∃ x, b.getD k 0 = x := ⟨_, rfl⟩
      rw [hx] at XA S x1 x2
      rw [hy] at XB S y1 y2
      have S := Lib.hid S
      have XA := Lib.hid XA
      have XB := Lib.hid XB
      have e1 : (x + y).tmod p = (x + y) % p := Int.tmod_eq_emod_of_nonneg (by omega)
      have OWN := Lib.hid own
      clear own hx hy
      rcases (show k < n ∨ (¬ k < n ∧ k < m) by omega) with h1 | ⟨h1, h2⟩
      all_goals
        go_wp2_with (first | (go_at_call 129; (with_reducible refine (XA.out).mono ?_); rintro e w' ⟨rfl, rfl⟩) | (go_at_call 129; (with_reducible refine (XB.out).mono ?_); rintro e w' ⟨rfl, rfl⟩) | (at_builtin; refine Lw.wpList_app elPly rfl _ _ rfl rfl (OWN.out.alloc _) rfl (by first | exact Lw.Rd.nil _ _ _ | exact Lw.Rd.lit (Lw.blk_new' (by simp) _ _) rfl rfl | exact Lw.Rd.lit (Lw.blk_alloc (Lw.blk_new' (by simp) _ _) _) rfl rfl) (Lw.one1 _ _) (by omega) (Lw.balloc hB _) (Nat.le_refl _) (by simp; omega) ?_; intro v2 w2 own2 hb2 _ _))
        have O2 := Lib.hid own2
        clear own2
        go_wp2
        go_roundw
        case rel => exact ⟨k + 1, by go_num, by omega, by rw [S.out, Lw.intsV_snoc]; exact O2.out, hb2⟩
        case measure => simp [intOf]; omega
    · have h1 : ¬ k < n := by omega
      have h2 : ¬ k < m := by omega
      have T := E.out k h1 h2 kk
      obtain ⟨C, g, rfl, hg, _⟩ := Lw.ownsForm own
      have TR := ref_trimmed C k g (Lw.sumK p a b k) wr (Lw.Rd.of_own own) hg (by omega)
      rw [T] at TR
      have TR := Lib.hid TR
      clear own
      go_wp2_with (go_at_call 86; (with_reducible refine TR.out.mono ?_); rintro e w' ⟨C', m', c', rfl, R', hc', hb'⟩)
      go_ret
      exact ⟨C', m', c', rfl, R', hc', Lw.bt hB hb'⟩
end Go.Proofs.Ytjhjppaabmbbbaa
