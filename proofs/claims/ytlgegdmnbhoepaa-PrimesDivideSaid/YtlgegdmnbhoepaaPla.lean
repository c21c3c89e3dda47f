/- Sums of polynomials: poly.both, poly.Add, the reference's Add and Longs, the law's two. -/
import Derived.Test.YtlgegdmnbhoepaaPlz
import Derived.Test.YtlgegdmnbhoepaaHelp
namespace Lw
open Go Go.RowKit
theorem outR_in {zs : List Int} {m : Int} (h : outR m zs = false) : ∀ z ∈ zs, 0 ≤ z ∧ z < m := by
  intro z hz
  unfold outR at h
  rw [List.any_eq_false] at h
  have := h z hz
  simp at this
  omega
theorem intsV_snoc (k : IntKind) (a : List Int) (x : Int) : intsV k (a ++ [x]) = intsV k a ++ [.int k x] := by simp [intsV]
theorem plusV_add (p : Int) (a b : List Int) (i : Nat) : plusV p a b 1 0 i = (a.getD i 0 + b.getD i 0) % p := by simp [plusV]
def sumK (p : Int) (a b : List Int) (k : Nat) : List Int := (List.range k).map (plusV p a b 1 0)
theorem sumK_succ (p : Int) (a b : List Int) (k : Nat) : sumK p a b (k + 1) = sumK p a b k ++ [(a.getD k 0 + b.getD k 0) % p] := by
  unfold sumK; rw [List.range_succ, List.map_append, List.map_singleton, plusV_add]
theorem sumK_length (p : Int) (a b : List Int) (k : Nat) : (sumK p a b k).length = k := by simp [sumK]
theorem poly_facts {p : Int} {zs : List Int} (h : polyE p zs = 0) : 2 ≤ p ∧ p ≤ 251 ∧ primeB p = true ∧ zs.length ≤ 13 ∧ (∀ x ∈ zs, 0 ≤ x ∧ x < p) ∧ endZ zs = false := by
  by_cases hp : pprE p = 0
  · obtain ⟨h1, h2, h3⟩ := ppr_ok hp
    by_cases hl : 13 < zs.length
    · rw [poly_len hp hl] at h; omega
    · rw [poly_in hp hl] at h
      by_cases ho : (outR p zs || endZ zs) = true
      · rw [if_pos ho] at h; omega
      · simp at ho
        exact ⟨h1, h2, h3, by omega, outR_in ho.1, ho.2⟩
  · rw [poly_p hp] at h; exact absurd h hp
theorem getD_bd {p : Int} (hp : 0 < p) {a : List Int} (ha : ∀ x ∈ a, 0 ≤ x ∧ x < p) (i : Nat) : 0 ≤ a.getD i 0 ∧ a.getD i 0 < p := by
  rw [List.getD_eq_getElem?_getD]
  by_cases hi : i < a.length
  · rw [List.getElem?_eq_getElem hi]; exact ha _ (List.getElem_mem hi)
  · rw [List.getElem?_eq_none (by omega)]; exact ⟨by simp, by simpa using hp⟩
end Lw
set_option linter.unusedVariables false
set_option linter.unusedSimpArgs false
namespace Go.Proofs.Ytlgegdmnbhoepaa
open Go.RowKit
theorem ref_Longs (n c1 c2 : Nat) (A1 A2 : Option Addr) (zs : List Int) (w : World) (R1 : Lw.Rd w 1 A1 n (Lw.intsV .i64 zs)) (R2 : Lw.Rd w 1 A2 n (Lw.intsV .i64 zs)) (hn : n ≤ 1048576) :
    Calls Try.prog 46 #[.slice A1 n c1, .slice A2 n c2] w fun e w' => e = .returned (.bool true) ∧ ∃ d, w' = w.drewN d := by
  have hl : zs.length = n := by have := R1.1; simpa [Lw.intsV] using this
  have R1 := Lib.hid R1
  have R2 := Lib.hid R2
  have HL := Lib.hid hl
  clear hl
  go_enter Try.func46, Try.ntmps46
  go_wp2
  go_loopw [5] (fun i wr => ∃ k d : Nat, i = .int .i64 (k : Int) ∧ k ≤ n ∧ wr = w.drewN d) (fun i _ => n - (intOf i).toNat)
  case atStart => exact ⟨0, 0, rfl, by omega, rfl⟩
  case round =>
    obtain ⟨k, d, rfl, k1, rfl⟩ := hrel
    by_cases hlt : k < n
    · have hk : k < zs.length := by have := HL.out; omega
      obtain ⟨ad, rfl, had, c0⟩ := R1.out.at1 hlt (Lw.intsV_get hk)
      obtain ⟨ae, rfl, hae, e0⟩ := R2.out.at1 hlt (Lw.intsV_get hk)
      obtain ⟨x, hx⟩ : ∃ x, zs[k] = x := ⟨_, rfl⟩
      rw [hx] at c0 e0
      clear hx hk
      go_wp2
      go_quiet (fail)
      go_wp2
      go_roundw
      case rel => exact ⟨k + 1, _, by go_num, by omega, rfl⟩
      case measure => simp [intOf]; omega
    · go_wp2
      go_ret
      exact ⟨rfl, d, rfl⟩
end Go.Proofs.Ytlgegdmnbhoepaa
