/- poly.Gcd and the reference's PolyGcd: both follow the same rests. -/
import Derived.Test.YtjhjppaabmbbbaaPld
namespace Lw
open Go Go.RowKit
def remL (p : Int) (a b : List Int) : List Int := trimL (leftN p a b (invR (b.getD (b.length - 1) 0) p) (a.length + 1 - b.length))
/-- the last divisor of Euclid's way -/
inductive GcdR (p : Int) : List Int → List Int → List Int → Prop
  | stop (a : List Int) : GcdR p a [] a
  | step {a b d : List Int} (h : 0 < b.length) (r : GcdR p b (remL p a b) d) : GcdR p a b d
/-- a polynomial that may be -/
def goodL (p : Int) (a : List Int) : Prop := (∀ x ∈ a, 0 ≤ x ∧ x < p) ∧ endZ a = false ∧ a.length ≤ 13
/-- what divides both, with a last coefficient of 1 -/
def finL (p : Int) (d : List Int) : List Int := if d.length = 0 then [] else plusL p [] d (invR (d.getD (d.length - 1) 0) p) 0
theorem rem_good {p : Int} {a b : List Int} (hp : 0 < p) (ha : goodL p a) : goodL p (remL p a b) := by
  refine ⟨fun x hx => leftN_mem hp ha.1 _ x (trim_mem hx), endZ_trim _, ?_⟩
  have := trim_len (leftN p a b (invR (b.getD (b.length - 1) 0) p) (a.length + 1 - b.length))
  rw [leftN_length] at this
  have := ha.2.2
  unfold remL
  omega
theorem conv_one {p κ : Int} {a : List Int} {i : Nat} : ∀ K, K ≤ i → convM p a [κ] i K = 0
  | 0, _ => rfl
  | K + 1, h => by
    unfold convM
    rw [conv_one K (by omega), getD_out (l := [κ]) (i := i - K) (by simp; omega)]
    simp
theorem times_one {p κ : Int} (hp : 0 < p) (a : List Int) : timesK p a [κ] a.length = plusL p [] a κ 0 := by
  have t : trimL (plusL p [] a κ 0) = plusL p [] a κ 0 := trim_trim _
  rw [← timesK_trim a.length, ← t]
  refine trim_unique fun i => ?_
  rw [timesK_getD, conv_end hp, plusL_getD]
  unfold convM plusV
  rw [conv_one i (Nat.le_refl _), if_pos (Nat.le_refl _), if_pos (Nat.zero_le _), Nat.sub_self, Nat.sub_zero]
  have e1 : [κ].getD 0 0 = κ := rfl
  have e2 : ([] : List Int).getD i 0 = 0 := rfl
  rw [e1, e2, Int.mul_comm]
theorem ov_rem {p : Int} {a b : List Int} {j : Nat} (p1 : 2 ≤ p) (p2 : p ≤ 251) (pp : primeB p = true) (ha : goodL p a) (hb : goodL p b) (hm : 0 < b.length) (h1 : (ovN p a b (invR (b.getD (b.length - 1) 0) p) j).2.length < b.length)
    (h2 : ∀ i, i < j → b.length ≤ (ovN p a b (invR (b.getD (b.length - 1) 0) p) i).2.length) : (ovN p a b (invR (b.getD (b.length - 1) 0) p) j).2 = remL p a b :=
  (left_end (inv_top p1 p2 pp hb.1 (endZ_top hb.2.1 hm)) p1 ha.1 (trim_endZ ha.2.1) hm h1 h2).symm
theorem good_of {p : Int} {a : List Int} (h : polyE p a = 0) : goodL p a := by
  obtain ⟨_, _, _, l1, b1, z1⟩ := poly_facts h
  exact ⟨b1, z1, l1⟩
theorem good_top {p : Int} {a : List Int} (h : goodL p a) {t : Nat} (ht : a.length = t + 1) : ∃ (hl : t < a.length), 0 < a[t] ∧ a[t] < p ∧ a.getD (a.length - 1) 0 = a[t] := by
  have h1 := endZ_top h.2.1 (by omega)
  have hl : t < a.length := by omega
  have h2 := h.1 _ (List.getElem_mem hl)
  rw [show a.length - 1 = t by omega, getD_at hl] at h1
  exact ⟨hl, by omega, h2.2, by rw [show a.length - 1 = t by omega, getD_at hl]⟩
theorem fin_nil {p : Int} {d : List Int} (h : d.length = 0) : finL p d = [] := if_pos h
theorem fin_top {p : Int} {d : List Int} {t : Nat} (h : d.length = t + 1) : finL p d = plusL p [] d (invR (d.getD (d.length - 1) 0) p) 0 := if_neg (by omega)
end Lw
set_option linter.unusedVariables false
set_option linter.unusedSimpArgs false
namespace Go.Proofs.Ytjhjppaabmbbbaa
open Go.RowKit
end Go.Proofs.Ytjhjppaabmbbbaa
