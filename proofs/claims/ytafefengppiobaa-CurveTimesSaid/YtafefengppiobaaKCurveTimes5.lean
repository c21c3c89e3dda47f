/-
  curve.Add.
  The curve's sums by slopes, plain. (Printed by gencta.py.)
  The curve's sums, plain: a group; and the k-fold sum.
  curve.Times.
  The reference's SpotTimes.
  The law CurveTimes: so many times a spot is the reference's, or the code.
-/
import Derived.Test.YtafefengppiobaaKCurveTimes4
import Derived.Test.YtafefengppiobaaKCurveTimes1
namespace Lw
open Go Go.RowKit
/-- the code of two spots, as the program asks it and as the statements do -/
theorem two_first (P A B : Int) (s t : SpotT) : sptE P A B [s, t] = if oneE P A B s = 0 then oneE P A B t else oneE P A B s := by
  unfold oneE
  by_cases hc : crvE P A B = 0
  · rcases h1 : spotB P A B s.X s.Y s.F with _ | _ <;> rcases h2 : spotB P A B t.X t.Y t.F with _ | _ <;> simp [sptE, hc, h1, h2]
  · rw [spt_bad hc, spt_bad hc, if_neg hc]
theorem two_ok {P A B : Int} {s t : SpotT} (h : sptE P A B [s, t] = 0) : crvE P A B = 0 ∧ spotB P A B s.X s.Y s.F = true ∧ spotB P A B t.X t.Y t.F = true := by
  by_cases hc : crvE P A B = 0
  · rcases h1 : spotB P A B s.X s.Y s.F with _ | _ <;> rcases h2 : spotB P A B t.X t.Y t.F with _ | _ <;> simp [sptE, hc, h1, h2] at h ⊢
  · rw [spt_bad hc] at h; exact absurd h hc
end Lw
set_option linter.unusedVariables false
set_option linter.unusedSimpArgs false
namespace Go.Proofs.Ytafefengppiobaa
open Go.RowKit
end Go.Proofs.Ytafefengppiobaa
set_option linter.unusedVariables false
namespace Lw
theorem dvsum {P a b : Int} (h1 : P ∣ a) (h2 : P ∣ b) : P ∣ a + b := Int.dvd_add h1 h2
theorem dvmul {P a : Int} (u : Int) (h1 : P ∣ a) : P ∣ u * a := Int.dvd_mul_of_dvd_right h1
/-- the line through two spots, of the slope k -/
def Slp (P A x1 y1 x2 y2 k : Int) : Prop := P ∣ (y2 - y1 - k * (x2 - x1)) ∧ P ∣ (k * (y1 + y2) - (x1 * x1 + x1 * x2 + x2 * x2 + A))
def Third (P x1 y1 x2 k x4 y4 : Int) : Prop := P ∣ (x4 - (k * k - x1 - x2)) ∧ P ∣ (y4 - (k * (x1 - x4) - y1))
def Oc (P A B x y : Int) : Prop := P ∣ (y * y - (x * x * x + A * x + B))
/-- the one is not the other's other side -/
def Nv (P x1 y1 x2 y2 : Int) : Prop := ¬ (P ∣ (x2 - x1) ∧ P ∣ (y1 + y2))
/-- a prime -/
def Eu (P : Int) : Prop := ∀ a b : Int, P ∣ a * b → P ∣ a ∨ P ∣ b
theorem slp_swap {P A x1 y1 x2 y2 k : Int} (h : Slp P A x1 y1 x2 y2 k) : Slp P A x2 y2 x1 y1 k := by
  obtain ⟨h1, h2⟩ := h
  refine ⟨?_, ?_⟩
  · rw [show y1 - y2 - k * (x1 - x2) = (-1) * (y2 - y1 - k * (x2 - x1)) from by grind]; exact dvmul _ h1
  · rw [show k * (y2 + y1) - (x2 * x2 + x2 * x1 + x1 * x1 + A) = k * (y1 + y2) - (x1 * x1 + x1 * x2 + x2 * x2 + A) from by grind]; exact h2
theorem third_swap {P A x1 y1 x2 y2 k x4 y4 : Int} (h : Slp P A x1 y1 x2 y2 k) (t : Third P x1 y1 x2 k x4 y4) : Third P x2 y2 x1 k x4 y4 := by
  obtain ⟨h1, h2⟩ := h
  obtain ⟨t1, t2⟩ := t
  refine ⟨?_, ?_⟩
  · rw [show x4 - (k * k - x2 - x1) = x4 - (k * k - x1 - x2) from by grind]; exact t1
  · rw [show y4 - (k * (x2 - x4) - y2) = (y4 - (k * (x1 - x4) - y1)) + (y2 - y1 - k * (x2 - x1)) from by grind]; exact dvsum t2 h1
/-- of two slopes of one line -/
theorem slp_only {P A x1 y1 x2 y2 k k' : Int} (hp : Eu P) (hn : Nv P x1 y1 x2 y2) (h : Slp P A x1 y1 x2 y2 k) (h' : Slp P A x1 y1 x2 y2 k') : P ∣ (k - k') := by
  obtain ⟨h1, h2⟩ := h
  obtain ⟨i1, i2⟩ := h'
  have e1 : P ∣ ((k - k') * (x2 - x1)) := by
    rw [show (k - k') * (x2 - x1) = ((-1) * (y2 - y1 - k * (x2 - x1))) + ((1) * (y2 - y1 - k' * (x2 - x1))) from by grind]
    exact (dvsum (dvmul _ h1) (dvmul _ i1))
  have e2 : P ∣ ((k - k') * (y1 + y2)) := by
    rw [show (k - k') * (y1 + y2) = ((1) * (k * (y1 + y2) - (x1 * x1 + x1 * x2 + x2 * x2 + A))) + ((-1) * (k' * (y1 + y2) - (x1 * x1 + x1 * x2 + x2 * x2 + A))) from by grind]
    exact (dvsum (dvmul _ h2) (dvmul _ i2))
  rcases hp _ _ e1 with h | h
  · exact h
  · rcases hp _ _ e2 with h3 | h3
    · exact h3
    · exact absurd ⟨h, h3⟩ hn
/-- the third spot lies on the curve -/
theorem third_oc {P A B x1 y1 x2 y2 k x4 y4 : Int} (h : Slp P A x1 y1 x2 y2 k) (t : Third P x1 y1 x2 k x4 y4) (o1 : Oc P A B x1 y1) : Oc P A B x4 y4 := by
  obtain ⟨h1, h2⟩ := h
  obtain ⟨t1, t2⟩ := t
  unfold Oc at *
  rw [show y4 * y4 - (x4 * x4 * x4 + A * x4 + B) = ((y4 + ((-1) * y1) + k * x1 + ((-1) * k * x4)) * (y4 - (k * (x1 - x4) - y1))) + (((1) * (y1 * y1 - (x1 * x1 * x1 + A * x1 + B))) + (((x4 + ((-1) * x1)) * (k * (y1 + y2) - (x1 * x1 + x1 * x2 + x2 * x2 + A))) + (((k * x1 + ((-1) * k * x4)) * (y2 - y1 - k * (x2 - x1))) + ((((-1) * (x4 * x4)) + x1 * x4 + x2 * x4 + ((-1) * x1 * x2)) * (x4 - (k * k - x1 - x2)))))) from by grind]
  exact (dvsum (dvmul _ t2) (dvsum (dvmul _ o1) (dvsum (dvmul _ h2) (dvsum (dvmul _ h1) (dvmul _ t1)))))
/-- the other side of the one, and the sum: the line's other slope -/
theorem slp_back {P A x1 y1 x2 y2 k x4 y4 : Int} (h : Slp P A x1 y1 x2 y2 k) (t : Third P x1 y1 x2 k x4 y4) : Slp P A x1 (-y1) x4 y4 (-k) := by
  obtain ⟨h1, h2⟩ := h
  obtain ⟨t1, t2⟩ := t
  refine ⟨?_, ?_⟩
  · rw [show y4 - -y1 - -k * (x4 - x1) = (1) * (y4 - (k * (x1 - x4) - y1)) from by grind]
    exact (dvmul _ t2)
  · rw [show -k * (-y1 + y4) - (x1 * x1 + x1 * x4 + x4 * x4 + A) = (((-1) * k) * (y4 - (k * (x1 - x4) - y1))) + (((1) * (k * (y1 + y2) - (x1 * x1 + x1 * x2 + x2 * x2 + A))) + ((((-1) * k) * (y2 - y1 - k * (x2 - x1))) + ((x2 + ((-1) * x4)) * (x4 - (k * k - x1 - x2))))) from by grind]
    exact (dvsum (dvmul _ t2) (dvsum (dvmul _ h2) (dvsum (dvmul _ h1) (dvmul _ t1))))
theorem third_back {P A x1 y1 x2 y2 k x4 y4 : Int} (h : Slp P A x1 y1 x2 y2 k) (t : Third P x1 y1 x2 k x4 y4) : Third P x1 (-y1) x4 (-k) x2 y2 := by
  obtain ⟨h1, h2⟩ := h
  obtain ⟨t1, t2⟩ := t
  refine ⟨?_, ?_⟩
  · rw [show x2 - (-k * -k - x1 - x4) = (1) * (x4 - (k * k - x1 - x2)) from by grind]
    exact (dvmul _ t1)
  · rw [show y2 - (-k * (x1 - x2) - -y1) = (1) * (y2 - y1 - k * (x2 - x1)) from by grind]
    exact (dvmul _ h1)
theorem key {P A x1 y1 x2 y2 x3 y3 l m x4 y4 : Int} (hl : Slp P A x1 y1 x2 y2 l) (hm : Slp P A x2 y2 x3 y3 m) (ht : Third P x1 y1 x2 l x4 y4) : P ∣ ((l - m) * (y3 - y4) - (x3 - x4) * (l * m - l * l + x1 - x3)) := by
  obtain ⟨a, c⟩ := hl
  obtain ⟨b, d⟩ := hm
  obtain ⟨f, g⟩ := ht
  rw [show (l - m) * (y3 - y4) - (x3 - x4) * (l * m - l * l + x1 - x3) = ((1) * (l * (y1 + y2) - (x1 * x1 + x1 * x2 + x2 * x2 + A))) + (((-1) * (m * (y2 + y3) - (x2 * x2 + x2 * x3 + x3 * x3 + A))) + (((l) * (y3 - y2 - m * (x3 - x2))) + (((m) * (y2 - y1 - l * (x2 - x1))) + (((x1 + ((-1) * x3)) * (x4 - (l * l - x1 - x2))) + ((m + ((-1) * l)) * (y4 - (l * (x1 - x4) - y1))))))) from by grind]
  exact (dvsum (dvmul _ c) (dvsum (dvmul _ d) (dvsum (dvmul _ b) (dvsum (dvmul _ a) (dvsum (dvmul _ f) (dvmul _ g))))))
/-- the slope of the sum's line -/
theorem slope4 {P A x1 y1 x2 y2 x3 y3 l m x4 y4 α : Int} (hp : Eu P) (hl : Slp P A x1 y1 x2 y2 l) (hm : Slp P A x2 y2 x3 y3 m) (ht : Third P x1 y1 x2 l x4 y4) (hα : Slp P A x4 y4 x3 y3 α) (hn : Nv P x4 y4 x3 y3) : P ∣ (α * (l - m) - (l * m - l * l + x1 - x3)) := by
  have hk := key hl hm ht
  have ht' := third_swap hl ht
  obtain ⟨s1, s2⟩ := hα
  obtain ⟨a, c⟩ := hl
  obtain ⟨b, d⟩ := hm
  obtain ⟨f, g⟩ := ht
  obtain ⟨_, g'⟩ := ht'
  have e1 : P ∣ ((x3 - x4) * (α * (l - m) - (l * m - l * l + x1 - x3))) := by
    rw [show (x3 - x4) * (α * (l - m) - (l * m - l * l + x1 - x3)) = ((1) * ((l - m) * (y3 - y4) - (x3 - x4) * (l * m - l * l + x1 - x3))) + ((m + ((-1) * l)) * (y3 - y4 - α * (x3 - x4))) from by grind]
    exact (dvsum (dvmul _ hk) (dvmul _ s1))
  rcases hp _ _ e1 with hx | h
  rotate_left
  · exact h
  have T1 : P ∣ (y3 + y4 - (l - m) * (x2 - x3)) := by
    rw [show y3 + y4 - (l - m) * (x2 - x3) = ((1) * (y3 - y2 - m * (x3 - x2))) + (((1) * (y4 - (l * (x2 - x4) - y2))) + ((l) * (x3 - x4))) from by grind]
    exact (dvsum (dvmul _ b) (dvsum (dvmul _ g') (dvmul _ hx)))
  have T2 : P ∣ (y2 + y3 - l * (x2 - x3)) := by
    rw [show y2 + y3 - l * (x2 - x3) = ((1) * (y3 - y4 - α * (x3 - x4))) + (((l + α) * (x3 - x4)) + ((1) * (y4 - (l * (x2 - x4) - y2)))) from by grind]
    exact (dvsum (dvmul _ s1) (dvsum (dvmul _ hx) (dvmul _ g')))
  have e2 : P ∣ ((x2 - x3) * (α * (l - m) - (l * m - l * l + x1 - x3))) := by
    rw [show (x2 - x3) * (α * (l - m) - (l * m - l * l + x1 - x3)) = (((-1) * α) * (y3 + y4 - (l - m) * (x2 - x3))) + (((1) * (α * (y4 + y3) - (x4 * x4 + x4 * x3 + x3 * x3 + A))) + (((m) * (y2 + y3 - l * (x2 - x3))) + (((-1) * (m * (y2 + y3) - (x2 * x2 + x2 * x3 + x3 * x3 + A))) + (((x3 + ((-1) * x2)) * (x4 - (l * l - x1 - x2))) + ((((-1) * x2) + ((-1) * x3) + ((-1) * x4)) * (x3 - x4)))))) from by grind]
    exact (dvsum (dvmul _ T1) (dvsum (dvmul _ s2) (dvsum (dvmul _ T2) (dvsum (dvmul _ d) (dvsum (dvmul _ f) (dvmul _ hx))))))
  rcases hp _ _ e2 with h23 | h
  rotate_left
  · exact h
  refine absurd ⟨hx, ?_⟩ hn
  rw [show y4 + y3 = ((1) * (y3 + y4 - (l - m) * (x2 - x3))) + ((l + ((-1) * m)) * (x2 - x3)) from by grind]
  exact (dvsum (dvmul _ T1) (dvmul _ h23))
/-- in the end: the same spot -/
theorem last {P x1 y1 x2 y2 x3 y3 l m x4 y4 x6 y6 α β x5 y5 x7 y7 : Int} (hl : P ∣ (y2 - y1 - l * (x2 - x1))) (hm : P ∣ (y3 - y2 - m * (x3 - x2))) (h4 : P ∣ (x4 - (l * l - x1 - x2))) (h6 : P ∣ (x6 - (m * m - x2 - x3)))
    (h5 : Third P x3 y3 x4 α x5 y5) (h7 : Third P x1 y1 x6 β x7 y7) (hτ : P ∣ (α + l - (β + m))) (ht : P ∣ ((α + l) * (l - m) - (x1 - x3))) : P ∣ (x5 - x7) ∧ P ∣ (y5 - y7) := by
  obtain ⟨p1, p2⟩ := h5
  obtain ⟨q1, q2⟩ := h7
  have hx : P ∣ (x5 - x7) := by
    rw [show x5 - x7 = ((1) * (x5 - (α * α - x3 - x4))) + (((-1) * (x7 - (β * β - x1 - x6))) + (((-1) * (x4 - (l * l - x1 - x2))) + (((1) * (x6 - (m * m - x2 - x3))) + (((l + α + β + ((-1) * m)) * (α + l - (β + m))) + ((-2) * ((α + l) * (l - m) - (x1 - x3))))))) from by grind]
    exact (dvsum (dvmul _ p1) (dvsum (dvmul _ q1) (dvsum (dvmul _ h4) (dvsum (dvmul _ h6) (dvsum (dvmul _ hτ) (dvmul _ ht))))))
  refine ⟨hx, ?_⟩
  rw [show y5 - y7 = ((α + ((-1) * l)) * ((α + l) * (l - m) - (x1 - x3))) + (((m + ((-1) * l)) * (x4 - (l * l - x1 - x2))) + (((l + ((-1) * m)) * (x5 - (α * α - x3 - x4))) + (((x1 + ((-1) * x5)) * (α + l - (β + m))) + ((((-1) * β) * (x5 - x7)) + (((-1) * (y2 - y1 - l * (x2 - x1))) + (((-1) * (y3 - y2 - m * (x3 - x2))) + (((1) * (y5 - (α * (x3 - x5) - y3))) + ((-1) * (y7 - (β * (x1 - x7) - y1)))))))))) from by grind]
  exact (dvsum (dvmul _ ht) (dvsum (dvmul _ h4) (dvsum (dvmul _ p1) (dvsum (dvmul _ hτ) (dvsum (dvmul _ hx) (dvsum (dvmul _ hl) (dvsum (dvmul _ hm) (dvsum (dvmul _ p2) (dvmul _ q2)))))))))
/-- four sums that lie on lines: the same spot -/
theorem assoc_lines {P A x1 y1 x2 y2 x3 y3 l m x4 y4 x6 y6 α β x5 y5 x7 y7 : Int} (hp : Eu P) (hl : Slp P A x1 y1 x2 y2 l) (hm : Slp P A x2 y2 x3 y3 m) (t4 : Third P x1 y1 x2 l x4 y4) (t6 : Third P x2 y2 x3 m x6 y6)
    (hα : Slp P A x4 y4 x3 y3 α) (nα : Nv P x4 y4 x3 y3) (hβ : Slp P A x1 y1 x6 y6 β) (nβ : Nv P x1 y1 x6 y6) (t5 : Third P x4 y4 x3 α x5 y5) (t7 : Third P x1 y1 x6 β x7 y7) : (P ∣ (x5 - x7) ∧ P ∣ (y5 - y7)) ∨ (P ∣ (x3 - x1) ∧ P ∣ (y3 - y1)) := by
  have c1 := slope4 hp hl hm t4 hα nα
  have t6' := third_swap hm t6
  have nβ' : Nv P x6 y6 x1 y1 := fun h => nβ ⟨by rw [show x6 - x1 = (-1) * (x1 - x6) from by grind]; exact dvmul _ h.1, by rw [show y1 + y6 = y6 + y1 from by grind]; exact h.2⟩
  have c2 := slope4 hp (slp_swap hm) (slp_swap hl) t6' (slp_swap hβ) nβ'
  have t5' := third_swap hα t5
  have e1 : P ∣ ((α + l) * (l - m) - (x1 - x3)) := by
    rw [show (α + l) * (l - m) - (x1 - x3) = (1) * (α * (l - m) - (l * m - l * l + x1 - x3)) from by grind]
    exact (dvmul _ c1)
  have e2 : P ∣ ((α + l - (β + m)) * (l - m)) := by
    rw [show (α + l - (β + m)) * (l - m) = ((1) * (α * (l - m) - (l * m - l * l + x1 - x3))) + ((1) * (β * (m - l) - (m * l - m * m + x3 - x1))) from by grind]
    exact (dvsum (dvmul _ c1) (dvmul _ c2))
  rcases hp _ _ e2 with h | h
  · exact .inl (last (y4 := y4) (y6 := y6) hl.1 hm.1 t4.1 t6.1 t5' t7 h e1)
  · right
    have ex : P ∣ (x3 - x1) := by
      rw [show x3 - x1 = ((1) * ((α + l) * (l - m) - (x1 - x3))) + ((((-1) * l) + ((-1) * α)) * (l - m)) from by grind]
      exact (dvsum (dvmul _ e1) (dvmul _ h))
    refine ⟨ex, ?_⟩
    have a := hl.1
    have b := hm.1
    rw [show y3 - y1 = ((1) * (y2 - y1 - l * (x2 - x1))) + (((1) * (y3 - y2 - m * (x3 - x2))) + (((m) * (x3 - x1)) + ((x2 + ((-1) * x1)) * (l - m)))) from by grind]
    exact (dvsum (dvmul _ a) (dvsum (dvmul _ b) (dvsum (dvmul _ ex) (dvmul _ h))))
/-- a sum that is its first part: then the curve has a fault -/
theorem no_fix {P A B x1 y1 x2 y2 k x4 y4 : Int} (hp : Eu P) (h2p : ¬ P ∣ 2) (h : Slp P A x1 y1 x2 y2 k) (t : Third P x1 y1 x2 k x4 y4) (o1 : Oc P A B x1 y1) (hx : P ∣ (x4 - x1)) (hy : P ∣ (-y1 + y4)) : P ∣ (4 * (A * A * A) + 27 * (B * B)) := by
  obtain ⟨h1, h2⟩ := h
  obtain ⟨t1, t2⟩ := t
  unfold Oc at o1
  have e1 : P ∣ (2 * y1) := by
    rw [show 2 * y1 = ((-1) * (-y1 + y4)) + (((1) * (y4 - (k * (x1 - x4) - y1))) + (((-1) * k) * (x4 - x1))) from by grind]
    exact (dvsum (dvmul _ hy) (dvsum (dvmul _ t2) (dvmul _ hx)))
  have e2 : P ∣ y1 := by
    rcases hp _ _ e1 with h | h
    · exact absurd h h2p
    · exact h
  have ek : P ∣ (k * k - 2 * x1 - x2) := by
    rw [show k * k - 2 * x1 - x2 = ((-1) * (x4 - (k * k - x1 - x2))) + ((1) * (x4 - x1)) from by grind]
    exact (dvsum (dvmul _ t1) (dvmul _ hx))
  have e3 : P ∣ (A + 3 * (x1 * x1)) := by
    rw [show A + 3 * (x1 * x1) = ((-1) * (k * (y1 + y2) - (x1 * x1 + x1 * x2 + x2 * x2 + A))) + (((k) * (y2 - y1 - k * (x2 - x1))) + ((((2) * k) * (y1)) + ((x2 + ((-1) * x1)) * (k * k - 2 * x1 - x2)))) from by grind]
    exact (dvsum (dvmul _ h2) (dvsum (dvmul _ h1) (dvsum (dvmul _ e2) (dvmul _ ek))))
  have e4 : P ∣ (B - 2 * (x1 * x1 * x1)) := by
    rw [show B - 2 * (x1 * x1 * x1) = ((-1) * (y1 * y1 - (x1 * x1 * x1 + A * x1 + B))) + ((((-1) * x1) * (A + 3 * (x1 * x1))) + ((y1) * (y1))) from by grind]
    exact (dvsum (dvmul _ o1) (dvsum (dvmul _ e3) (dvmul _ e2)))
  rw [show 4 * (A * A * A) + 27 * (B * B) = (((27) * B + (54) * (x1 * x1 * x1)) * (B - 2 * (x1 * x1 * x1))) + (((4) * (A * A) + (36) * (x1 * x1 * x1 * x1) + ((-12) * A * (x1 * x1))) * (A + 3 * (x1 * x1))) from by grind]
  exact (dvsum (dvmul _ e4) (dvmul _ e3))
end Lw
set_option linter.unusedVariables false
namespace Lw
def On (P A B : Int) (s : SpotT) : Prop := spotB P A B s.X s.Y s.F = true
def farT : SpotT := ⟨0, 0, true⟩
theorem dzero {P a : Int} (h : P ∣ a) (h0 : -P < a) (h1 : a < P) : a = 0 := by
  obtain ⟨k, hk⟩ := h
  rcases Int.lt_trichotomy k 0 with h | h | h
  · have : P * k ≤ P * (-1) := Int.mul_le_mul_of_nonneg_left (by omega) (by omega); omega
  · subst h; omega
  · have : P * 1 ≤ P * k := Int.mul_le_mul_of_nonneg_left (by omega) (by omega); omega
theorem dmod (x P : Int) : P ∣ (x % P - x) := ⟨-(x / P), by rw [Int.emod_def]; grind⟩
theorem eu_of {P : Int} (hp : primeB P = true) : Eu P := fun a b h => by
  rcases prime_dvd_mul hp (Int.emod_eq_zero_of_dvd h) with h | h
  · exact .inl (Int.dvd_of_emod_eq_zero h)
  · exact .inr (Int.dvd_of_emod_eq_zero h)
theorem dneg {P a : Int} (h : P ∣ a) : P ∣ -a := (Int.dvd_neg).2 h
theorem dsub {P a b : Int} (h1 : P ∣ a) (h2 : P ∣ b) : P ∣ a - b := Int.dvd_sub h1 h2
theorem on_far {P A B : Int} {s : SpotT} (h : On P A B s) (hF : s.F = true) : s = farT := by
  obtain ⟨X, Y, F⟩ := s
  simp only at hF
  subst hF
  obtain ⟨rfl, rfl⟩ := spot_far h
  rfl
theorem far_on {P A B : Int} : On P A B farT := by unfold On farT spotB; simp
theorem on_fin {P A B : Int} {s : SpotT} (h : On P A B s) (hF : s.F = false) : inP P s.X s.Y ∧ Oc P A B s.X s.Y := by
  unfold On at h
  rw [hF] at h
  obtain ⟨h1, h2⟩ := spot_in h
  refine ⟨h1, ?_⟩
  unfold rhs at h2
  exact Int.dvd_of_emod_eq_zero (Int.emod_eq_emod_iff_emod_sub_eq_zero.1 h2)
theorem fin_on {P A B : Int} {s : SpotT} (hF : s.F = false) (h1 : inP P s.X s.Y) (h2 : Oc P A B s.X s.Y) : On P A B s := by
  unfold On spotB
  rw [hF, if_neg (by simp)]
  have h3 : s.Y * s.Y % P = rhs P A B s.X := by unfold rhs; exact Int.emod_eq_emod_iff_emod_sub_eq_zero.2 (Int.emod_eq_zero_of_dvd h2)
  exact decide_eq_true ⟨h1, h3⟩
theorem spot_eq {P : Int} {s t : SpotT} (hs : s.F = false) (ht : t.F = false) (h1 : inP P s.X s.Y) (h2 : inP P t.X t.Y) (hx : P ∣ (s.X - t.X)) (hy : P ∣ (s.Y - t.Y)) : s = t := by
  obtain ⟨X, Y, F⟩ := s
  obtain ⟨X', Y', F'⟩ := t
  simp only at hs ht h1 h2 hx hy
  obtain ⟨a1, a2, a3, a4⟩ := h1
  obtain ⟨b1, b2, b3, b4⟩ := h2
  have := dzero hx (by omega) (by omega)
  have := dzero hy (by omega) (by omega)
  subst hs ht
  have e1 : X = X' := by omega
  have e2 : Y = Y' := by omega
  rw [e1, e2]
/-- a curve as it should be -/
structure Cv (P A B : Int) : Prop where
  r : crvR P A B
  p : primeB P = true
  d : ¬ disc P A B = 0
theorem Cv.of {P A B : Int} (h : crvE P A B = 0) : Cv P A B := ⟨(of_crv h).1, (of_crv h).2.1, (of_crv h).2.2⟩
theorem Cv.pos {P A B : Int} (h : Cv P A B) : 0 < P := by have := h.r.1; omega
theorem Cv.two {P A B : Int} (h : Cv P A B) : ¬ P ∣ 2 := fun e => by have := h.r.1; have := dzero e (by omega) (by omega); omega
theorem nv_of {P A B : Int} {s t : SpotT} (hs : s.F = false) (ht : t.F = false) (h1 : inP P s.X s.Y) (h2 : inP P t.X t.Y) (hn : ¬ (s.X = t.X ∧ s.Y = (-t.Y) % P)) : Nv P s.X s.Y t.X t.Y := by
  intro ⟨e1, e2⟩
  obtain ⟨a1, a2, a3, a4⟩ := h1
  obtain ⟨b1, b2, b3, b4⟩ := h2
  have hx := dzero e1 (by omega) (by omega)
  refine hn ⟨by omega, ?_⟩
  have h3 : s.Y % P = (-t.Y) % P := Int.emod_eq_emod_iff_emod_sub_eq_zero.2 (Int.emod_eq_zero_of_dvd (by rw [show s.Y - -t.Y = s.Y + t.Y from by omega]; exact e2))
  rwa [Int.emod_eq_of_lt a3 a4] at h3
theorem not_nv {P : Int} {s t : SpotT} (h : s.X = t.X ∧ s.Y = (-t.Y) % P) : P ∣ (t.X - s.X) ∧ P ∣ (s.Y + t.Y) := by
  refine ⟨by rw [h.1, Int.sub_self]; exact Int.dvd_zero _, ?_⟩
  rw [h.2, show (-t.Y) % P + t.Y = (-t.Y) % P - (-t.Y) from by omega]
  exact dmod _ _
theorem slp_of {P A B : Int} {s t : SpotT} (hc : Cv P A B) (hs : s.F = false) (ht : t.F = false) (h1 : inP P s.X s.Y ∧ Oc P A B s.X s.Y) (h2 : inP P t.X t.Y ∧ Oc P A B t.X t.Y) (hn : ¬ (s.X = t.X ∧ s.Y = (-t.Y) % P)) : Slp P A s.X s.Y t.X t.Y (slopeI P A s t) := by
  obtain ⟨i1, o1⟩ := h1
  obtain ⟨i2, o2⟩ := h2
  have hP := hc.r.2.1
  have hP0 := hc.pos
  rcases slope_ok (A := A) (B := B) hc.p hc.r.1 hs ht i1 i2 (Int.emod_eq_emod_iff_emod_sub_eq_zero.2 (Int.emod_eq_zero_of_dvd o1)) (Int.emod_eq_emod_iff_emod_sub_eq_zero.2 (Int.emod_eq_zero_of_dvd o2)) hn with ⟨hx, hy, hz⟩ | ⟨hne, hz⟩
  · have hk := ovI_ok (a := 3 * s.X * s.X + A) hc.p (by omega) (by omega) hz
    unfold slopeI
    rw [if_pos ⟨hx, hy⟩, ← hx, ← hy]
    generalize ovI P (3 * s.X * s.X + A) (2 * s.Y) = k at hk ⊢
    replace hk := Int.dvd_of_emod_eq_zero hk
    have hm := dmod (2 * s.Y) P
    refine ⟨by rw [Int.sub_self, Int.sub_self, Int.mul_zero, Int.sub_zero]; exact Int.dvd_zero _, ?_⟩
    generalize 2 * s.Y % P = c at hk hm
    rw [show k * (s.Y + s.Y) - (s.X * s.X + s.X * s.X + s.X * s.X + A) = (k * c - (3 * s.X * s.X + A)) + (-k) * (c - 2 * s.Y) from by grind]
    exact dvsum hk (dvmul _ hm)
  · have hk := ovI_ok (a := t.Y - s.Y) hc.p (by omega) (by omega) hz
    unfold slopeI
    rw [if_neg hne]
    generalize ovI P (t.Y - s.Y) (t.X - s.X) = k at hk ⊢
    replace hk := Int.dvd_of_emod_eq_zero hk
    have hm := dmod (t.X - s.X) P
    generalize (t.X - s.X) % P = c at hk hm
    have e1 : P ∣ (t.Y - s.Y - k * (t.X - s.X)) := by
      rw [show t.Y - s.Y - k * (t.X - s.X) = (-1) * (k * c - (t.Y - s.Y)) + k * (c - (t.X - s.X)) from by grind]
      exact dvsum (dvmul _ hk) (dvmul _ hm)
    refine ⟨e1, ?_⟩
    have e2 : P ∣ ((t.X - s.X) * (k * (s.Y + t.Y) - (s.X * s.X + s.X * t.X + t.X * t.X + A))) := by
      unfold Oc at o1 o2
      generalize s.X = x1 at *
      generalize s.Y = y1 at *
      generalize t.X = x2 at *
      generalize t.Y = y2 at *
      rw [show (x2 - x1) * (k * (y1 + y2) - (x1 * x1 + x1 * x2 + x2 * x2 + A)) = (-(y1 + y2)) * (y2 - y1 - k * (x2 - x1)) + (1 * (y2 * y2 - (x2 * x2 * x2 + A * x2 + B)) + (-1) * (y1 * y1 - (x1 * x1 * x1 + A * x1 + B))) from by grind]
      exact dvsum (dvmul _ e1) (dvsum (dvmul _ o2) (dvmul _ o1))
    rcases eu_of hc.p _ _ e2 with h | h
    · exact absurd (Int.emod_eq_zero_of_dvd h) hz
    · exact h
/-- a sum of two: none of them far, and not the one the other's other side -/
structure Sums (P A B : Int) (s t r : SpotT) (k : Int) : Prop where
  f : r.F = false
  i : inP P r.X r.Y
  sl : Slp P A s.X s.Y t.X t.Y k
  th : Third P s.X s.Y t.X k r.X r.Y
  nv : Nv P s.X s.Y t.X t.Y
theorem add_sums {P A B : Int} {s t : SpotT} (hc : Cv P A B) (hs : s.F = false) (ht : t.F = false) (h1 : On P A B s) (h2 : On P A B t) (hn : ¬ (s.X = t.X ∧ s.Y = (-t.Y) % P)) : Sums P A B s t (addT P A s t) (slopeI P A s t) := by
  have h1 := on_fin h1 hs
  have h2 := on_fin h2 ht
  have hP := hc.pos
  have hsl := slp_of hc hs ht h1 h2 hn
  have hnv := nv_of (A := A) (B := B) hs ht h1.1 h2.1 hn
  obtain ⟨k, hk⟩ : ∃ k, slopeI P A s t = k := ⟨_, rfl⟩
  have e := addT_sum hs ht hn hk
  rw [hk] at hsl ⊢
  rw [e]
  refine ⟨rfl, ⟨Int.emod_nonneg _ (by omega), Int.emod_lt_of_pos _ hP, Int.emod_nonneg _ (by omega), Int.emod_lt_of_pos _ hP⟩, hsl, ⟨?_, ?_⟩, hnv⟩
  · exact dmod _ _
  · exact dmod _ _
theorem slp_congr {P A x1 y1 x2 y2 k y1' y2' : Int} (h1 : P ∣ (y1 - y1')) (h2 : P ∣ (y2 - y2')) (h : Slp P A x1 y1' x2 y2' k) : Slp P A x1 y1 x2 y2 k := by
  obtain ⟨a, b⟩ := h
  refine ⟨?_, ?_⟩
  · rw [show y2 - y1 - k * (x2 - x1) = (y2' - y1' - k * (x2 - x1)) + ((-1) * (y1 - y1') + 1 * (y2 - y2')) from by grind]
    exact dvsum a (dvsum (dvmul _ h1) (dvmul _ h2))
  · rw [show k * (y1 + y2) - (x1 * x1 + x1 * x2 + x2 * x2 + A) = (k * (y1' + y2') - (x1 * x1 + x1 * x2 + x2 * x2 + A)) + (k * (y1 - y1') + k * (y2 - y2')) from by grind]
    exact dvsum b (dvsum (dvmul _ h1) (dvmul _ h2))
theorem sums_only {P A B : Int} {s t r : SpotT} {k y1 y2 k' x y : Int} (hc : Cv P A B) (h : Sums P A B s t r k) (e1 : P ∣ (s.Y - y1)) (e2 : P ∣ (t.Y - y2)) (hs : Slp P A s.X y1 t.X y2 k') (ht : Third P s.X y1 t.X k' x y) : P ∣ (r.X - x) ∧ P ∣ (r.Y - y) := by
  have hk := slp_only (eu_of hc.p) h.nv h.sl (slp_congr e1 e2 hs)
  obtain ⟨a, b⟩ := h.th
  obtain ⟨c, d⟩ := ht
  generalize s.X = x1 at *
  generalize s.Y = z1 at *
  generalize t.X = x2 at *
  generalize t.Y = z2 at *
  generalize r.X = x4 at *
  generalize r.Y = y4 at *
  have hx : P ∣ (x4 - x) := by
    rw [show x4 - x = 1 * (x4 - (k * k - x1 - x2)) + ((-1) * (x - (k' * k' - x1 - x2)) + (k + k') * (k - k')) from by grind]
    exact dvsum (dvmul _ a) (dvsum (dvmul _ c) (dvmul _ hk))
  refine ⟨hx, ?_⟩
  rw [show y4 - y = 1 * (y4 - (k * (x1 - x4) - z1)) + ((-1) * (y - (k' * (x1 - x) - y1)) + ((x1 - x4) * (k - k') + ((-k') * (x4 - x) + (-1) * (z1 - y1)))) from by grind]
  exact dvsum (dvmul _ b) (dvsum (dvmul _ d) (dvsum (dvmul _ hk) (dvsum (dvmul _ hx) (dvmul _ e1))))
theorem on_add {P A B : Int} {s t : SpotT} (hc : Cv P A B) (h1 : On P A B s) (h2 : On P A B t) : On P A B (addT P A s t) := by
  cases hs : s.F with
  | true => rw [addT_far1 hs]; exact h2
  | false =>
    cases ht : t.F with
    | true => rw [addT_far2 hs ht]; exact h1
    | false =>
      by_cases hn : s.X = t.X ∧ s.Y = (-t.Y) % P
      · rw [addT_neg hs ht hn]; exact far_on
      · have h := add_sums hc hs ht h1 h2 hn
        exact fin_on h.f h.i (third_oc h.sl h.th (on_fin h1 hs).2)
theorem add_comm' {P A B : Int} {s t : SpotT} (hc : Cv P A B) (h1 : On P A B s) (h2 : On P A B t) : addT P A s t = addT P A t s := by
  cases hs : s.F with
  | true =>
    cases ht : t.F with
    | true => rw [on_far h1 hs, on_far h2 ht]
    | false => rw [addT_far1 hs, addT_far2 ht hs]
  | false =>
    cases ht : t.F with
    | true => rw [addT_far2 hs ht, addT_far1 ht]
    | false =>
      have hi := neg_iff (A := A) (B := B) hc.pos hs ht (on_fin h1 hs).1 (on_fin h2 ht).1
      by_cases hn : s.X = t.X ∧ s.Y = (-t.Y) % P
      · rw [addT_neg hs ht hn, addT_neg ht hs (hi.1 hn)]
      · have h := add_sums hc hs ht h1 h2 hn
        have h' := add_sums hc ht hs h2 h1 (fun e => hn (hi.2 e))
        obtain ⟨hx, hy⟩ := sums_only hc h (y1 := s.Y) (y2 := t.Y) (by rw [Int.sub_self]; exact Int.dvd_zero _) (by rw [Int.sub_self]; exact Int.dvd_zero _) (slp_swap h'.sl) (third_swap h'.sl h'.th)
        exact spot_eq h.f h'.f h.i h'.i hx hy
theorem on_neg {P A B : Int} {s : SpotT} (hc : Cv P A B) (h : On P A B s) : On P A B (negT P s) := by
  cases hs : s.F with
  | true => rw [on_far h hs]; unfold negT farT; simp; exact far_on
  | false =>
    obtain ⟨⟨a, b, c, d⟩, o⟩ := on_fin h hs
    have hP := hc.pos
    refine fin_on (s := negT P s) hs ⟨a, b, Int.emod_nonneg _ (by omega), Int.emod_lt_of_pos _ hP⟩ ?_
    show P ∣ ((-s.Y) % P * ((-s.Y) % P) - (s.X * s.X * s.X + A * s.X + B))
    have hm := dmod (-s.Y) P
    generalize (-s.Y) % P = y at *
    unfold Oc at o
    rw [show y * y - (s.X * s.X * s.X + A * s.X + B) = (s.Y * s.Y - (s.X * s.X * s.X + A * s.X + B)) + (y - s.Y) * (y - -s.Y) from by grind]
    exact dvsum o (dvmul _ hm)
theorem neg_neg' {P A B : Int} {s : SpotT} (hc : Cv P A B) (h : On P A B s) : negT P (negT P s) = s := by
  cases hs : s.F with
  | true => rw [on_far h hs]; unfold negT farT; simp
  | false =>
    have h2 := on_fin (on_neg hc (on_neg hc h)) hs
    refine spot_eq hs hs h2.1 (on_fin h hs).1 (by show P ∣ (s.X - s.X); rw [Int.sub_self]; exact Int.dvd_zero _) ?_
    show P ∣ ((-((-s.Y) % P)) % P - s.Y)
    have a := dmod (-((-s.Y) % P)) P
    have b := dmod (-s.Y) P
    rw [show (-((-s.Y) % P)) % P - s.Y = 1 * ((-((-s.Y) % P)) % P - -((-s.Y) % P)) + (-1) * ((-s.Y) % P - -s.Y) from by grind]
    exact dvsum (dvmul _ a) (dvmul _ b)
theorem neg_far {P : Int} : negT P farT = farT := by unfold negT farT; simp
theorem far_add {P A : Int} (s : SpotT) : addT P A farT s = s := addT_far1 rfl
theorem add_far {P A B : Int} {s : SpotT} (hc : Cv P A B) (h : On P A B s) : addT P A s farT = s := by rw [add_comm' hc h far_on, far_add]
theorem neg_of {P A B : Int} {s t : SpotT} (hc : Cv P A B) (hs : s.F = false) (ht : t.F = false) (h1 : On P A B s) (h2 : On P A B t) (hn : s.X = t.X ∧ s.Y = (-t.Y) % P) : s = negT P t := by
  obtain ⟨X, Y, F⟩ := s
  simp only at hs hn
  unfold negT
  rw [hs, hn.1, hn.2, ht]
theorem neg_add_self {P A B : Int} {s : SpotT} (hc : Cv P A B) (h : On P A B s) : addT P A (negT P s) s = farT := by
  cases hs : s.F with
  | true => rw [on_far h hs, neg_far, far_add]
  | false => exact addT_neg (s := negT P s) hs hs ⟨rfl, rfl⟩
theorem add_neg_self {P A B : Int} {s : SpotT} (hc : Cv P A B) (h : On P A B s) : addT P A s (negT P s) = farT := by rw [add_comm' hc h (on_neg hc h)]; exact neg_add_self hc h
/-- the one taken off the sum: the other is left -/
theorem add_back {P A B : Int} {s t : SpotT} (hc : Cv P A B) (h1 : On P A B s) (h2 : On P A B t) : addT P A (negT P s) (addT P A s t) = t := by
  cases hs : s.F with
  | true => rw [on_far h1 hs, neg_far, far_add, far_add]
  | false =>
    cases ht : t.F with
    | true => rw [addT_far2 hs ht, neg_add_self hc h1, on_far h2 ht]
    | false =>
      by_cases hn : s.X = t.X ∧ s.Y = (-t.Y) % P
      · rw [addT_neg hs ht hn]
        have : s = negT P t := neg_of hc hs ht h1 h2 hn
        rw [this, neg_neg' hc h2]
        exact add_far hc h2
      · have h := add_sums hc hs ht h1 h2 hn
        have hr := on_add hc h1 h2
        generalize addT P A s t = r at *
        have hm := dmod (-s.Y) P
        have hne : ¬ ((negT P s).X = r.X ∧ (negT P s).Y = (-r.Y) % P) := by
          intro e
          obtain ⟨n1, n2⟩ := not_nv e
          have n1 : P ∣ (r.X - s.X) := n1
          have n2 : P ∣ ((-s.Y) % P + r.Y) := n2
          refine hc.d (Int.emod_eq_zero_of_dvd (no_fix (eu_of hc.p) hc.two h.sl h.th (on_fin h1 hs).2 n1 ?_))
          rw [show -s.Y + r.Y = 1 * ((-s.Y) % P + r.Y) + (-1) * ((-s.Y) % P - -s.Y) from by grind]
          exact dvsum (dvmul _ n2) (dvmul _ hm)
        have h' := add_sums hc (s := negT P s) hs h.f (on_neg hc h1) hr hne
        obtain ⟨hx, hy⟩ := sums_only hc h' (y1 := -s.Y) (y2 := r.Y) hm (by rw [Int.sub_self]; exact Int.dvd_zero _) (slp_back h.sl h.th) (third_back h.sl h.th)
        exact spot_eq h'.f ht h'.i (on_fin h2 ht).1 hx hy
theorem neg_add {P A B : Int} {s t : SpotT} (hc : Cv P A B) (h1 : On P A B s) (h2 : On P A B t) : negT P (addT P A s t) = addT P A (negT P s) (negT P t) := by
  cases hs : s.F with
  | true => rw [on_far h1 hs, neg_far, far_add, far_add]
  | false =>
    cases ht : t.F with
    | true => rw [on_far h2 ht, neg_far, add_far hc h1, add_far hc (on_neg hc h1)]
    | false =>
      by_cases hn : s.X = t.X ∧ s.Y = (-t.Y) % P
      · have : s = negT P t := neg_of hc hs ht h1 h2 hn
        rw [this, neg_add_self hc h2, neg_neg' hc h2, add_neg_self hc h2, neg_far]
      · have h := add_sums hc hs ht h1 h2 hn
        have hr := on_add hc h1 h2
        have hm := dmod (-s.Y) P
        have hm2 := dmod (-t.Y) P
        have hne : ¬ ((negT P s).X = (negT P t).X ∧ (negT P s).Y = (-(negT P t).Y) % P) := by
          intro e
          obtain ⟨n1, n2⟩ := not_nv e
          have n1 : P ∣ (t.X - s.X) := n1
          have n2 : P ∣ ((-s.Y) % P + (-t.Y) % P) := n2
          refine h.nv ⟨n1, ?_⟩
          rw [show s.Y + t.Y = (-1) * ((-s.Y) % P + (-t.Y) % P) + (1 * ((-s.Y) % P - -s.Y) + 1 * ((-t.Y) % P - -t.Y)) from by grind]
          exact dvsum (dvmul _ n2) (dvsum (dvmul _ hm) (dvmul _ hm2))
        have h' := add_sums hc (s := negT P s) (t := negT P t) hs ht (on_neg hc h1) (on_neg hc h2) hne
        have hn' := on_neg hc hr
        obtain ⟨a, b⟩ := h.sl
        obtain ⟨c, d⟩ := h.th
        obtain ⟨hx, hy⟩ := sums_only hc h' (y1 := -s.Y) (y2 := -t.Y) (k' := -(slopeI P A s t)) (x := (addT P A s t).X) (y := -(addT P A s t).Y) hm hm2 ⟨by
          show P ∣ (-t.Y - -s.Y - -slopeI P A s t * (t.X - s.X))
          rw [show -t.Y - -s.Y - -slopeI P A s t * (t.X - s.X) = (-1) * (t.Y - s.Y - slopeI P A s t * (t.X - s.X)) from by grind]; exact dvmul _ a, by
          show P ∣ (-slopeI P A s t * (-s.Y + -t.Y) - (s.X * s.X + s.X * t.X + t.X * t.X + A))
          rw [show -slopeI P A s t * (-s.Y + -t.Y) - (s.X * s.X + s.X * t.X + t.X * t.X + A) = slopeI P A s t * (s.Y + t.Y) - (s.X * s.X + s.X * t.X + t.X * t.X + A) from by grind]; exact b⟩ ⟨by
          show P ∣ ((addT P A s t).X - (-slopeI P A s t * -slopeI P A s t - s.X - t.X))
          rw [show (addT P A s t).X - (-slopeI P A s t * -slopeI P A s t - s.X - t.X) = (addT P A s t).X - (slopeI P A s t * slopeI P A s t - s.X - t.X) from by grind]; exact c, by
          show P ∣ (-(addT P A s t).Y - (-slopeI P A s t * (s.X - (addT P A s t).X) - -s.Y))
          rw [show -(addT P A s t).Y - (-slopeI P A s t * (s.X - (addT P A s t).X) - -s.Y) = (-1) * ((addT P A s t).Y - (slopeI P A s t * (s.X - (addT P A s t).X) - s.Y)) from by grind]; exact dvmul _ d⟩
        have hf : (negT P (addT P A s t)).F = false := h.f
        refine (spot_eq h'.f hf h'.i (on_fin hn' hf).1 hx ?_).symm
        show P ∣ ((addT P A (negT P s) (negT P t)).Y - (-(addT P A s t).Y) % P)
        have hm3 := dmod (-(addT P A s t).Y) P
        rw [show (addT P A (negT P s) (negT P t)).Y - (-(addT P A s t).Y) % P = 1 * ((addT P A (negT P s) (negT P t)).Y - -(addT P A s t).Y) + (-1) * ((-(addT P A s t).Y) % P - -(addT P A s t).Y) from by grind]
        exact dvsum (dvmul _ hy) (dvmul _ hm3)
theorem add_assoc' {P A B : Int} {s t u : SpotT} (hc : Cv P A B) (h1 : On P A B s) (h2 : On P A B t) (h3 : On P A B u) : addT P A (addT P A s t) u = addT P A s (addT P A t u) := by
  have h12 := on_add hc h1 h2
  have h23 := on_add hc h2 h3
  cases hs : s.F with
  | true => rw [on_far h1 hs, far_add, far_add]
  | false =>
  cases ht : t.F with
  | true => rw [on_far h2 ht, far_add, add_far hc h1]
  | false =>
  cases hu : u.F with
  | true => rw [on_far h3 hu, add_far hc h2, add_far hc h12]
  | false =>
  by_cases n1 : s.X = t.X ∧ s.Y = (-t.Y) % P
  · rw [neg_of hc hs ht h1 h2 n1, neg_add_self hc h2, far_add, add_back hc h2 h3]
  by_cases n2 : t.X = u.X ∧ t.Y = (-u.Y) % P
  · have e := neg_of hc ht hu h2 h3 n2
    rw [e, neg_add_self hc h3, add_far hc h1]
    have hn := on_neg hc h3
    rw [add_comm' hc (on_add hc h1 hn) h3, add_comm' hc h1 hn]
    have := add_back hc hn h1
    rwa [neg_neg' hc h3] at this
  have k4 := add_sums hc hs ht h1 h2 n1
  have k6 := add_sums hc ht hu h2 h3 n2
  by_cases n3 : (addT P A s t).X = u.X ∧ (addT P A s t).Y = (-u.Y) % P
  · rw [addT_neg k4.f hu n3]
    have e := neg_of hc k4.f hu h12 h3 n3
    have e2 : u = addT P A (negT P s) (negT P t) := by rw [← neg_add hc h1 h2, e, neg_neg' hc h3]
    have e3 : addT P A t u = negT P s := by
      rw [e2, add_comm' hc (on_neg hc h1) (on_neg hc h2)]
      have := add_back hc (on_neg hc h2) (on_neg hc h1)
      rwa [neg_neg' hc h2] at this
    rw [e3, add_neg_self hc h1]
    rfl
  by_cases n4 : s.X = (addT P A t u).X ∧ s.Y = (-(addT P A t u).Y) % P
  · rw [addT_neg hs k6.f n4]
    have e := neg_of hc hs k6.f h1 h23 n4
    have e2 : s = addT P A (negT P t) (negT P u) := by rw [← neg_add hc h2 h3]; exact e
    have e3 : addT P A s t = negT P u := by
      rw [add_comm' hc h1 h2, e2]
      have := add_back hc (on_neg hc h2) (on_neg hc h3)
      rwa [neg_neg' hc h2] at this
    rw [e3, neg_add_self hc h3]
    rfl
  have k5 := add_sums hc k4.f hu h12 h3 n3
  have k7 := add_sums hc hs k6.f h1 h23 n4
  rcases assoc_lines (eu_of hc.p) k4.sl k6.sl k4.th k6.th k5.sl k5.nv k7.sl k7.nv k5.th k7.th with ⟨hx, hy⟩ | ⟨hx, hy⟩
  · exact spot_eq k5.f k7.f k5.i k7.i hx hy
  · have e : u = s := spot_eq hu hs (on_fin h3 hu).1 (on_fin h1 hs).1 hx hy
    rw [e, add_comm' hc h12 h1, add_comm' hc h1 h2]
/-- the k-fold sum -/
def mulT (P A : Int) : Nat → SpotT → SpotT
  | 0, _ => farT
  | n + 1, s => addT P A (mulT P A n s) s
theorem on_mul {P A B : Int} {s : SpotT} (hc : Cv P A B) (h : On P A B s) : ∀ n, On P A B (mulT P A n s)
  | 0 => far_on
  | n + 1 => on_add hc (on_mul hc h n) h
theorem mul_add' {P A B : Int} {s : SpotT} (hc : Cv P A B) (h : On P A B s) (a : Nat) : ∀ b, mulT P A (a + b) s = addT P A (mulT P A a s) (mulT P A b s)
  | 0 => (add_far hc (on_mul hc h a)).symm
  | b + 1 => by
    show addT P A (mulT P A (a + b) s) s = addT P A (mulT P A a s) (addT P A (mulT P A b s) s)
    rw [mul_add' hc h a b, add_assoc' hc (on_mul hc h a) (on_mul hc h b) h]
theorem mul_one' {P A : Int} {s : SpotT} : mulT P A 1 s = s := far_add s
theorem mul_two {P A B : Int} {s : SpotT} (hc : Cv P A B) (h : On P A B s) : ∀ q, mulT P A q (addT P A s s) = mulT P A (q + q) s
  | 0 => rfl
  | q + 1 => by
    show addT P A (mulT P A q (addT P A s s)) (addT P A s s) = _
    rw [mul_two hc h q, show q + 1 + (q + 1) = (q + q) + 2 from by omega, mul_add' hc h (q + q) 2]
    have : mulT P A 2 s = addT P A s s := by show addT P A (mulT P A 1 s) s = _; rw [mul_one']
    rw [this]
/-- a round of the program's -/
theorem mul_even {P A B : Int} {s m : SpotT} (hc : Cv P A B) (h : On P A B s) {k : Nat} (hk : k % 2 = 0) : addT P A m (mulT P A (k / 2) (addT P A s s)) = addT P A m (mulT P A k s) := by
  rw [mul_two hc h, show k / 2 + k / 2 = k from by omega]
theorem mul_odd {P A B : Int} {s m : SpotT} (hc : Cv P A B) (h : On P A B s) (hm : On P A B m) {k : Nat} (hk : k % 2 = 1) : addT P A (addT P A m s) (mulT P A (k / 2) (addT P A s s)) = addT P A m (mulT P A k s) := by
  rw [mul_two hc h, add_assoc' hc hm h (on_mul hc h _)]
  have e := mul_add' hc h 1 (k / 2 + k / 2)
  rw [mul_one', show 1 + (k / 2 + k / 2) = k from by omega] at e
  rw [e]
/-- the reference's halves -/
theorem half_even {P A B : Int} {s : SpotT} (hc : Cv P A B) (h : On P A B s) {k : Nat} (hk : k % 2 = 0) : addT P A (mulT P A (k / 2) s) (mulT P A (k / 2) s) = mulT P A k s := by
  rw [← mul_add' hc h, show k / 2 + k / 2 = k from by omega]
theorem half_odd {P A B : Int} {s : SpotT} (hc : Cv P A B) (h : On P A B s) {k : Nat} (hk : k % 2 = 1) : addT P A (addT P A (mulT P A (k / 2) s) (mulT P A (k / 2) s)) s = mulT P A k s := by
  rw [← mul_add' hc h]
  show mulT P A (k / 2 + k / 2 + 1) s = _
  rw [show k / 2 + k / 2 + 1 = k from by omega]
end Lw
namespace Lw
open Go Go.RowKit
theorem at_worldC {P : Program} {c : Code} {Q : Exit → Act → World → Prop} {a : Act} {w : World} (h : ∀ W, Hid (W = w) → c.wp P Q a W) : c.wp P Q a w := h w rfl
theorem set3o {W : World} {b b' : Nat} {o : Obj} {x y z : Value} (h : W.heap[b]? = some o) (hne : b ≠ b') : (((W.setCell ⟨b', 0, none⟩ x).setCell ⟨b', 1, none⟩ y).setCell ⟨b', 2, none⟩ z).heap[b]? = some o := blk_set_other (blk_set_other (blk_set_other h hne 0 x) hne 1 y) hne 2 z
end Lw
set_option linter.unusedVariables false
set_option linter.unusedSimpArgs false
namespace Go.Proofs.Ytafefengppiobaa
open Go.RowKit
set_option maxHeartbeats 2000000 in
theorem curve_Times_bad (P A B X Y k : Int) (F : Bool) (w : World) (h : ¬ Lw.oneE P A B ⟨X, Y, F⟩ = 0) :
    Calls Try.prog 8 #[.agg #[.int .i64 P, .int .i64 A, .int .i64 B], .int .i64 k, .agg #[.int .i64 X, .int .i64 Y, .bool F]] w fun e w' => e = .returned (.tuple #[.agg #[.int .i64 0, .int .i64 0, .bool false], .int .i64 (Lw.oneE P A B ⟨X, Y, F⟩)]) ∧ Below w.heap.size w w' := by
  have S : ∀ (V : Option Addr) (w : World), Lw.Rd w 3 V 1 (Lw.spotsV [⟨X, Y, F⟩]) → Calls Try.prog 14 #[.agg #[.int .i64 P, .int .i64 A, .int .i64 B], .slice V 1 1] w fun e w' => e = .returned (.tuple #[.agg #[.int .i64 0, .int .i64 0, .int .i64 0], .int .i64 (Lw.oneE P A B ⟨X, Y, F⟩)]) ∧ Below w.heap.size w w' := by
    intro V w R
    by_cases hc : Lw.crvE P A B = 0
    · have := curve_spots_ok P A B V 1 1 [⟨X, Y, F⟩] w R (by omega) hc
      have e : Lw.sptV P A B [⟨X, Y, F⟩] = .agg #[.int .i64 0, .int .i64 0, .int .i64 0] := if_neg h
      rw [e] at this
      exact this
    · exact curve_spots_bad P A B V 1 1 [⟨X, Y, F⟩] w hc
  replace S := Lib.hid S
  have h1 : (Lw.oneE P A B ⟨X, Y, F⟩ == 0) = false := by simpa using h
  obtain ⟨E, hE⟩ : ∃ E, Lw.oneE P A B ⟨X, Y, F⟩ = E := ⟨_, rfl⟩
  rw [hE] at S h1
  rw [hE]
  clear hE h
  obtain ⟨W, hW⟩ : ∃ W, ((w.alloc (.cells #[.int .i64 P, .int .i64 A, .int .i64 B] 30)).alloc (.cells #[.int .i64 X, .int .i64 Y, .bool F] 32)).alloc (.cells #[.int .i64 0, .int .i64 0, .bool false] 32) = W := ⟨_, rfl⟩
  have B1 := Lib.hid (show W.heap[w.heap.size + 1]? = some (.cells #[.int .i64 X, .int .i64 Y, .bool F] 32 (0, 0)) from hW ▸ Lw.blk_alloc (Lw.blk_new' (by simp) _ _) _)
  have B2 := Lib.hid (show W.heap[w.heap.size + 1 + 1]? = some (.cells #[.int .i64 0, .int .i64 0, .bool false] 32 (0, 0)) from hW ▸ Lw.blk_new' (by simp) _ _)
  have hBW : Below w.heap.size w W := by rw [← hW]; exact Lw.balloc (Lw.balloc (Lw.balloc (Below.refl _ _) _) _) _
  have hWs : w.heap.size + 1 + 1 < W.heap.size := by rw [← hW]; simp
  have HW := Lib.hid hW
  clear hW

  go_enter Try.func8, Try.ntmps8
  go_wp2_with fail
  rw [HW.out]
  have BV := Lw.blk_new' (W := W) (b := w.heap.size + 1 + 1 + 1) (by rw [← HW.out]; simp) #[.int .i64 X, .int .i64 Y, .bool F] 32
  refine (S.out _ _ (Lw.Rd.lit BV rfl rfl)).mono ?_
  rintro e w1 ⟨rfl, hb1⟩
  have C2 := (Lw.blk_alloc ((hb1.block (w.heap.size + 1 + 1) (by simp; omega)).trans (Lw.blk_alloc B2.out _)) (.cells #[.int .i64 0, .int .i64 0, .int .i64 0] 44))
  have f1 := Lw.blk_free C2 0; have f2 := Lw.blk_free C2 1; have f3 := Lw.blk_free C2 2; have c1 := Lw.blk_cell C2 0; have c2 := Lw.blk_cell C2 1; have c3 := Lw.blk_cell C2 2
  simp at c1 c2 c3 f1 f2 f3
  obtain ⟨r0, r1, r2⟩ := Lw.set3c (x := .int .i64 0) (y := .int .i64 0) (z := .bool false) C2
  have r0 := Lib.hid r0; have r1 := Lib.hid r1; have r2 := Lib.hid r2
  have HB := Lib.hid (Lw.balloc (Lw.bt (Lw.balloc hBW _) hb1) (.cells #[.int .i64 0, .int .i64 0, .int .i64 0] 44))
  clear BV C2
  go_wp2_with fail
  refine bodyPost_ret (v := .tuple #[.agg #[.int .i64 0, .int .i64 0, .bool false], .int .i64 E]) (by simp only [results, Try.results8]; simp [go_sem, r0.out, r1.out, r2.out]) rfl ⟨rfl, Lw.bset3 HB.out (by omega) _ _ _⟩
set_option maxHeartbeats 2000000 in
theorem curve_Times_range (P A B X Y k : Int) (F : Bool) (w : World) (hc : Lw.crvE P A B = 0) (h : Lw.spotB P A B X Y F = true) (hk : k < 0 ∨ (0 ≤ k ∧ 2147483648 < k)) :
    Calls Try.prog 8 #[.agg #[.int .i64 P, .int .i64 A, .int .i64 B], .int .i64 k, .agg #[.int .i64 X, .int .i64 Y, .bool F]] w fun e w' => e = .returned (.tuple #[.agg #[.int .i64 0, .int .i64 0, .bool false], .int .i64 2]) ∧ Below w.heap.size w w' := by
  have S : ∀ (V : Option Addr) (w : World), Lw.Rd w 3 V 1 (Lw.spotsV [⟨X, Y, F⟩]) → Calls Try.prog 14 #[.agg #[.int .i64 P, .int .i64 A, .int .i64 B], .slice V 1 1] w fun e w' => e = .returned (.tuple #[.agg #[.int .i64 P, .int .i64 A, .int .i64 B], .int .i64 0]) ∧ Below w.heap.size w w' := by
    intro V w R
    have := curve_spots_ok P A B V 1 1 [⟨X, Y, F⟩] w R (by omega) hc
    rw [Lw.spt_okV hc (by simp [h])] at this
    exact this
  replace S := Lib.hid S

  clear hc h
  obtain ⟨W, hW⟩ : ∃ W, ((w.alloc (.cells #[.int .i64 P, .int .i64 A, .int .i64 B] 30)).alloc (.cells #[.int .i64 X, .int .i64 Y, .bool F] 32)).alloc (.cells #[.int .i64 0, .int .i64 0, .bool false] 32) = W := ⟨_, rfl⟩
  have B1 := Lib.hid (show W.heap[w.heap.size + 1]? = some (.cells #[.int .i64 X, .int .i64 Y, .bool F] 32 (0, 0)) from hW ▸ Lw.blk_alloc (Lw.blk_new' (by simp) _ _) _)
  have B2 := Lib.hid (show W.heap[w.heap.size + 1 + 1]? = some (.cells #[.int .i64 0, .int .i64 0, .bool false] 32 (0, 0)) from hW ▸ Lw.blk_new' (by simp) _ _)
  have hBW : Below w.heap.size w W := by rw [← hW]; exact Lw.balloc (Lw.balloc (Lw.balloc (Below.refl _ _) _) _) _
  have hWs : w.heap.size + 1 + 1 < W.heap.size := by rw [← hW]; simp
  have HW := Lib.hid hW
  clear hW

  rcases hk with hk | ⟨hk0, hk⟩
  all_goals
    go_enter Try.func8, Try.ntmps8
    go_wp2_with fail
    rw [HW.out]
    have BV := Lw.blk_new' (W := W) (b := w.heap.size + 1 + 1 + 1) (by rw [← HW.out]; simp) #[.int .i64 X, .int .i64 Y, .bool F] 32
    refine (S.out _ _ (Lw.Rd.lit BV rfl rfl)).mono ?_
    rintro e w1 ⟨rfl, hb1⟩
    have C2 := (Lw.blk_alloc ((hb1.block (w.heap.size + 1 + 1) (by simp; omega)).trans (Lw.blk_alloc B2.out _)) (.cells #[.int .i64 P, .int .i64 A, .int .i64 B] 44))
    have f1 := Lw.blk_free C2 0; have f2 := Lw.blk_free C2 1; have f3 := Lw.blk_free C2 2; have c1 := Lw.blk_cell C2 0; have c2 := Lw.blk_cell C2 1; have c3 := Lw.blk_cell C2 2
    simp at c1 c2 c3 f1 f2 f3
    obtain ⟨r0, r1, r2⟩ := Lw.set3c (x := .int .i64 0) (y := .int .i64 0) (z := .bool false) C2
    have r0 := Lib.hid r0; have r1 := Lib.hid r1; have r2 := Lib.hid r2
    have HB := Lib.hid (Lw.balloc (Lw.bt (Lw.balloc hBW _) hb1) (.cells #[.int .i64 P, .int .i64 A, .int .i64 B] 44))
    clear BV C2
    go_wp2_with fail
    refine bodyPost_ret (v := .tuple #[.agg #[.int .i64 0, .int .i64 0, .bool false], .int .i64 2]) (by simp only [results, Try.results8]; simp [go_sem, r0.out, r1.out, r2.out]) rfl ⟨rfl, Lw.bset3 HB.out (by omega) _ _ _⟩
set_option maxHeartbeats 4000000 in
theorem curve_Times_ok (P A B X Y : Int) (K : Nat) (F : Bool) (w : World) (hc : Lw.crvE P A B = 0) (h : Lw.spotB P A B X Y F = true) (hK : K ≤ 2147483648) :
    Calls Try.prog 8 #[.agg #[.int .i64 P, .int .i64 A, .int .i64 B], .int .i64 (K : Int), .agg #[.int .i64 X, .int .i64 Y, .bool F]] w fun e w' => e = .returned (.tuple #[(Lw.mulT P A K ⟨X, Y, F⟩).v, .int .i64 0]) ∧ Below w.heap.size w w' := by
  have S : ∀ (V : Option Addr) (w : World), Lw.Rd w 3 V 1 (Lw.spotsV [⟨X, Y, F⟩]) → Calls Try.prog 14 #[.agg #[.int .i64 P, .int .i64 A, .int .i64 B], .slice V 1 1] w fun e w' => e = .returned (.tuple #[.agg #[.int .i64 P, .int .i64 A, .int .i64 B], .int .i64 0]) ∧ Below w.heap.size w w' := by
    intro V w R
    have := curve_spots_ok P A B V 1 1 [⟨X, Y, F⟩] w R (by omega) hc
    rw [Lw.spt_okV hc (by simp [h])] at this
    exact this
  replace S := Lib.hid S

  have HS := Lib.hid (show Lw.On P A B ⟨X, Y, F⟩ from h)
  have HC := Lib.hid (Lw.Cv.of hc)
  have AD := Lib.hid (fun X Y F X' Y' F' w (hs : Lw.spotB P A B X Y F = true) (ht : Lw.spotB P A B X' Y' F' = true) => curve_add P A B X Y X' Y' F F' w (Lw.of_crv hc).1 hs ht)
  obtain ⟨G, hG⟩ : ∃ G, Lw.mulT P A K ⟨X, Y, F⟩ = G := ⟨_, rfl⟩
  rw [hG]
  have HG := Lib.hid hG
  clear hc h hG
  obtain ⟨W, hW⟩ : ∃ W, ((w.alloc (.cells #[.int .i64 P, .int .i64 A, .int .i64 B] 30)).alloc (.cells #[.int .i64 X, .int .i64 Y, .bool F] 32)).alloc (.cells #[.int .i64 0, .int .i64 0, .bool false] 32) = W := ⟨_, rfl⟩
  have B1 := Lib.hid (show W.heap[w.heap.size + 1]? = some (.cells #[.int .i64 X, .int .i64 Y, .bool F] 32 (0, 0)) from hW ▸ Lw.blk_alloc (Lw.blk_new' (by simp) _ _) _)
  have B2 := Lib.hid (show W.heap[w.heap.size + 1 + 1]? = some (.cells #[.int .i64 0, .int .i64 0, .bool false] 32 (0, 0)) from hW ▸ Lw.blk_new' (by simp) _ _)
  have hBW : Below w.heap.size w W := by rw [← hW]; exact Lw.balloc (Lw.balloc (Lw.balloc (Below.refl _ _) _) _) _
  have hWs : w.heap.size + 1 + 1 < W.heap.size := by rw [← hW]; simp
  have HW := Lib.hid hW
  clear hW

  go_enter Try.func8, Try.ntmps8
  go_wp2_with fail
  rw [HW.out]
  have BV := Lw.blk_new' (W := W) (b := w.heap.size + 1 + 1 + 1) (by rw [← HW.out]; simp) #[.int .i64 X, .int .i64 Y, .bool F] 32
  refine (S.out _ _ (Lw.Rd.lit BV rfl rfl)).mono ?_
  rintro e w1 ⟨rfl, hb1⟩
  have C1 := Lib.hid ((hb1.block (w.heap.size + 1) (by simp; omega)).trans (Lw.blk_alloc B1.out _))
  have C2 := Lib.hid ((hb1.block (w.heap.size + 1 + 1) (by simp; omega)).trans (Lw.blk_alloc B2.out _))
  have hz1 := hb1.size
  simp at hz1
  have HB := Lib.hid (Lw.bt (Lw.balloc hBW _) hb1)
  clear BV hBW hb1 HW B1 B2 S
  go_wp2_with fail
  refine Lw.at_worldC (fun W0 hW0 => ?_)
  have hB0 : Below w.heap.size w W0 := by rw [hW0.out]; exact Lw.balloc (Lw.balloc HB.out _) _
  have X5 : W0.heap[w.heap.size + 1]? = some (.cells #[.int .i64 X, .int .i64 Y, .bool F] 32 (0, 0)) := by rw [hW0.out]; exact Lw.blk_alloc (Lw.blk_alloc C1.out _) _
  have X6 : W0.heap[w.heap.size + 1 + 1]? = some (.cells #[.int .i64 0, .int .i64 0, .bool false] 32 (0, 0)) := by rw [hW0.out]; exact Lw.blk_alloc (Lw.blk_alloc C2.out _) _
  have X8 : W0.heap[w1.heap.size]? = some (.cells #[.int .i64 P, .int .i64 A, .int .i64 B] 44 (0, 0)) := by rw [hW0.out]; exact Lw.blk_alloc (Lw.blk_new _ _ _) _
  have X10 : W0.heap[w1.heap.size + 1]? = some (.cells #[.int .i64 0, .int .i64 0, .bool true] 32 (0, 0)) := by rw [hW0.out]; exact Lw.blk_new' (by simp) _ _
  have n1 : w.heap.size + 1 + 1 < w1.heap.size := by omega
  clear hW0 C1 C2 hz1 HB hWs
  obtain ⟨b6, hb6⟩ : ∃ b, w.heap.size + 1 + 1 = b := ⟨_, rfl⟩
  rw [hb6] at X6 n1 ⊢
  obtain ⟨b5, hb5⟩ : ∃ b, w.heap.size + 1 = b := ⟨_, rfl⟩
  rw [hb5] at X5 hb6 ⊢
  obtain ⟨b10, hb10⟩ : ∃ b, w1.heap.size + 1 = b := ⟨_, rfl⟩
  rw [hb10] at X10 ⊢
  obtain ⟨b8, hb8⟩ : ∃ b, w1.heap.size = b := ⟨_, rfl⟩
  rw [hb8] at X8 n1 hb10 ⊢
  have n65 : b6 ≠ b5 := by omega
  have n85 : b8 ≠ b5 := by omega
  have n105 : b10 ≠ b5 := by omega
  have n510 : b5 ≠ b10 := by omega
  have n610 : b6 ≠ b10 := by omega
  have n810 : b8 ≠ b10 := by omega
  go_loopw [1] (fun i wr => ∃ (k : Nat) (X1 Y1 X2 Y2 : Int) (F1 F2 : Bool), i = .int .i64 (k : Int) ∧ k ≤ 2147483648 ∧ wr.heap[b5]? = some (.cells #[.int .i64 X1, .int .i64 Y1, .bool F1] 32 (0, 0)) ∧ wr.heap[b6]? = some (.cells #[.int .i64 0, .int .i64 0, .bool false] 32 (0, 0)) ∧ wr.heap[b8]? = some (.cells #[.int .i64 P, .int .i64 A, .int .i64 B] 44 (0, 0)) ∧ wr.heap[b10]? = some (.cells #[.int .i64 X2, .int .i64 Y2, .bool F2] 32 (0, 0)) ∧ Hid (Lw.On P A B ⟨X1, Y1, F1⟩ ∧ Lw.On P A B ⟨X2, Y2, F2⟩ ∧ Lw.addT P A ⟨X2, Y2, F2⟩ (Lw.mulT P A k ⟨X1, Y1, F1⟩) = G) ∧ Below w.heap.size w wr) (fun i _ => (intOf i).toNat)
  case atStart => exact ⟨K, X, Y, 0, 0, F, true, rfl, hK, X5, X6, X8, X10, ⟨HS.out, Lw.far_on, (Lw.far_add _).trans HG.out⟩, hB0⟩
  case round =>
    obtain ⟨k, X1, Y1, X2, Y2, F1, F2, rfl, hk, E5, E6, E8, E10, HI, hB⟩ := hrel
    have k0 := Lw.blk_cell E5 0; have k1 := Lw.blk_cell E5 1; have k2 := Lw.blk_cell E5 2
    have l0 := Lw.blk_cell E8 0; have l1 := Lw.blk_cell E8 1; have l2 := Lw.blk_cell E8 2
    have m0 := Lw.blk_cell E10 0; have m1 := Lw.blk_cell E10 1; have m2 := Lw.blk_cell E10 2
    simp at k0 k1 k2 l0 l1 l2 m0 m1 m2
    have hkk : (0 < k ∧ k % 2 = 1) ∨ (0 < k ∧ k % 2 = 0) ∨ k = 0 := by omega
    rcases hkk with ⟨hlt, ho⟩ | ⟨hlt, ho⟩ | hz
    · obtain ⟨o1, o2, hi⟩ := HI.out
      have hlt' : (0 : Int) < (k : Int) := by omega
      have hand : bits .and .i64 (k : Int) 1 = (k : Int) % 2 := Lw.and_one _ (by omega) (by omega)
      have hbb : (bits .and .i64 (k : Int) 1 == 1) = true := by rw [hand, beq_iff_eq]; omega
      rcases hd : Lw.addT P A ⟨X1, Y1, F1⟩ ⟨X1, Y1, F1⟩ with ⟨X4, Y4, F4⟩
      have od := Lw.on_add HC.out o1 o1
      have A2 := fun w => AD.out X1 Y1 F1 X1 Y1 F1 w o1 o1
      rcases hs : Lw.addT P A ⟨X2, Y2, F2⟩ ⟨X1, Y1, F1⟩ with ⟨X3, Y3, F3⟩
      have os := Lw.on_add HC.out o2 o1
      have A1 := fun w => AD.out X2 Y2 F2 X1 Y1 F1 w o2 o1
      have hm := Lw.mul_odd (m := ⟨X2, Y2, F2⟩) HC.out o1 o2 ho
      rw [hs, hd, hi] at hm
      rw [hd] at od A2
      rw [hs] at os A1
      simp only [Lw.SpotT.v] at A1 A2
      replace A1 := Lib.hid A1
      replace A2 := Lib.hid A2
      have NI : Hid (Lw.On P A B ⟨X4, Y4, F4⟩ ∧ Lw.On P A B ⟨X3, Y3, F3⟩ ∧ Lw.addT P A ⟨X3, Y3, F3⟩ (Lw.mulT P A (k / 2) ⟨X4, Y4, F4⟩) = G) := ⟨od, os, hm⟩
      clear hd hs od os hm hi o1 o2 HI hand ho
      have HE := Lib.hid (And.intro E5 (And.intro E6 (And.intro E8 E10)))
      clear E5 E6 E8 E10
      go_wp2_with fail
      obtain ⟨E5, E6, E8, E10⟩ := HE.out
      refine (A1.out _).mono ?_
      rintro e w2 ⟨rfl, hb2⟩
      have D5 := (hb2.block b5 (Lw.blk_lt E5)).trans E5
      have D6 := (hb2.block b6 (Lw.blk_lt E6)).trans E6
      have D8 := (hb2.block b8 (Lw.blk_lt E8)).trans E8
      have D10 := (hb2.block b10 (Lw.blk_lt E10)).trans E10
      have s0 := Lw.blk_free D10 0; have s1 := Lw.blk_free D10 1; have s2 := Lw.blk_free D10 2; have t0 := Lw.blk_cell D10 0; have t1 := Lw.blk_cell D10 1; have t2 := Lw.blk_cell D10 2
      have G5 := Lw.set3o (x := .int .i64 X3) (y := .int .i64 Y3) (z := .bool F3) D5 n510
      have G6 := Lw.set3o (x := .int .i64 X3) (y := .int .i64 Y3) (z := .bool F3) D6 n610
      have G8 := Lw.set3o (x := .int .i64 X3) (y := .int .i64 Y3) (z := .bool F3) D8 n810
      have G10 := Lw.set3 (x := .int .i64 X3) (y := .int .i64 Y3) (z := .bool F3) D10
      have hG := Lw.bset3 (b := b10) (Lw.bt hB hb2) (by omega) (.int .i64 X3) (.int .i64 Y3) (.bool F3)
      have u0 := Lw.blk_cell G5 0; have u1 := Lw.blk_cell G5 1; have u2 := Lw.blk_cell G5 2
      have v0 := Lw.blk_cell G8 0; have v1 := Lw.blk_cell G8 1; have v2 := Lw.blk_cell G8 2
      simp at t0 t1 t2 u0 u1 u2 v0 v1 v2
      have HE2 := Lib.hid (And.intro G5 (And.intro G6 (And.intro G8 (And.intro G10 hG))))
      clear E5 E6 E8 E10 HE D5 D6 D8 D10 G5 G6 G8 G10 hG
      go_wp2_with fail
      obtain ⟨G5, G6, G8, G10, hG⟩ := HE2.out
      refine (A2.out _).mono ?_
      rintro e w3 ⟨rfl, hb3⟩
      have D5 := (hb3.block b5 (Lw.blk_lt G5)).trans G5
      have D6 := (hb3.block b6 (Lw.blk_lt G6)).trans G6
      have D8 := (hb3.block b8 (Lw.blk_lt G8)).trans G8
      have D10 := (hb3.block b10 (Lw.blk_lt G10)).trans G10
      have s0 := Lw.blk_free D5 0; have s1 := Lw.blk_free D5 1; have s2 := Lw.blk_free D5 2; have t0 := Lw.blk_cell D5 0; have t1 := Lw.blk_cell D5 1; have t2 := Lw.blk_cell D5 2
      simp at t0 t1 t2
      have H5 := Lib.hid (Lw.set3 (x := .int .i64 X4) (y := .int .i64 Y4) (z := .bool F4) D5)
      have H6 := Lib.hid (Lw.set3o (x := .int .i64 X4) (y := .int .i64 Y4) (z := .bool F4) D6 n65)
      have H8 := Lib.hid (Lw.set3o (x := .int .i64 X4) (y := .int .i64 Y4) (z := .bool F4) D8 n85)
      have H10 := Lib.hid (Lw.set3o (x := .int .i64 X4) (y := .int .i64 Y4) (z := .bool F4) D10 n105)
      have HH := Lib.hid (Lw.bset3 (b := b5) (Lw.bt hG hb3) (by omega) (.int .i64 X4) (.int .i64 Y4) (.bool F4))
      clear D5 D6 D8 D10 G5 G6 G8 G10
      go_wp2_with fail
      go_roundw
      case rel => exact ⟨k / 2, X4, Y4, _, _, F4, _, by go_num, by omega, H5.out, H6.out, H8.out, H10.out, NI, HH.out⟩
      case measure => simp [intOf]; omega

    · obtain ⟨o1, o2, hi⟩ := HI.out
      have hlt' : (0 : Int) < (k : Int) := by omega
      have hand : bits .and .i64 (k : Int) 1 = (k : Int) % 2 := Lw.and_one _ (by omega) (by omega)
      have hbb : (bits .and .i64 (k : Int) 1 == 1) = false := by rw [hand, beq_eq_false_iff_ne]; omega
      rcases hd : Lw.addT P A ⟨X1, Y1, F1⟩ ⟨X1, Y1, F1⟩ with ⟨X4, Y4, F4⟩
      have od := Lw.on_add HC.out o1 o1
      have A2 := fun w => AD.out X1 Y1 F1 X1 Y1 F1 w o1 o1
      have hm := Lw.mul_even (m := ⟨X2, Y2, F2⟩) HC.out o1 ho
      rw [hd, hi] at hm
      rw [hd] at od A2
      simp only [Lw.SpotT.v] at A2
      replace A2 := Lib.hid A2
      have NI : Hid (Lw.On P A B ⟨X4, Y4, F4⟩ ∧ Lw.On P A B ⟨X2, Y2, F2⟩ ∧ Lw.addT P A ⟨X2, Y2, F2⟩ (Lw.mulT P A (k / 2) ⟨X4, Y4, F4⟩) = G) := ⟨od, o2, hm⟩
      clear hd od hm hi o1 o2 HI hand ho
      have HE2 := Lib.hid (And.intro E5 (And.intro E6 (And.intro E8 (And.intro E10 hB))))
      clear E5 E6 E8 E10
      go_wp2_with fail
      obtain ⟨G5, G6, G8, G10, hG⟩ := HE2.out
      refine (A2.out _).mono ?_
      rintro e w3 ⟨rfl, hb3⟩
      have D5 := (hb3.block b5 (Lw.blk_lt G5)).trans G5
      have D6 := (hb3.block b6 (Lw.blk_lt G6)).trans G6
      have D8 := (hb3.block b8 (Lw.blk_lt G8)).trans G8
      have D10 := (hb3.block b10 (Lw.blk_lt G10)).trans G10
      have s0 := Lw.blk_free D5 0; have s1 := Lw.blk_free D5 1; have s2 := Lw.blk_free D5 2; have t0 := Lw.blk_cell D5 0; have t1 := Lw.blk_cell D5 1; have t2 := Lw.blk_cell D5 2
      simp at t0 t1 t2
      have H5 := Lib.hid (Lw.set3 (x := .int .i64 X4) (y := .int .i64 Y4) (z := .bool F4) D5)
      have H6 := Lib.hid (Lw.set3o (x := .int .i64 X4) (y := .int .i64 Y4) (z := .bool F4) D6 n65)
      have H8 := Lib.hid (Lw.set3o (x := .int .i64 X4) (y := .int .i64 Y4) (z := .bool F4) D8 n85)
      have H10 := Lib.hid (Lw.set3o (x := .int .i64 X4) (y := .int .i64 Y4) (z := .bool F4) D10 n105)
      have HH := Lib.hid (Lw.bset3 (b := b5) (Lw.bt hG hb3) (by omega) (.int .i64 X4) (.int .i64 Y4) (.bool F4))
      clear D5 D6 D8 D10 G5 G6 G8 G10
      go_wp2_with fail
      go_roundw
      case rel => exact ⟨k / 2, X4, Y4, _, _, F4, _, by go_num, by omega, H5.out, H6.out, H8.out, H10.out, NI, HH.out⟩
      case measure => simp [intOf]; omega

    · subst hz
      have e : (⟨X2, Y2, F2⟩ : Lw.SpotT) = G := by
        have := HI.out.2.2
        rwa [show Lw.mulT P A 0 ⟨X1, Y1, F1⟩ = Lw.farT from rfl, Lw.add_far HC.out HI.out.2.1] at this
      subst e
      have f1 := Lw.blk_free E6 0; have f2 := Lw.blk_free E6 1; have f3 := Lw.blk_free E6 2; have c1 := Lw.blk_cell E6 0; have c2 := Lw.blk_cell E6 1; have c3 := Lw.blk_cell E6 2
      simp at c1 c2 c3
      obtain ⟨r0, r1, r2⟩ := Lw.set3c (x := .int .i64 X2) (y := .int .i64 Y2) (z := .bool F2) E6
      have r0 := Lib.hid r0; have r1 := Lib.hid r1; have r2 := Lib.hid r2
      clear E5 E6 E8 E10 HI HG
      go_wp2_with fail
      refine bodyPost_ret (v := .tuple #[.agg #[.int .i64 X2, .int .i64 Y2, .bool F2], .int .i64 0]) (by simp only [results, Try.results8]; simp [go_sem, r0.out, r1.out, r2.out]) rfl ⟨rfl, Lw.bset3 hB (by omega) _ _ _⟩
end Go.Proofs.Ytafefengppiobaa
set_option linter.unusedVariables false
set_option linter.unusedSimpArgs false
namespace Go.Proofs.Ytafefengppiobaa
open Go.RowKit
set_option maxHeartbeats 4000000 in
theorem ref_SpotTimes (P A B X Y : Int) (F : Bool) (hc : Lw.crvE P A B = 0) (h : Lw.spotB P A B X Y F = true) (n : Nat) : ∀ (k : Nat) (w : World), k ≤ n → k ≤ 2147483648 →
    Calls Try.prog 10 #[.agg #[.int .i64 P, .int .i64 A, .int .i64 B], .int .i64 (k : Int), .agg #[.int .i64 X, .int .i64 Y, .bool F]] w fun e w' => e = .returned (Lw.mulT P A k ⟨X, Y, F⟩).v ∧ Below w.heap.size w w' := by
  have zero : ∀ (w : World), Calls Try.prog 10 #[.agg #[.int .i64 P, .int .i64 A, .int .i64 B], .int .i64 0, .agg #[.int .i64 X, .int .i64 Y, .bool F]] w fun e w' => e = .returned (Lw.mulT P A 0 ⟨X, Y, F⟩).v ∧ Below w.heap.size w w' := by
    intro w
    have E := Lib.hid (show (Lw.mulT P A 0 ⟨X, Y, F⟩).v = .agg #[.int .i64 0, .int .i64 0, .bool true] from rfl)
    clear hc h
    go_enter Try.func10, Try.ntmps10
    go_wp2_with fail
    refine bodyPost_ret (v := .agg #[.int .i64 0, .int .i64 0, .bool true]) (by simp only [results, Try.results10]; simp [go_sem]) rfl ⟨by rw [E.out], by (repeat (first | exact Below.refl _ _ | refine Lw.bt ?_ (by assumption) | refine Lw.balloc ?_ _ | refine Lw.bdrewN ?_ _ | refine Below.drew ?_ | refine Lw.bset ?_ (by first | (simp; done) | (simp; omega) | omega) _))⟩
  induction n with
  | zero =>
    intro k w h1 _
    obtain rfl : k = 0 := by omega
    exact zero w
  | succ n ih =>
    intro k w h1 h2
    by_cases hk : k = 0
    · subst hk; exact zero w
    clear zero
    have IH := Lib.hid (fun w => ih (k / 2) w (by omega) (by omega))
    have hk0 : ((k : Int) == 0) = false := by rw [beq_eq_false_iff_ne]; omega
    have hk1 : 1 ≤ k := by omega
    have cv := Lw.Cv.of hc
    have on1 : Lw.On P A B ⟨X, Y, F⟩ := h
    have AD := fun X Y F X' Y' F' w (hs : Lw.spotB P A B X Y F = true) (ht : Lw.spotB P A B X' Y' F' = true) => ref_SpotAdd P A B X Y X' Y' F F' w (Lw.of_crv hc).1 (Lw.of_crv hc).2.1 hs ht
    have oh := Lw.on_mul cv on1 (k / 2)
    have od := Lw.on_add cv oh oh
    have HE := Lw.half_even cv on1 (k := k)
    have HO := Lw.half_odd cv on1 (k := k)
    clear ih hk
    rcases hh : Lw.mulT P A (k / 2) ⟨X, Y, F⟩ with ⟨X1, Y1, F1⟩
    rw [hh] at IH oh od HE HO
    have A1 := fun w => AD X1 Y1 F1 X1 Y1 F1 w oh oh
    rcases hd : Lw.addT P A ⟨X1, Y1, F1⟩ ⟨X1, Y1, F1⟩ with ⟨X2, Y2, F2⟩
    rw [hd] at od HE HO A1
    have A2 := fun w => AD X2 Y2 F2 X Y F w od on1
    rcases hs : Lw.addT P A ⟨X2, Y2, F2⟩ ⟨X, Y, F⟩ with ⟨X3, Y3, F3⟩
    rw [hs] at HO A2
    replace IH : Hid (∀ w, Calls Try.prog 10 #[.agg #[.int .i64 P, .int .i64 A, .int .i64 B], .int .i64 ((k / 2 : Nat) : Int), .agg #[.int .i64 X, .int .i64 Y, .bool F]] w fun e w' => e = .returned (.agg #[.int .i64 X1, .int .i64 Y1, .bool F1]) ∧ Below w.heap.size w w') := IH
    have ek : ((k / 2 : Nat) : Int) = (k : Int) / 2 := by omega
    rw [ek] at IH
    simp only [Lw.SpotT.v] at A1 A2
    replace A1 := Lib.hid A1
    replace A2 := Lib.hid A2
    obtain ⟨W, hW⟩ : ∃ W, ((w.alloc (.cells #[.int .i64 P, .int .i64 A, .int .i64 B] 30)).alloc (.cells #[.int .i64 X, .int .i64 Y, .bool F] 32)).alloc (.cells #[.int .i64 0, .int .i64 0, .bool false] 32) = W := ⟨_, rfl⟩
    have B0 := show W.heap[w.heap.size]? = some (.cells #[.int .i64 P, .int .i64 A, .int .i64 B] 30 (0, 0)) from hW ▸ Lw.blk_alloc (Lw.blk_alloc (Lw.blk_new _ _ _) _) _
    have B1 := show W.heap[w.heap.size + 1]? = some (.cells #[.int .i64 X, .int .i64 Y, .bool F] 32 (0, 0)) from hW ▸ Lw.blk_alloc (Lw.blk_new' (by simp) _ _) _
    have B2 := show W.heap[w.heap.size + 1 + 1]? = some (.cells #[.int .i64 0, .int .i64 0, .bool false] 32 (0, 0)) from hW ▸ Lw.blk_new' (by simp) _ _
    have hBW : Below w.heap.size w W := by rw [← hW]; exact Lw.balloc (Lw.balloc (Lw.balloc (Below.refl _ _) _) _) _
    have l0 := Lw.blk_cell B0 0; have l1 := Lw.blk_cell B0 1; have l2 := Lw.blk_cell B0 2
    have k0 := Lw.blk_cell B1 0; have k1 := Lw.blk_cell B1 1; have k2 := Lw.blk_cell B1 2
    simp at l0 l1 l2 k0 k1 k2
    have HW := Lib.hid hW
    have HBB := Lib.hid (And.intro B0 (And.intro B1 B2))
    clear hW B0 B1 B2 AD cv on1 oh od hh hd hs hc h ek
    go_enter Try.func10, Try.ntmps10
    go_wp2_with fail
    rw [HW.out]
    refine (IH.out _).mono ?_
    rintro e w1 ⟨rfl, hb1⟩
    obtain ⟨B0, B1, B2⟩ := HBB.out
    have q2 := Lw.blk_lt B2
    have q3 := hb1.size
    have C0 := Lw.blk_alloc ((hb1.block _ (Lw.blk_lt B0)).trans B0) (.cells #[.int .i64 X1, .int .i64 Y1, .bool F1] 32)
    have C1 := Lw.blk_alloc ((hb1.block _ (Lw.blk_lt B1)).trans B1) (.cells #[.int .i64 X1, .int .i64 Y1, .bool F1] 32)
    have C2 := Lw.blk_alloc ((hb1.block _ (Lw.blk_lt B2)).trans B2) (.cells #[.int .i64 X1, .int .i64 Y1, .bool F1] 32)
    have C7 := Lw.blk_new w1 #[.int .i64 X1, .int .i64 Y1, .bool F1] 32
    have hB1 := Lw.balloc (Lw.bt hBW hb1) (.cells #[.int .i64 X1, .int .i64 Y1, .bool F1] 32)
    have n0 : w.heap.size ≠ w1.heap.size := by omega
    have n1 : w.heap.size + 1 ≠ w1.heap.size := by omega
    have n2 : w.heap.size + 1 + 1 ≠ w1.heap.size := by omega
    have n7 : w.heap.size ≤ w1.heap.size := by omega
    have i0 := Lw.blk_cell C0 0; have i1 := Lw.blk_cell C0 1; have i2 := Lw.blk_cell C0 2
    have j0 := Lw.blk_cell C7 0; have j1 := Lw.blk_cell C7 1; have j2 := Lw.blk_cell C7 2
    simp at i0 i1 i2 j0 j1 j2
    have HCC := Lib.hid (And.intro C0 (And.intro C1 (And.intro C2 (And.intro C7 hB1))))
    clear B0 B1 B2 C0 C1 C2 C7 hB1 HBB hBW HW l0 l1 l2 k0 k1 k2 q2 q3
    go_wp2_with fail
    refine (A1.out _).mono ?_
    rintro e w2 ⟨rfl, hb2⟩
    obtain ⟨C0, C1, C2, C7, hB1⟩ := HCC.out
    have D0 := (hb2.block _ (Lw.blk_lt C0)).trans C0
    have D1 := (hb2.block _ (Lw.blk_lt C1)).trans C1
    have D2 := (hb2.block _ (Lw.blk_lt C2)).trans C2
    have D7 := (hb2.block _ (Lw.blk_lt C7)).trans C7
    have s0 := Lw.blk_free D7 0; have s1 := Lw.blk_free D7 1; have s2 := Lw.blk_free D7 2; have t0 := Lw.blk_cell D7 0; have t1 := Lw.blk_cell D7 1; have t2 := Lw.blk_cell D7 2
    have G0 := Lw.set3o (x := .int .i64 X2) (y := .int .i64 Y2) (z := .bool F2) D0 n0
    have G1 := Lw.set3o (x := .int .i64 X2) (y := .int .i64 Y2) (z := .bool F2) D1 n1
    have G2 := Lw.set3o (x := .int .i64 X2) (y := .int .i64 Y2) (z := .bool F2) D2 n2
    have G7 := Lw.set3 (x := .int .i64 X2) (y := .int .i64 Y2) (z := .bool F2) D7
    have hG := Lw.bset3 (Lw.bt hB1 hb2) n7 (.int .i64 X2) (.int .i64 Y2) (.bool F2)
    simp at t0 t1 t2
    clear C0 C1 C2 C7 D0 D1 D2 D7 HCC hB1
    have ho : k % 2 = 0 ∨ k % 2 = 1 := by omega
    rcases ho with ho | ho
    · have HO := (HE ho).symm
      have hbb : ((k : Int) % 2 == 1) = false := by rw [beq_eq_false_iff_ne]; omega
      clear HE ho
      obtain ⟨r0, r1, r2⟩ := Lw.set3c (x := .int .i64 X2) (y := .int .i64 Y2) (z := .bool F2) G2
      have r0 := Lib.hid r0; have r1 := Lib.hid r1; have r2 := Lib.hid r2
      have g0 := Lw.blk_free G2 0; have g1 := Lw.blk_free G2 1; have g2 := Lw.blk_free G2 2; have d0 := Lw.blk_cell G2 0; have d1 := Lw.blk_cell G2 1; have d2 := Lw.blk_cell G2 2
      have y0 := Lw.blk_cell G7 0; have y1 := Lw.blk_cell G7 1; have y2 := Lw.blk_cell G7 2
      simp at d0 d1 d2 y0 y1 y2
      have HH := Lib.hid (Lw.bset3 hG (by omega : w.heap.size ≤ w.heap.size + 1 + 1) (.int .i64 X2) (.int .i64 Y2) (.bool F2))
      clear G0 G1 G2 G7 hG
      go_wp2_with fail
      refine bodyPost_ret (v := .agg #[.int .i64 X2, .int .i64 Y2, .bool F2]) (by simp only [results, Try.results10]; simp [go_sem, r0.out, r1.out, r2.out]) rfl ⟨by rw [HO]; rfl, HH.out⟩

    · have HO := (HO ho).symm
      have hbb : ((k : Int) % 2 == 1) = true := by rw [beq_iff_eq]; omega
      clear HE ho
      have y0 := Lw.blk_cell G7 0; have y1 := Lw.blk_cell G7 1; have y2 := Lw.blk_cell G7 2
      have u0 := Lw.blk_cell G0 0; have u1 := Lw.blk_cell G0 1; have u2 := Lw.blk_cell G0 2
      have v0 := Lw.blk_cell G1 0; have v1 := Lw.blk_cell G1 1; have v2 := Lw.blk_cell G1 2
      simp at y0 y1 y2 u0 u1 u2 v0 v1 v2
      have HGG := Lib.hid (And.intro G0 (And.intro G1 (And.intro G2 (And.intro G7 hG))))
      clear G0 G1 G2 G7 hG
      go_wp2_with fail
      refine (A2.out _).mono ?_
      rintro e w3 ⟨rfl, hb3⟩
      obtain ⟨C0, C1, C2, C7, hB1⟩ := HGG.out
      have D0 := (hb3.block _ (Lw.blk_lt C0)).trans C0
      have D1 := (hb3.block _ (Lw.blk_lt C1)).trans C1
      have D2 := (hb3.block _ (Lw.blk_lt C2)).trans C2
      have D7 := (hb3.block _ (Lw.blk_lt C7)).trans C7
      have s0 := Lw.blk_free D7 0; have s1 := Lw.blk_free D7 1; have s2 := Lw.blk_free D7 2; have t0 := Lw.blk_cell D7 0; have t1 := Lw.blk_cell D7 1; have t2 := Lw.blk_cell D7 2
      have G0 := Lw.set3o (x := .int .i64 X3) (y := .int .i64 Y3) (z := .bool F3) D0 n0
      have G1 := Lw.set3o (x := .int .i64 X3) (y := .int .i64 Y3) (z := .bool F3) D1 n1
      have G2 := Lw.set3o (x := .int .i64 X3) (y := .int .i64 Y3) (z := .bool F3) D2 n2
      have G7 := Lw.set3 (x := .int .i64 X3) (y := .int .i64 Y3) (z := .bool F3) D7
      have hG := Lw.bset3 (Lw.bt hB1 hb3) n7 (.int .i64 X3) (.int .i64 Y3) (.bool F3)
      simp at t0 t1 t2
      clear C0 C1 C2 C7 D0 D1 D2 D7 HGG hB1 u0 u1 u2 v0 v1 v2 y0 y1 y2
      obtain ⟨r0, r1, r2⟩ := Lw.set3c (x := .int .i64 X3) (y := .int .i64 Y3) (z := .bool F3) G2
      have r0 := Lib.hid r0; have r1 := Lib.hid r1; have r2 := Lib.hid r2
      have g0 := Lw.blk_free G2 0; have g1 := Lw.blk_free G2 1; have g2 := Lw.blk_free G2 2; have d0 := Lw.blk_cell G2 0; have d1 := Lw.blk_cell G2 1; have d2 := Lw.blk_cell G2 2
      have y0 := Lw.blk_cell G7 0; have y1 := Lw.blk_cell G7 1; have y2 := Lw.blk_cell G7 2
      simp at d0 d1 d2 y0 y1 y2
      have HH := Lib.hid (Lw.bset3 hG (by omega : w.heap.size ≤ w.heap.size + 1 + 1) (.int .i64 X3) (.int .i64 Y3) (.bool F3))
      clear G0 G1 G2 G7 hG
      go_wp2_with fail
      refine bodyPost_ret (v := .agg #[.int .i64 X3, .int .i64 Y3, .bool F3]) (by simp only [results, Try.results10]; simp [go_sem, r0.out, r1.out, r2.out]) rfl ⟨by rw [HO]; rfl, HH.out⟩

end Go.Proofs.Ytafefengppiobaa
set_option linter.unusedVariables false
namespace Go.Proofs.Ytafefengppiobaa.LW
open Go.RowKit
set_option maxHeartbeats 2000000 in
theorem CurveTimes_bad (P A B k X Y : Int) (F : Bool) (w : World) (h : ¬ Lw.oneE P A B ⟨X, Y, F⟩ = 0) :
    Calls Try.prog 4 #[.agg #[.int .i64 P, .int .i64 A, .int .i64 B], .int .i64 k, .agg #[.int .i64 X, .int .i64 Y, .bool F]] w fun e w' => e = .returned (.bool true) ∧ Below w.heap.size w w' := by
  have N : ∃ X2 Y2 : Int, ∃ F2 : Bool, X2 = 0 ∧ Y2 = 0 ∧ F2 = false ∧ ∀ w : World, Calls Try.prog 8 #[.agg #[.int .i64 P, .int .i64 A, .int .i64 B], .int .i64 k, .agg #[.int .i64 X, .int .i64 Y, .bool F]] w fun e w' => e = .returned (.tuple #[.agg #[.int .i64 X2, .int .i64 Y2, .bool F2], .int .i64 (Lw.oneE P A B ⟨X, Y, F⟩)]) ∧ Below w.heap.size w w' := ⟨0, 0, false, rfl, rfl, rfl, fun w => curve_Times_bad P A B X Y k F w h⟩
  have S1 := fun w => law_spot P A B X Y F w
  have h1 : (Lw.oneE P A B ⟨X, Y, F⟩ == 0) = false := by simpa using h
  obtain ⟨E, hE⟩ : ∃ E, Lw.oneE P A B ⟨X, Y, F⟩ = E := ⟨_, rfl⟩
  rw [hE] at N S1 h1
  clear hE h
  obtain ⟨X2, Y2, F2, hX2, hY2, hF2, N⟩ := N
  replace N := Lib.hid N
  replace S1 := Lib.hid S1
  have t1 : (X2 == 0) = true := by simpa using hX2
  have t2 : (Y2 == 0) = true := by simpa using hY2
  have t3 : (F2 == false) = true := by simpa using hF2
  have HF := Lib.hid hF2
  clear hX2 hY2 hF2
  obtain ⟨W, hW⟩ : ∃ W, (w.alloc (.cells #[.int .i64 P, .int .i64 A, .int .i64 B] 30)).alloc (.cells #[.int .i64 X, .int .i64 Y, .bool F] 32) = W := ⟨_, rfl⟩
  have B0 := Lib.hid (show W.heap[w.heap.size]? = some (.cells #[.int .i64 P, .int .i64 A, .int .i64 B] 30 (0, 0)) from hW ▸ Lw.blk_alloc (Lw.blk_new _ _ _) _)
  have B1 := Lib.hid (show W.heap[w.heap.size + 1]? = some (.cells #[.int .i64 X, .int .i64 Y, .bool F] 32 (0, 0)) from hW ▸ Lw.blk_new' (by simp) _ _)
  have hBW : Below w.heap.size w W := by rw [← hW]; exact Lw.balloc (Lw.balloc (Below.refl _ _) _) _
  have hWs1 : w.heap.size + 1 < W.heap.size := by rw [← hW]; simp
  have hWs : w.heap.size < W.heap.size := by omega
  have HW := Lib.hid hW
  clear hW
  go_enter Try.func4, Try.ntmps4
  go_wp2_with fail
  rw [HW.out]
  refine (N.out _).mono ?_
  rintro e w1 ⟨rfl, hb1⟩
  have hz1 := hb1.size
  have C0 := Lw.blk_alloc ((hb1.block w.heap.size hWs).trans B0.out) (.cells #[.int .i64 X2, .int .i64 Y2, .bool F2] 32)
  have C1 := Lw.blk_alloc ((hb1.block (w.heap.size + 1) hWs1).trans B1.out) (.cells #[.int .i64 X2, .int .i64 Y2, .bool F2] 32)
  have C3 := Lw.blk_new w1 #[.int .i64 X2, .int .i64 Y2, .bool F2] 32
  have l0 := Lw.blk_cell C0 0; have l1 := Lw.blk_cell C0 1; have l2 := Lw.blk_cell C0 2
  have k0 := Lw.blk_cell C1 0; have k1 := Lw.blk_cell C1 1; have k2 := Lw.blk_cell C1 2
  simp at l0 l1 l2 k0 k1 k2
  have HCC := Lib.hid (And.intro C0 (And.intro C1 (And.intro C3 (Lw.balloc (Lw.bt hBW hb1) (.cells #[.int .i64 X2, .int .i64 Y2, .bool F2] 32)))))
  clear B0 B1 HW hBW hb1 C0 C1 C3
  go_wp2_with fail
  refine (S1.out _).mono ?_
  rintro e V ⟨rfl, hb2⟩
  obtain ⟨C0, C1, C3, hB1⟩ := HCC.out
  have D0 := (hb2.block _ (Lw.blk_lt C0)).trans C0
  have D1 := (hb2.block _ (Lw.blk_lt C1)).trans C1
  have D3 := (hb2.block _ (Lw.blk_lt C3)).trans C3
  have hVs0 := Lw.blk_lt D0
  have hVs1 := Lw.blk_lt D1
  have hVs := Lw.blk_lt D3
  have hBV := Lw.bt hB1 hb2
  clear l0 l1 l2 k0 k1 k2
  have l0 := Lw.blk_cell D0 0; have l1 := Lw.blk_cell D0 1; have l2 := Lw.blk_cell D0 2
  have k0 := Lw.blk_cell D1 0; have k1 := Lw.blk_cell D1 1; have k2 := Lw.blk_cell D1 2
  have n0 := Lw.blk_cell D3 0; have n1 := Lw.blk_cell D3 1; have n2 := Lw.blk_cell D3 2
  simp at l0 l1 l2 k0 k1 k2 n0 n1 n2
  clear C0 C1 C3 D0 D1 D3 HCC hB1 hb2
  go_wp2_with fail

  go_ret
  exact ⟨by simp [HF.out], hBV⟩
set_option maxHeartbeats 2000000 in
theorem CurveTimes_range (P A B k X Y : Int) (F : Bool) (w : World) (hc : Lw.crvE P A B = 0) (h : Lw.spotB P A B X Y F = true) (hk : k < 0 ∨ (0 ≤ k ∧ 2147483648 < k)) :
    Calls Try.prog 4 #[.agg #[.int .i64 P, .int .i64 A, .int .i64 B], .int .i64 k, .agg #[.int .i64 X, .int .i64 Y, .bool F]] w fun e w' => e = .returned (.bool true) ∧ Below w.heap.size w w' := by
  have N : ∃ X2 Y2 : Int, ∃ F2 : Bool, X2 = 0 ∧ Y2 = 0 ∧ F2 = false ∧ ∀ w : World, Calls Try.prog 8 #[.agg #[.int .i64 P, .int .i64 A, .int .i64 B], .int .i64 k, .agg #[.int .i64 X, .int .i64 Y, .bool F]] w fun e w' => e = .returned (.tuple #[.agg #[.int .i64 X2, .int .i64 Y2, .bool F2], .int .i64 2]) ∧ Below w.heap.size w w' := ⟨0, 0, false, rfl, rfl, rfl, fun w => curve_Times_range P A B X Y k F w hc h hk⟩
  have S1 := fun w => law_spot P A B X Y F w
  rw [Lw.one_ok (s := ⟨X, Y, F⟩) hc h] at S1
  clear hc h
  obtain ⟨X2, Y2, F2, hX2, hY2, hF2, N⟩ := N
  replace N := Lib.hid N
  replace S1 := Lib.hid S1
  have t1 : (X2 == 0) = true := by simpa using hX2
  have t2 : (Y2 == 0) = true := by simpa using hY2
  have t3 : (F2 == false) = true := by simpa using hF2
  have HF := Lib.hid hF2
  clear hX2 hY2 hF2
  rcases hk with hk | ⟨hk0, hk⟩
  · skip
    obtain ⟨W, hW⟩ : ∃ W, (w.alloc (.cells #[.int .i64 P, .int .i64 A, .int .i64 B] 30)).alloc (.cells #[.int .i64 X, .int .i64 Y, .bool F] 32) = W := ⟨_, rfl⟩
    have B0 := Lib.hid (show W.heap[w.heap.size]? = some (.cells #[.int .i64 P, .int .i64 A, .int .i64 B] 30 (0, 0)) from hW ▸ Lw.blk_alloc (Lw.blk_new _ _ _) _)
    have B1 := Lib.hid (show W.heap[w.heap.size + 1]? = some (.cells #[.int .i64 X, .int .i64 Y, .bool F] 32 (0, 0)) from hW ▸ Lw.blk_new' (by simp) _ _)
    have hBW : Below w.heap.size w W := by rw [← hW]; exact Lw.balloc (Lw.balloc (Below.refl _ _) _) _
    have hWs1 : w.heap.size + 1 < W.heap.size := by rw [← hW]; simp
    have hWs : w.heap.size < W.heap.size := by omega
    have HW := Lib.hid hW
    clear hW
    go_enter Try.func4, Try.ntmps4
    go_wp2_with fail
    rw [HW.out]
    refine (N.out _).mono ?_
    rintro e w1 ⟨rfl, hb1⟩
    have hz1 := hb1.size
    have C0 := Lw.blk_alloc ((hb1.block w.heap.size hWs).trans B0.out) (.cells #[.int .i64 X2, .int .i64 Y2, .bool F2] 32)
    have C1 := Lw.blk_alloc ((hb1.block (w.heap.size + 1) hWs1).trans B1.out) (.cells #[.int .i64 X2, .int .i64 Y2, .bool F2] 32)
    have C3 := Lw.blk_new w1 #[.int .i64 X2, .int .i64 Y2, .bool F2] 32
    have l0 := Lw.blk_cell C0 0; have l1 := Lw.blk_cell C0 1; have l2 := Lw.blk_cell C0 2
    have k0 := Lw.blk_cell C1 0; have k1 := Lw.blk_cell C1 1; have k2 := Lw.blk_cell C1 2
    simp at l0 l1 l2 k0 k1 k2
    have HCC := Lib.hid (And.intro C0 (And.intro C1 (And.intro C3 (Lw.balloc (Lw.bt hBW hb1) (.cells #[.int .i64 X2, .int .i64 Y2, .bool F2] 32)))))
    clear B0 B1 HW hBW hb1 C0 C1 C3
    go_wp2_with fail
    refine (S1.out _).mono ?_
    rintro e V ⟨rfl, hb2⟩
    obtain ⟨C0, C1, C3, hB1⟩ := HCC.out
    have D0 := (hb2.block _ (Lw.blk_lt C0)).trans C0
    have D1 := (hb2.block _ (Lw.blk_lt C1)).trans C1
    have D3 := (hb2.block _ (Lw.blk_lt C3)).trans C3
    have hVs0 := Lw.blk_lt D0
    have hVs1 := Lw.blk_lt D1
    have hVs := Lw.blk_lt D3
    have hBV := Lw.bt hB1 hb2
    clear l0 l1 l2 k0 k1 k2
    have l0 := Lw.blk_cell D0 0; have l1 := Lw.blk_cell D0 1; have l2 := Lw.blk_cell D0 2
    have k0 := Lw.blk_cell D1 0; have k1 := Lw.blk_cell D1 1; have k2 := Lw.blk_cell D1 2
    have n0 := Lw.blk_cell D3 0; have n1 := Lw.blk_cell D3 1; have n2 := Lw.blk_cell D3 2
    simp at l0 l1 l2 k0 k1 k2 n0 n1 n2
    clear C0 C1 C3 D0 D1 D3 HCC hB1 hb2
    go_wp2_with fail

    go_ret
    exact ⟨by simp [HF.out], hBV⟩
  · skip
    obtain ⟨W, hW⟩ : ∃ W, (w.alloc (.cells #[.int .i64 P, .int .i64 A, .int .i64 B] 30)).alloc (.cells #[.int .i64 X, .int .i64 Y, .bool F] 32) = W := ⟨_, rfl⟩
    have B0 := Lib.hid (show W.heap[w.heap.size]? = some (.cells #[.int .i64 P, .int .i64 A, .int .i64 B] 30 (0, 0)) from hW ▸ Lw.blk_alloc (Lw.blk_new _ _ _) _)
    have B1 := Lib.hid (show W.heap[w.heap.size + 1]? = some (.cells #[.int .i64 X, .int .i64 Y, .bool F] 32 (0, 0)) from hW ▸ Lw.blk_new' (by simp) _ _)
    have hBW : Below w.heap.size w W := by rw [← hW]; exact Lw.balloc (Lw.balloc (Below.refl _ _) _) _
    have hWs1 : w.heap.size + 1 < W.heap.size := by rw [← hW]; simp
    have hWs : w.heap.size < W.heap.size := by omega
    have HW := Lib.hid hW
    clear hW
    go_enter Try.func4, Try.ntmps4
    go_wp2_with fail
    rw [HW.out]
    refine (N.out _).mono ?_
    rintro e w1 ⟨rfl, hb1⟩
    have hz1 := hb1.size
    have C0 := Lw.blk_alloc ((hb1.block w.heap.size hWs).trans B0.out) (.cells #[.int .i64 X2, .int .i64 Y2, .bool F2] 32)
    have C1 := Lw.blk_alloc ((hb1.block (w.heap.size + 1) hWs1).trans B1.out) (.cells #[.int .i64 X2, .int .i64 Y2, .bool F2] 32)
    have C3 := Lw.blk_new w1 #[.int .i64 X2, .int .i64 Y2, .bool F2] 32
    have l0 := Lw.blk_cell C0 0; have l1 := Lw.blk_cell C0 1; have l2 := Lw.blk_cell C0 2
    have k0 := Lw.blk_cell C1 0; have k1 := Lw.blk_cell C1 1; have k2 := Lw.blk_cell C1 2
    simp at l0 l1 l2 k0 k1 k2
    have HCC := Lib.hid (And.intro C0 (And.intro C1 (And.intro C3 (Lw.balloc (Lw.bt hBW hb1) (.cells #[.int .i64 X2, .int .i64 Y2, .bool F2] 32)))))
    clear B0 B1 HW hBW hb1 C0 C1 C3
    go_wp2_with fail
    refine (S1.out _).mono ?_
    rintro e V ⟨rfl, hb2⟩
    obtain ⟨C0, C1, C3, hB1⟩ := HCC.out
    have D0 := (hb2.block _ (Lw.blk_lt C0)).trans C0
    have D1 := (hb2.block _ (Lw.blk_lt C1)).trans C1
    have D3 := (hb2.block _ (Lw.blk_lt C3)).trans C3
    have hVs0 := Lw.blk_lt D0
    have hVs1 := Lw.blk_lt D1
    have hVs := Lw.blk_lt D3
    have hBV := Lw.bt hB1 hb2
    clear l0 l1 l2 k0 k1 k2
    have l0 := Lw.blk_cell D0 0; have l1 := Lw.blk_cell D0 1; have l2 := Lw.blk_cell D0 2
    have k0 := Lw.blk_cell D1 0; have k1 := Lw.blk_cell D1 1; have k2 := Lw.blk_cell D1 2
    have n0 := Lw.blk_cell D3 0; have n1 := Lw.blk_cell D3 1; have n2 := Lw.blk_cell D3 2
    simp at l0 l1 l2 k0 k1 k2 n0 n1 n2
    clear C0 C1 C3 D0 D1 D3 HCC hB1 hb2
    go_wp2_with fail

    go_ret
    exact ⟨by simp [HF.out], hBV⟩
set_option maxHeartbeats 4000000 in
theorem CurveTimes_ok (P A B X Y : Int) (K : Nat) (F : Bool) (w : World) (hc : Lw.crvE P A B = 0) (h : Lw.spotB P A B X Y F = true) (hK : K ≤ 2147483648) :
    Calls Try.prog 4 #[.agg #[.int .i64 P, .int .i64 A, .int .i64 B], .int .i64 (K : Int), .agg #[.int .i64 X, .int .i64 Y, .bool F]] w fun e w' => e = .returned (.bool true) ∧ Below w.heap.size w w' := by
  have N := fun w => curve_Times_ok P A B X Y K F w hc h hK
  have RA := fun w => ref_SpotTimes P A B X Y F hc h K K w (Nat.le_refl _) hK
  have S1 := fun w => law_spot P A B X Y F w
  rw [Lw.one_ok (s := ⟨X, Y, F⟩) hc h] at S1
  rcases hm : Lw.mulT P A K ⟨X, Y, F⟩ with ⟨X2, Y2, F2⟩
  rw [hm] at N RA
  simp only [Lw.SpotT.v] at N RA
  replace N := Lib.hid N
  replace RA := Lib.hid RA
  replace S1 := Lib.hid S1
  clear hm h hc
  obtain ⟨W, hW⟩ : ∃ W, (w.alloc (.cells #[.int .i64 P, .int .i64 A, .int .i64 B] 30)).alloc (.cells #[.int .i64 X, .int .i64 Y, .bool F] 32) = W := ⟨_, rfl⟩
  have B0 := Lib.hid (show W.heap[w.heap.size]? = some (.cells #[.int .i64 P, .int .i64 A, .int .i64 B] 30 (0, 0)) from hW ▸ Lw.blk_alloc (Lw.blk_new _ _ _) _)
  have B1 := Lib.hid (show W.heap[w.heap.size + 1]? = some (.cells #[.int .i64 X, .int .i64 Y, .bool F] 32 (0, 0)) from hW ▸ Lw.blk_new' (by simp) _ _)
  have hBW : Below w.heap.size w W := by rw [← hW]; exact Lw.balloc (Lw.balloc (Below.refl _ _) _) _
  have hWs1 : w.heap.size + 1 < W.heap.size := by rw [← hW]; simp
  have hWs : w.heap.size < W.heap.size := by omega
  have HW := Lib.hid hW
  clear hW
  go_enter Try.func4, Try.ntmps4
  go_wp2_with fail
  rw [HW.out]
  refine (N.out _).mono ?_
  rintro e w1 ⟨rfl, hb1⟩
  have hz1 := hb1.size
  have C0 := Lw.blk_alloc ((hb1.block w.heap.size hWs).trans B0.out) (.cells #[.int .i64 X2, .int .i64 Y2, .bool F2] 32)
  have C1 := Lw.blk_alloc ((hb1.block (w.heap.size + 1) hWs1).trans B1.out) (.cells #[.int .i64 X2, .int .i64 Y2, .bool F2] 32)
  have C3 := Lw.blk_new w1 #[.int .i64 X2, .int .i64 Y2, .bool F2] 32
  have l0 := Lw.blk_cell C0 0; have l1 := Lw.blk_cell C0 1; have l2 := Lw.blk_cell C0 2
  have k0 := Lw.blk_cell C1 0; have k1 := Lw.blk_cell C1 1; have k2 := Lw.blk_cell C1 2
  simp at l0 l1 l2 k0 k1 k2
  have HCC := Lib.hid (And.intro C0 (And.intro C1 (And.intro C3 (Lw.balloc (Lw.bt hBW hb1) (.cells #[.int .i64 X2, .int .i64 Y2, .bool F2] 32)))))
  clear B0 B1 HW hBW hb1 C0 C1 C3
  go_wp2_with fail
  refine (S1.out _).mono ?_
  rintro e V ⟨rfl, hb2⟩
  obtain ⟨C0, C1, C3, hB1⟩ := HCC.out
  have D0 := (hb2.block _ (Lw.blk_lt C0)).trans C0
  have D1 := (hb2.block _ (Lw.blk_lt C1)).trans C1
  have D3 := (hb2.block _ (Lw.blk_lt C3)).trans C3
  have hVs0 := Lw.blk_lt D0
  have hVs1 := Lw.blk_lt D1
  have hVs := Lw.blk_lt D3
  have hBV := Lw.bt hB1 hb2
  clear l0 l1 l2 k0 k1 k2
  have l0 := Lw.blk_cell D0 0; have l1 := Lw.blk_cell D0 1; have l2 := Lw.blk_cell D0 2
  have k0 := Lw.blk_cell D1 0; have k1 := Lw.blk_cell D1 1; have k2 := Lw.blk_cell D1 2
  have n0 := Lw.blk_cell D3 0; have n1 := Lw.blk_cell D3 1; have n2 := Lw.blk_cell D3 2
  simp at l0 l1 l2 k0 k1 k2 n0 n1 n2
  clear C0 C1 C3 D0 D1 D3 HCC hB1 hb2
  go_wp2_with fail

  refine wp_region_held_drew (S := Lw.Sm V) (by kernel_rfl) (Lw.sm_drew V) (fun hHeld => ?_)
  (refine Lw.take1 (i := 0) (v := ?_) rfl (by kernel_rfl) (by kernel_rfl) (by kernel_rfl) (fun _ _ _ h => h) (Or.inl ⟨by rfl, ?_⟩) (by assumption) ?_; rotate_left 1; (focus (intro wS hSw; obtain ⟨hS1, hS2, hS3, hS4⟩ := hSw; go_simp <;> with_reducible rfl)); (try simp only [Act.put, List.setIfInBounds_toArray, List.set_cons_zero, List.set_cons_succ]))
  (refine Lw.take1 (i := 1) (v := ?_) rfl (by kernel_rfl) (by kernel_rfl) (by kernel_rfl) (fun _ _ _ h => h) (Or.inl ⟨by rfl, ?_⟩) (by assumption) ?_; rotate_left 1; (focus (intro wS hSw; obtain ⟨hS1, hS2, hS3, hS4⟩ := hSw; go_simp <;> with_reducible rfl)); (try simp only [Act.put, List.setIfInBounds_toArray, List.set_cons_zero, List.set_cons_succ]))
  (refine Lw.take1 (i := 2) (v := ?_) rfl (by kernel_rfl) (by kernel_rfl) (by kernel_rfl) (fun _ _ _ h => h) (Or.inl ⟨by rfl, ?_⟩) (by assumption) ?_; rotate_left 1; (focus (intro wS hSw; obtain ⟨hS1, hS2, hS3, hS4⟩ := hSw; go_simp <;> with_reducible rfl)); (try simp only [Act.put, List.setIfInBounds_toArray, List.set_cons_zero, List.set_cons_succ]))
  (refine Lw.take1 (i := 3) (v := ?_) rfl (by kernel_rfl) (by kernel_rfl) (by kernel_rfl) (fun _ _ _ h => h) (Or.inl ⟨by rfl, ?_⟩) (by assumption) ?_; rotate_left 1; (focus (intro wS hSw; obtain ⟨hS1, hS2, hS3, hS4⟩ := hSw; go_simp <;> with_reducible rfl)); (try simp only [Act.put, List.setIfInBounds_toArray, List.set_cons_zero, List.set_cons_succ]))
  (refine Lw.take1 (i := 4) (v := ?_) rfl (by kernel_rfl) (by kernel_rfl) (by kernel_rfl) (fun _ _ _ h => h) (Or.inl ⟨by rfl, ?_⟩) (by assumption) ?_; rotate_left 1; (focus (intro wS hSw; obtain ⟨hS1, hS2, hS3, hS4⟩ := hSw; go_simp <;> with_reducible rfl)); (try simp only [Act.put, List.setIfInBounds_toArray, List.set_cons_zero, List.set_cons_succ]))
  (refine Lw.take1 (i := 5) (v := ?_) rfl (by kernel_rfl) (by kernel_rfl) (by kernel_rfl) (fun _ _ _ h => h) (Or.inl ⟨by rfl, ?_⟩) (by assumption) ?_; rotate_left 1; (focus (intro wS hSw; obtain ⟨hS1, hS2, hS3, hS4⟩ := hSw; go_simp <;> with_reducible rfl)); (try simp only [Act.put, List.setIfInBounds_toArray, List.set_cons_zero, List.set_cons_succ]))
  (refine Lw.take1 (i := 6) (v := ?_) rfl (by kernel_rfl) (by kernel_rfl) (by kernel_rfl) (fun _ _ _ h => h) (Or.inl ⟨by rfl, ?_⟩) (by assumption) ?_; rotate_left 1; (focus (intro wS hSw; obtain ⟨hS1, hS2, hS3, hS4⟩ := hSw; go_simp <;> with_reducible rfl)); (try simp only [Act.put, List.setIfInBounds_toArray, List.set_cons_zero, List.set_cons_succ]))
  (refine wpAnyH_ready (rs := [7]) (by kernel_rfl) (by simp) ?_; refine Lw.cons1 (i := 7) rfl (fun K hK => ?_) AllReadyH.nil; go_simp; go_at_call 10; (with_reducible refine (RA.out _).mono ?_); rintro e wu ⟨rfl, hbu⟩; refine hK.out _ _ ?_ (fun hHeld => ?_); (focus exact Lw.sm_keep (Lw.sm_drew V) hbu); clear hK K; (try simp only [Act.put, List.setIfInBounds_toArray, List.set_cons_zero, List.set_cons_succ]))
  (refine Lw.take1 (i := 8) (v := ?_) rfl (by kernel_rfl) (by kernel_rfl) (by kernel_rfl) (fun _ _ _ h => h) (Or.inl ⟨by rfl, ?_⟩) (by assumption) ?_; rotate_left 1; (focus (intro wS hSw; obtain ⟨hS1, hS2, hS3, hS4⟩ := hSw; go_simp <;> with_reducible rfl)); (try simp only [Act.put, List.setIfInBounds_toArray, List.set_cons_zero, List.set_cons_succ]))
  (refine Lw.take1 (i := 9) (v := ?_) rfl (by kernel_rfl) (by kernel_rfl) (by kernel_rfl) (fun _ _ _ h => h) (Or.inl ⟨by rfl, ?_⟩) (by assumption) ?_; rotate_left 1; (focus (intro wS hSw; obtain ⟨hS1, hS2, hS3, hS4⟩ := hSw; go_simp <;> with_reducible rfl)); (try simp only [Act.put, List.setIfInBounds_toArray, List.set_cons_zero, List.set_cons_succ]))
  (refine Lw.take1 (i := 10) (v := ?_) rfl (by kernel_rfl) (by kernel_rfl) (by kernel_rfl) (fun _ _ _ h => h) (Or.inl ⟨by rfl, ?_⟩) (by assumption) ?_; rotate_left 1; (focus (intro wS hSw; obtain ⟨hS1, hS2, hS3, hS4⟩ := hSw; go_simp <;> with_reducible rfl)); (try simp only [Act.put, List.setIfInBounds_toArray, List.set_cons_zero, List.set_cons_succ]))
  refine wpAnyH_done (by kernel_rfl) ?_ _
  have hSu := Lw.sm_keep (Lw.sm_drew V) hbu
  go_wp2
  go_ret
  exact ⟨by simp, Lw.bt hBV hSu.2.2.2⟩
theorem CurveTimes (P A B k X Y : Int) (F : Bool) (w : World) (wP : (Lit.int .i64 P).wf = true) (wA : (Lit.int .i64 A).wf = true) (wB : (Lit.int .i64 B).wf = true) (wk : (Lit.int .i64 k).wf = true) (wX : (Lit.int .i64 X).wf = true) (wY : (Lit.int .i64 Y).wf = true) :
    Calls Try.prog 4 #[.agg #[.int .i64 P, .int .i64 A, .int .i64 B], .int .i64 k, .agg #[.int .i64 X, .int .i64 Y, .bool F]] w fun e w' => e = .returned (.bool true) ∧ Below w.heap.size w w' := by
  by_cases h : Lw.oneE P A B ⟨X, Y, F⟩ = 0
  · obtain ⟨hc, hs, -⟩ := Lw.two_ok (t := ⟨X, Y, F⟩) (show Lw.sptE P A B [⟨X, Y, F⟩, ⟨X, Y, F⟩] = 0 by rw [Lw.two_first, if_pos h]; exact h)
    by_cases hk : k < 0 ∨ (0 ≤ k ∧ 2147483648 < k)
    · exact CurveTimes_range P A B k X Y F w hc hs hk
    · obtain ⟨K, rfl⟩ := Int.eq_ofNat_of_zero_le (show 0 ≤ k by omega)
      exact CurveTimes_ok P A B X Y K F w hc hs (by omega)
  · exact CurveTimes_bad P A B k X Y F w h
end Go.Proofs.Ytafefengppiobaa.LW
