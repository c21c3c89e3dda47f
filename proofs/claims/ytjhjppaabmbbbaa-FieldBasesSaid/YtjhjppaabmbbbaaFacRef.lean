/- Contract of the reference's Factor: the list of the prime factors. -/
import Derived.Test.YtjhjppaabmbbbaaSl
import Derived.Test.YtjhjppaabmbbbaaNum
import Derived.Test.YtjhjppaabmbbbaaFac
namespace Lw
def facP (n : Nat) : List (Int × Int) := (fac n).map fun x => ((x.1 : Int), (x.2 : Int))
theorem fac_length_le : ∀ n : Nat, (fac n).length ≤ n := by
  intro n
  induction n using Nat.strongRecOn with
  | ind n ih =>
    by_cases h : 2 ≤ n
    · rw [fac_cons h]
      obtain ⟨h1, h2, _⟩ := minFac_spec h
      have hlt := strip_lt h1 (by omega) (Nat.mod_eq_zero_of_dvd h2)
      have := ih _ hlt
      simp only [List.length_cons]; omega
    · rw [fac_small (by omega)]; simp
/-- what has been gathered so far: pre, with q left -/
def FacSt (m q p : Nat) (pre : List (Nat × Nat)) : Prop := fac m = pre ++ fac q ∧ NoBelow p q
def preP (pre : List (Nat × Nat)) : List (Int × Int) := pre.map fun x => ((x.1 : Int), (x.2 : Int))
theorem FacSt.start (m : Nat) : FacSt m m 2 [] := ⟨rfl, NoBelow.two _⟩
theorem FacSt.skip {m q p : Nat} {pre : List (Nat × Nat)} (h : FacSt m q p pre) (hn : ¬ q % p = 0) : FacSt m q (p + 1) pre := ⟨h.1, h.2.next hn⟩
theorem FacSt.len {m q p : Nat} {pre : List (Nat × Nat)} (h : FacSt m q p pre) : pre.length ≤ m := by
  have := fac_length_le m; rw [h.1] at this; simp at this; omega
theorem FacSt.take {m q p : Nat} {pre : List (Nat × Nat)} (h : FacSt m q p pre) (hp : 2 ≤ p) (hq : 0 < q) (hd : q % p = 0) : FacSt m (strip p q) (p + 1) (pre ++ [(p, vp p q)]) := by
  have h2 : 2 ≤ q := by
    have := Nat.le_of_dvd hq (Nat.dvd_of_mod_eq_zero hd); omega
  refine ⟨?_, h.2.strip hp hq⟩
  rw [h.1, fac_step h2 hp hd h.2]; simp
theorem FacSt.done {m q p : Nat} {pre : List (Nat × Nat)} (h : FacSt m q p pre) (hq : q < p) : pre = fac m := by
  have : q ≤ 1 := by
    by_cases h2 : 2 ≤ q
    · have := h.2 q h2 (Nat.dvd_refl _); omega
    · omega
  rw [h.1, fac_small this]; simp
theorem preP_snoc (pre : List (Nat × Nat)) (x : Nat × Nat) : pairsV .i64 .i64 (preP (pre ++ [x])) = pairsV .i64 .i64 (preP pre) ++ [.int .i64 (x.1 : Int), .int .i64 (x.2 : Int)] := by simp [preP, pairsV]
end Lw
set_option linter.unusedVariables false
set_option linter.unusedSimpArgs false
namespace Go.Proofs.Ytjhjppaabmbbbaa
open Go.RowKit
theorem infoPower : (Try.prog.info? 139).map (fun i => (i.zero, i.size, i.bytes)) = some (some (.agg #[.int .i64 0, .int .i64 0]), 2, 16) := by kernel_rfl
end Go.Proofs.Ytjhjppaabmbbbaa
