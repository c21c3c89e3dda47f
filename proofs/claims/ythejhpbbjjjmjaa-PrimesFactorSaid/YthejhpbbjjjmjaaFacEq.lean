/- Contract of the reference's Powers: two lists that are the same. -/
import Derived.Test.YthejhpbbjjjmjaaFacRef
import Derived.Laws.StructEq
set_option linter.unusedVariables false
set_option linter.unusedSimpArgs false
namespace Go.Proofs.Ythejhpbbjjjmjaa
open Go.RowKit
set_option maxHeartbeats 1000000 in
theorem ref_Powers (n c1 c2 : Nat) (A1 A2 : Option Addr) (zs : List (Int × Int)) (w : World) (R1 : Lw.Rd w 2 A1 n (Lw.pairsV .i64 .i64 zs)) (R2 : Lw.Rd w 2 A2 n (Lw.pairsV .i64 .i64 zs)) (hn : n ≤ 1048576) :
    Calls Try.prog 19 #[.slice A1 n c1, .slice A2 n c2] w fun e w' => e = .returned (.bool true) ∧ ∃ d, w' = w.drewN d := by
  have R1 := Lib.hid R1
  have R2 := Lib.hid R2
  have hl : zs.length = n := by have := R1.out.1; rw [Lw.pairsV_length] at this; omega
  have HL := Lib.hid hl
  clear hl
  go_enter Try.func19, Try.ntmps19
  go_wp2
  go_loopw [5] (fun i wr => ∃ k d : Nat, i = .int .i64 (k : Int) ∧ k ≤ n ∧ wr = w.drewN d) (fun i _ => n - (intOf i).toNat)
  case atStart => exact ⟨0, 0, rfl, by omega, rfl⟩
  case round =>
    obtain ⟨k, d, rfl, k1, rfl⟩ := hrel
    by_cases hlt : k < n
    · have hk : k < zs.length := by have := HL.out; omega
      obtain ⟨g0, g1⟩ := Lw.pairsV_get (k := .i64) (l := .i64) (zs := zs) (i := k) hk
      obtain ⟨x, hx⟩ : ∃ x, zs[k] = x := ⟨_, rfl⟩
      rw [hx] at g0 g1
      obtain ⟨ad, rfl, had, c0, c1⟩ := R1.out.at2 hlt g0 g1
      obtain ⟨ae, rfl, hae, e0, e1⟩ := R2.out.at2 hlt g0 g1
      clear g0 g1 hx hk
      go_wp2
      go_quiet (fail)
      go_wp2
      go_roundw
      case rel => exact ⟨k + 1, _, by go_num, by omega, rfl⟩
      case measure => simp [intOf]; omega
    · go_wp2
      go_ret
      exact ⟨rfl, d, rfl⟩
end Go.Proofs.Ythejhpbbjjjmjaa
