/- The law HashFinds: where the program finds that two texts differ first is where the reference finds it. -/
import Derived.Test.YtdibbdlpnfcmiaaMix4
import Derived.Test.YtdibbdlpnfcmiaaRow
set_option linter.unusedVariables false
namespace Go.Proofs.Ytdibbdlpnfcmiaa.LW
open Go.RowKit
set_option maxHeartbeats 2000000 in
theorem HashFinds_large (A B : Option Addr) (n m c d : Nat) (w : World) (h : 4096 < n ∨ 4096 < m) :
    Calls Try.prog 8 #[.slice A n c, .slice B m d] w fun e w' => e = .returned (.bool true) ∧ Below w.heap.size w w' := by
  have X := Lib.hid (fun w => hash_Clash_large A B n m c d w h)
  have hc : (4096 : Int) < (n : Int) ∨ (¬ (4096 : Int) < (n : Int) ∧ (4096 : Int) < (m : Int)) := by omega
  clear h
  go_enter Try.func8, Try.ntmps8
  rcases hc with hl | ⟨hl1, hl⟩
  all_goals
    go_wp2_with fail
    refine (X.out _).mono ?_
    rintro e w1 ⟨rfl, hb1⟩
    have hz := hb1.size
    go_wp2
    go_ret2
    refine ⟨rfl, ?_⟩
    repeat (first | exact hb1 | refine Lw.bset ?_ (by simp; omega) _ | refine Lw.balloc ?_ _)
set_option maxHeartbeats 2000000 in
theorem HashFinds_same (A B : Option Addr) (n m c d : Nat) (xs bs : List Int) (w : World) (R1 : Lw.Rd w 1 A n (Lw.intsV .u8 xs)) (R2 : Lw.Rd w 1 B m (Lw.intsV .u8 bs)) (hy1 : Lw.Byt xs) (hy2 : Lw.Byt bs) (hn : n ≤ 4096) (hm : m ≤ 4096) (he : xs = bs) :
    Calls Try.prog 8 #[.slice A n c, .slice B m d] w fun e w' => e = .returned (.bool true) ∧ Below w.heap.size w w' := by
  have X := Lib.hid (fun w R1 R2 => hash_Clash_same A B n m c d xs bs w R1 R2 hy1 hy2 hn hm he)
  have Q := Lib.hid (fun w R1 R2 => ref_Bytes A B n m c d xs bs w R1 R2 (by omega) (by omega))
  have hq : decide (xs = bs) = true := by simpa using he
  rw [hq] at Q
  have R1 := Lib.hid R1
  have R2 := Lib.hid R2
  have hn1 : ¬ (4096 : Int) < (n : Int) := by omega
  have hm1 : ¬ (4096 : Int) < (m : Int) := by omega
  clear hq hy1 hy2 he
  go_enter Try.func8, Try.ntmps8
  go_wp2_with fail
  refine (X.out _ R1.out R2.out).mono ?_
  rintro e w1 ⟨rfl, hb1⟩
  have hz := hb1.size
  go_wp2_with fail
  trace_state
  sorry
end Go.Proofs.Ytdibbdlpnfcmiaa.LW
