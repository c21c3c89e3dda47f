/-
  Plain lemmas on the bits of natural numbers. No program is in sight.
  Taking the operations of a region by hand, with a condition on the world.
  What the walks of this seat share: imports, and words on memory.
  Contracts of the small helpers of the statements: Far, both, modulus, first.
  Contracts: remainders and powers, of the program and of the reference.
  Contracts of package euclid: step, abs, far, Gcd, Inverse; and of the reference's Gcd.
  A range over a function whose iterator keeps its state in one block of cells of its own (a captured variable that it turns): the word of its contract, and the law for the loop.
  Slices: a slice that reads as a list of cells; a slice that a call has made; the appends.
  append onto a row of the call's own, the source any slice that reads as a list (nil let in): the operation and what it leaves.
  Regions that draw, walked by hand, with calls that make memory: the condition on the world is that all blocks of a world w0 stand.
-/
import Derived.WalkKit
import Derived.Laws.BitsAllLaws
import Derived.Deep.RegionHeld3
import Derived.Test.YtafefengppiobaaChecked
import Derived.ProofKit
import Derived.OpenShut
import Derived.WalkSpells
import Derived.WalkLawsBesides
import Derived.Handy
import Derived.Below
import Derived.Lib.Hide
import Derived.Outline
import Derived.Deep.QuietTactic
import Derived.BigQuiet
import Derived.Test.YtafefengppiobaaKCurveTimes0
import Derived.RangeFuncNested
import Derived.RangeFuncBound
import Derived.RangeFuncCalls
import Derived.RangeFuncLeaves
import Derived.Shelf.Abstract
import Derived.Shelf.RegionOpen
import Derived.OwnWalkIn
import Derived.TacticsInMore
import Derived.LoopNIn
import Derived.LoopIn
import Derived.OneCell
import Derived.Laws.OwnMore
import Derived.Maps.AppendAt
import Derived.Lib.AppendZeros
import Derived.BigFrame
import Derived.Laws.MakeOwn
set_option linter.unusedVariables false
set_option linter.unusedSimpArgs false
namespace Lw

theorem add_eq_xor (a : Nat) : ∀ b : Nat, a + b = (a ^^^ b) + 2 * (a &&& b) := by
  induction a using Nat.strongRecOn with
  | ind a ih =>
    intro b
    by_cases h : a = 0
    · subst h; simp
    · have h1 := ih (a / 2) (by omega) (b / 2)
      have h2 : (a ^^^ b) / 2 = a / 2 ^^^ b / 2 := Nat.xor_div_two
      have h3 : (a &&& b) / 2 = a / 2 &&& b / 2 := Nat.and_div_two
      have h4 : (a ^^^ b) % 2 = (a + b) % 2 := by
        have : (a ^^^ b) % 2 = (a % 2 ^^^ b % 2) := by
          have := @Nat.xor_mod_two_pow a b 1
          simpa using this
        rw [this, Nat.add_mod]
        rcases Nat.mod_two_eq_zero_or_one a with e | e <;> rcases Nat.mod_two_eq_zero_or_one b with f | f <;> rw [e, f] <;> rfl
      have h5 : (a &&& b) % 2 = a % 2 * (b % 2) := by
        have : (a &&& b) % 2 = (a % 2 &&& b % 2) := by
          have := @Nat.and_mod_two_pow a b 1
          simpa using this
        rw [this]
        rcases Nat.mod_two_eq_zero_or_one a with e | e <;> rcases Nat.mod_two_eq_zero_or_one b with f | f <;> rw [e, f] <;> rfl
      rw [← h2, ← h3] at h1
      rcases Nat.mod_two_eq_zero_or_one a with e | e <;> rcases Nat.mod_two_eq_zero_or_one b with f | f <;> rw [e, f] at h5 <;> simp only [Nat.zero_mul, Nat.mul_zero, Nat.mul_one] at h5 <;> omega

theorem and_le_left' (a b : Nat) : (a &&& b) ≤ a := Nat.and_le_left

theorem xor_eq_sub (a b : Nat) : (a ^^^ b : Nat) = a + b - 2 * (a &&& b) := by
  have := add_eq_xor a b; omega

theorem xor_lt_of (a b n : Nat) (ha : a < 2 ^ n) (hb : b < 2 ^ n) : a ^^^ b < 2 ^ n := Nat.xor_lt_two_pow ha hb

theorem i64_and_nat (a b : Nat) (ha : a < 9223372036854775808) (hb : b < 9223372036854775808) : Go.bits .and .i64 (a : Int) (b : Int) = ((a &&& b : Nat) : Int) := by
  have e : a &&& b ≤ a := Nat.and_le_left
  show Go.IntKind.i64.wrap ((BitVec.ofInt 64 (a : Int) &&& BitVec.ofInt 64 (b : Int)).toNat : Int) = _
  rw [BitVec.toNat_and, Go.ofInt_u64 a (by omega), Go.ofInt_u64 b (by omega), Go.IntKind.wrap_i64]
  omega
theorem i64_or_nat (a b : Nat) (ha : a < 9223372036854775808) (hb : b < 9223372036854775808) : Go.bits .or .i64 (a : Int) (b : Int) = ((a ||| b : Nat) : Int) := by
  have e : a ||| b < 2 ^ 63 := Nat.or_lt_two_pow (by omega) (by omega)
  show Go.IntKind.i64.wrap ((BitVec.ofInt 64 (a : Int) ||| BitVec.ofInt 64 (b : Int)).toNat : Int) = _
  rw [BitVec.toNat_or, Go.ofInt_u64 a (by omega), Go.ofInt_u64 b (by omega), Go.IntKind.wrap_i64]
  omega
theorem i64_xor_nat (a b : Nat) (ha : a < 9223372036854775808) (hb : b < 9223372036854775808) : Go.bits .xor .i64 (a : Int) (b : Int) = ((a ^^^ b : Nat) : Int) := by
  have e : a ^^^ b < 2 ^ 63 := Nat.xor_lt_two_pow (by omega) (by omega)
  show Go.IntKind.i64.wrap ((BitVec.ofInt 64 (a : Int) ^^^ BitVec.ofInt 64 (b : Int)).toNat : Int) = _
  rw [BitVec.toNat_xor, Go.ofInt_u64 a (by omega), Go.ofInt_u64 b (by omega), Go.IntKind.wrap_i64]
  omega
theorem and_one (k : Int) (h : 0 ≤ k) (h2 : k < 9223372036854775808) : Go.bits .and .i64 k 1 = k % 2 := by
  obtain ⟨n, rfl⟩ := Int.eq_ofNat_of_zero_le h
  have := i64_and_nat n 1 (by omega) (by omega)
  rw [Go.nat_mask1] at this
  simpa using this
end Lw
namespace Lw
open Go
section
variable {P : Program} {ops : Array Oper} {Q : Exit → Act → World → Prop} {md : Region.Mode} {S : World → Prop}
theorem at_drop {i : Nat} {oi : Oper} {tl : List Oper} (hd : ops.toList.drop i = oi :: tl) : ops[i]? = some oi := by
  rw [← Array.getElem?_toList]
  have := List.getElem?_drop (xs := ops.toList) (i := i) (j := 0)
  rw [hd] at this
  simpa using this.symm
theorem take1 {i : Nat} {oi : Oper} {tl : List Oper} {v : Value} {fuel : Nat} {listed : Array Bool} {a : Act} {w : World} (hd : ops.toList.drop i = oi :: tl)
    (hs : Region.noSelect ops = true) (hf : Region.free md ops listed i = true) (hr : (Region.ready md ops listed).contains i = true)
    (hQ : ∀ c a w, Q (.panic c) (a.put oi.dst v) w → Q (.panic c) a w) (hy : YieldsIf P ops S oi v a) (hS : S w)
    (h : wpAnyH P md ops Q S fuel (listed.setIfInBounds i true) (a.put oi.dst v) w) : wpAnyH P md ops Q S (fuel + 1) listed a w :=
  wpAnyH_take (at_drop hd) hs hf hr hQ hy hS h
theorem cons1 {fuel : Nat} {listed : Array Bool} {a : Act} {w : World} {i : Nat} {o : Oper} {tl : List Oper} {rs : List Nat} (hd : ops.toList.drop i = o :: tl)
    (h : ∀ K' : Act → World → Prop, Shut (∀ a w, S w → (S w → wpAnyH P md ops Q S fuel (listed.setIfInBounds i true) a w) → K' a w) → if Region.wanted o (yielded ops a.tmps) = true then Oper.wp P o a w K' Q else K' (a.put o.dst undef) w)
    (hs : AllReadyH P md ops Q S fuel listed a w rs) : AllReadyH P md ops Q S fuel listed a w (i :: rs) := AllReadyH.cons (at_drop hd) h hs
end
end Lw
namespace Lw
open Go Go.RowKit

/-- A slice of integers that came in: nil, or a row of 'cap' cells, the numbers 'zs', of which the first 'len' are its elements. -/
def IsRow (k : IntKind) (w : World) (a : Option Addr) (len cap : Nat) (zs : List Int) : Prop :=
  (a = none ∧ len = 0 ∧ cap = 0 ∧ zs = []) ∨
  ∃ x, a = some x ∧ len ≤ cap ∧ cap ≤ maxLen ∧ zs.length = cap ∧ (∀ i, i < zs.length → w.cell? (x.add i) = some (.int k (zs.getD i 0))) ∧ ∀ n ∈ zs, (Lit.int k n).wf = true

/-- Behind a call that leaves the old blocks alone every old cell and every old mark reads as before. -/
theorem bcell {W w1 : World} (hb : Below W.heap.size W w1) : (∀ b o, b < W.heap.size → w1.cell? ⟨b, o, none⟩ = W.cell? ⟨b, o, none⟩) ∧ (∀ b o, b < W.heap.size → w1.frozen? ⟨b, o, none⟩ = W.frozen? ⟨b, o, none⟩) :=
  ⟨fun b o h => hb.cell (p := ⟨b, o, none⟩) h, fun b o h => hb.frozen (p := ⟨b, o, none⟩) h⟩
theorem bt {w W1 w1 : World} (h : Below w.heap.size w W1) (hb : Below W1.heap.size W1 w1) : Below w.heap.size w w1 := h.trans (hb.mono h.size)
theorem quiet {P : Program} {f : FuncId} {args : Array Value} {w : World} {n : Nat} {v : Value} (h : Calls P f args (w.drewN n) fun e w' => e = .returned v ∧ w.drewN n = w') : Calls P f args (w.drewN n) fun e w'' => e = .returned v ∧ ∃ m, w'' = w.drewN m :=
  h.mono fun _ _ ⟨he, hm⟩ => ⟨he, n, hm.symm⟩
theorem ret_int {k : IntKind} {a b : Int} (h : a = b) : Ending.returned (.int k a) = .returned (.int k b) := by rw [h]
theorem ret_bool {a b : Bool} (h : a = b) : Ending.returned (.bool a) = .returned (.bool b) := by rw [h]
theorem ret_ii {k l : IntKind} {a b c d : Int} (h : a = b) (g : c = d) : Ending.returned (.tuple #[.int k a, .int l c]) = .returned (.tuple #[.int k b, .int l d]) := by rw [h, g]
theorem ret_bi {l : IntKind} {a b : Bool} {c d : Int} (h : a = b) (g : c = d) : Ending.returned (.tuple #[.bool a, .int l c]) = .returned (.tuple #[.bool b, .int l d]) := by rw [h, g]
end Lw
set_option linter.unusedVariables false
set_option linter.unusedSimpArgs false
namespace Lw
def farB (x : Int) : Bool := decide (x < -2147483648) || decide (2147483648 < x)
theorem farB_true {x : Int} (h : x < -2147483648 ∨ 2147483648 < x) : farB x = true := by unfold farB; simp; omega
theorem farB_false {x : Int} (h : ¬ (x < -2147483648 ∨ 2147483648 < x)) : farB x = false := by unfold farB; simp; omega
theorem of_farB_false {x : Int} (h : farB x = false) : -2147483648 ≤ x ∧ x ≤ 2147483648 := by unfold farB at h; simp at h; omega
def bothI (a b : Int) : Int := if farB a || farB b then 2 else 0
def firstI (a b : Int) : Int := if a = 0 then b else a
theorem firstI_zero (b : Int) : firstI 0 b = b := by simp [firstI]
theorem firstI_ne (a b : Int) (h : ¬ a = 0) : firstI a b = a := by simp [firstI, h]
def modI (m : Int) : Int := if m < 1 ∨ 1048576 < m then 2 else 0
end Lw
namespace Go.Proofs.Ytafefengppiobaa
open Go.RowKit

end Go.Proofs.Ytafefengppiobaa
set_option linter.unusedVariables false
set_option linter.unusedSimpArgs false
namespace Go.Proofs.Ytafefengppiobaa
open Go.RowKit

theorem euclid_Mod (a m : Int) (w : World) (hm : 0 < m) (hm2 : m ≤ 4294967296) :
    Calls Try.prog 36 #[.int .i64 a, .int .i64 m] w fun e w' => e = .returned (.int .i64 (a % m)) ∧ w = w' := by
  obtain ⟨h1, h2⟩ := Lw.tmod_bd a m hm
  have h0 : ((m : Int) == 0) = false := by simp; omega
  have E := Lib.hid (Lw.mod_prog a m hm)
  go_enter Try.func36, Try.ntmps36
  go_wp2
  go_ret
  rw [E.out]
  exact ⟨rfl, rfl⟩
theorem ref_Mod (a m : Int) (w : World) (hm : 0 < m) (hm2 : m ≤ 4294967296) :
    Calls Try.prog 28 #[.int .i64 a, .int .i64 m] w fun e w' => e = .returned (.int .i64 (a % m)) ∧ w = w' := by
  obtain ⟨h1, h2⟩ := Lw.tmod_bd a m hm
  have h0 : ((m : Int) == 0) = false := by simp; omega
  by_cases h : a.tmod m < 0
  · have E := Lib.hid (Lw.mod_ref_neg a m hm h)
    go_enter Try.func28, Try.ntmps28
    go_wp2
    go_ret
    rw [E.out]
    exact ⟨rfl, rfl⟩
  · have E := Lib.hid (Lw.mod_ref_pos a m hm h)
    go_enter Try.func28, Try.ntmps28
    go_wp2
    go_ret
    rw [E.out]
    exact ⟨rfl, rfl⟩
theorem ref_Pow (n : Nat) : ∀ (a k m : Int) (w : World), k.toNat ≤ n → 0 ≤ k → k ≤ 4611686018427387904 → 0 < m → m ≤ 1048576 →
    Calls Try.prog 29 #[.int .i64 a, .int .i64 k, .int .i64 m] w fun e w' => e = .returned (.int .i64 (Lw.pw a k m)) ∧ w = w' := by
  induction n with
  | zero =>
    intro a k m w h1 h2 h2' h3 h4
    obtain rfl : k = 0 := by omega
    have E := Lib.hid (Lw.pw_zero a m)
    have h0 : ((m : Int) == 0) = false := by simp; omega
    clear h1 h2 h2'
    go_enter Try.func29, Try.ntmps29
    go_wp2_with fail
    go_ret
    rw [E.out]
    exact ⟨rfl, rfl⟩
  | succ n ih =>
    intro a k m w h1 h2 h2' h3 h4
    have h0 : ((m : Int) == 0) = false := by simp; omega
    by_cases hk : k = 0
    · subst hk
      have E := Lib.hid (Lw.pw_zero a m)
      clear h1 h2 h2'
      go_enter Try.func29, Try.ntmps29
      go_wp2_with fail
      go_ret
      rw [E.out]
      exact ⟨rfl, rfl⟩
    · have hk0 : ((k : Int) == 0) = false := by simpa using hk
      have IH := Lib.hid ih
      have hk1 : 1 ≤ k := by omega
      clear ih hk
      obtain ⟨p1, p2⟩ := Lw.pw_bd a (k / 2) m h3
      obtain ⟨q1, q2⟩ := Lw.mul_bd' (Lw.pw a (k / 2) m) (Lw.pw a (k / 2) m) 1048576 p1 (by omega) p1 (by omega)
      obtain ⟨r1, r2⟩ := Lw.emod_bd (Lw.pw a (k / 2) m * Lw.pw a (k / 2) m) m h3
      obtain ⟨s1, s2⟩ := Lw.emod_bd a m h3
      obtain ⟨t1, t2⟩ := Lw.mul_bd' (Lw.pw a (k / 2) m * Lw.pw a (k / 2) m % m) (a % m) 1048576 r1 (by omega) s1 (by omega)
      by_cases ho : k % 2 = 1
      · have E := Lib.hid (Lw.pw_odd a k m h2 ho)
        have hb : (k % 2 == 1) = true := by simpa using ho
        clear ho
        go_enter Try.func29, Try.ntmps29
        go_wp2_with fail
        refine (IH.out a (k / 2) m _ (by omega) (by omega) (by omega) (by omega) (by omega)).mono ?_
        rintro e w' ⟨rfl, rfl⟩
        go_wp2_with fail
        refine (ref_Mod _ _ _ h3 (by omega)).mono ?_
        rintro e w' ⟨rfl, rfl⟩
        go_wp2_with fail
        go_ret
        rw [E.out]
        exact ⟨rfl, rfl⟩
      · have E := Lib.hid (Lw.pw_even a k m h2 ho)
        have hb : (k % 2 == 1) = false := by simpa using ho
        clear ho
        go_enter Try.func29, Try.ntmps29
        go_wp2_with fail
        refine (IH.out a (k / 2) m _ (by omega) (by omega) (by omega) (by omega) (by omega)).mono ?_
        rintro e w' ⟨rfl, rfl⟩
        go_wp2_with fail
        go_ret
        rw [E.out]
        exact ⟨rfl, rfl⟩
end Go.Proofs.Ytafefengppiobaa
set_option linter.unusedVariables false
set_option linter.unusedSimpArgs false
namespace Go.Proofs.Ytafefengppiobaa
open Go.RowKit
def StepEnd (a b : Int) (w : World) (e : Ending) (w' : World) : Prop := ∃ g x, Lw.StepPost a b g x ∧ e = .returned (.tuple #[.int .i64 g, .int .i64 x]) ∧ w = w'

theorem euclid_step (a b : Int) (w : World) (a1 : Lw.absI a ≤ 4294967296) (b1 : Lw.absI b ≤ 4294967296) :
    Calls Try.prog 40 #[.int .i64 a, .int .i64 b] w (StepEnd a b w) := by
  have hs := Lib.hid (Lw.Euc.start a b)
  obtain ⟨a2, a3⟩ := Lw.absI_le a1
  obtain ⟨b2, b3⟩ := Lw.absI_le b1
  have A1 := Lib.hid a1
  have B1 := Lib.hid b1
  clear a1 b1
  go_enter Try.func40, Try.ntmps40
  go_wp2
  go_loop [0, 1, 6, 7] (fun v0 v1 v6 v7 => ∃ c d x n : Int, v0 = .int .i64 c ∧ v1 = .int .i64 d ∧ v6 = .int .i64 x ∧ v7 = .int .i64 n ∧ Hid (Lw.Euc a b c d x n)) (fun _ v1 _ _ => (intOf v1).natAbs)
  case atStart => exact ⟨a, b, 1, 0, rfl, rfl, rfl, rfl, hs⟩
  case round =>
    obtain ⟨c, d, x, n, rfl, rfl, rfl, rfl, H⟩ := hrel
    obtain ⟨⟨c1, c2⟩, ⟨d1, d2⟩, ⟨x1, x2⟩, n1, n2⟩ := H.out.facts0 A1.out B1.out
    by_cases hd : d = 0
    · subst hd
      go_wp2
      go_ret2
      exact ⟨c, x, H.out.done, rfl, rfl⟩
    · have hd0 : (d == 0) = false := by simpa using hd
      have hd1 : (d != 0) = true := by simpa using hd
      obtain ⟨⟨e1, e2⟩, ⟨f1, f2⟩, g1, g2⟩ := H.out.facts hd A1.out B1.out
      have N := Lib.hid (H.out.step hd)
      have M := Lib.hid (Lw.tdiv_rest_lt c d hd)
      clear H
      go_wp2
      go_round
      case rel => exact ⟨_, _, _, _, rfl, rfl, rfl, rfl, N⟩
      case measure =>
        have := M.out
        unfold Lw.absI at this
        simp only [intOf]
        omega
set_option maxHeartbeats 1000000 in
theorem euclid_Inverse (a m : Int) (w : World) :
    Calls Try.prog 35 #[.int .i64 a, .int .i64 m] w fun e w' => e = .returned (.tuple #[.int .i64 (Lw.invR a m), .int .i64 (Lw.invE a m)]) ∧ Below w.heap.size w w' := by
  by_cases hbad : a < -2147483648 ∨ 2147483648 < a ∨ m < 1 ∨ 1048576 < m
  · have E := Lib.hid (Lw.invE_two hbad)
    have hc : a < -2147483648 ∨ (-2147483648 ≤ a ∧ 2147483648 < a) ∨ ((-2147483648 ≤ a ∧ a ≤ 2147483648) ∧ (m < 1 ∨ (1 ≤ m ∧ 1048576 < m))) := by omega
    clear hbad
    rcases hc with h | ⟨h, h'⟩ | ⟨⟨h1, h2⟩, h | ⟨h, h'⟩⟩
    all_goals
      go_enter Try.func35, Try.ntmps35
      go_wp2_with fail
      go_in
      go_wp2_with fail
      (refine wp_loop_rounds 3 ?_; repeat any_goals (rw [rounds_succ]; go_wp2_with fail))
      go_ret2
      rw [E.out.1, E.out.2]
      exact ⟨rfl, by go_grown⟩
  · have hok : (-2147483648 ≤ a ∧ a ≤ 2147483648) ∧ 1 ≤ m ∧ m ≤ 1048576 := by omega
    obtain ⟨⟨h1, h2⟩, h3, h4⟩ := hok
    have E5 := Lib.hid (Lw.invE_five hbad)
    have E0 := Lib.hid (Lw.invE_zero hbad)
    obtain ⟨s1, s2⟩ := Lw.emod_bd a m (by omega)
    have A := Lib.hid (show Lw.absI (a % m) ≤ 4294967296 by unfold Lw.absI; omega)
    have B := Lib.hid (show Lw.absI m ≤ 4294967296 by unfold Lw.absI; omega)
    have M := Lib.hid (show Lw.absI m = m from Lw.absI_pos (by omega))
    clear hbad
    go_enter Try.func35, Try.ntmps35
    go_wp2_with fail
    go_in
    go_wp2_with fail
    (refine wp_loop_rounds 3 ?_; repeat any_goals (rw [rounds_succ]; go_wp2_with fail))
    refine (euclid_Mod _ _ _ (by omega) (by omega)).mono ?_
    rintro e w' ⟨rfl, rfl⟩
    go_wp2_with fail
    refine (euclid_step _ _ _ A.out B.out).mono ?_
    rintro e w' ⟨g, x, hP, rfl, rfl⟩
    have hg0 : 0 ≤ g := hP.2.2.2 s1 (by omega)
    have hgg : g = Lw.gcdI a m := by rw [← Lw.gcdI_emod, ← hP.1, Lw.absI_pos hg0]
    obtain ⟨x1, x2⟩ := Lw.absI_le (a := x) (b := 4294967296) (by have := hP.2.2.1; rw [M.out] at this; omega)
    by_cases hg : g = 1
    · subst hg
      have F := Lib.hid (E0.out hgg.symm)
      have G := Lib.hid (Lw.invI_of_dvd (by omega) hP.2.1)
      clear hgg hP
      go_wp2_with fail
      refine (euclid_Mod _ _ _ (by omega) (by omega)).mono ?_
      rintro e w' ⟨rfl, rfl⟩
      go_wp2_with fail
      go_ret2
      rw [F.out.1, F.out.2, G.out]
      exact ⟨rfl, by go_grown⟩
    · have F := Lib.hid (E5.out (by rw [← hgg]; exact hg))
      have hb : (g != 1) = true := by simpa using hg
      clear hgg hP hg
      go_wp2_with fail
      go_ret2
      rw [F.out.1, F.out.2]
      exact ⟨rfl, by go_grown⟩
end Go.Proofs.Ytafefengppiobaa
set_option linter.unusedVariables false
set_option linter.unusedSimpArgs false
namespace Lw
open Go Go.RowKit
/-- J abides new blocks, and whatever is written into block c. -/
def AbC {β : Type} (c : Nat) (J : β → World → Prop) : Prop :=
  ∀ s W W' row, J s W → W.grownBy W' row → (∀ r, row = some r → r = c) → J s W'

/-- An iterator over the list xs whose own state is block c: for every loop body that leaves block c alone. -/
def CellSeq {α : Type} (F : Fence) (n : Nat) (P : Program) (g : Nat) (lb : Array Value) (encs : α → Array Value) (c : Nat) (xs : List α) (w : World) : Prop :=
  ∀ (l : Nat) (J Jx : List α → World → Prop) (W : World), W.heap[c]? = w.heap[c]? → AbC c J → AbC c Jx →
    (∀ pre x W1, J pre W1 → pre ++ [x] <+: xs → YieldAt F (n - 1) P l (encs x) W1 fun e W' =>
      (e = .returned (.bool true) ∧ J (pre ++ [x]) W' ∧ W'.heap[c]? = W1.heap[c]?) ∨ (e = .returned (.bool false) ∧ Jx (pre ++ [x]) W')) →
    J [] W →
    CallsIn F n P g (#[.func (.yield l) #[] #[]] ++ lb) W fun e W' => (∃ v, e = .returned v) ∧ (J xs W' ∨ ∃ pre, pre <+: xs ∧ Jx pre W')

variable {F : Fence} {n : Nat} {P : Program}

theorem wpIn_rangeC {α : Type} {g : Operand} {ps : Array Tmp} {assign body : Code} {Q : Exit → Act → World → Prop} {a : Act} {w : World}
    (hro : F.round = none) (h1 : 1 ≤ n) {gf : Nat} {lb : Array Value} (hg : a.eval g = .func (.func gf) #[] lb) (hFg : F.fn gf) (eg : ∀ args w, (callFunc gf args).run P w = .ok (.enter gf args) w)
    {encs : α → Array Value} {c : Nat} {xs : List α} (hseq : CellSeq F (n - 1) P gf lb encs c xs w) (hc : c < w.heap.size) (hps : ∀ x, (encs x).size = ps.size)
    (I : List α → World → Prop) (Ix : Code → List α → World → Prop) (hI : OwnFrom w.heap.size I) (hIc : AbC c I) (hIx : ∀ k, OwnFrom w.heap.size (Ix k)) (hIxc : ∀ k, AbC c (Ix k)) (h0 : I [] w)
    (Ax : α → Act → World → Prop) (hAx : ∀ x a', OwnFrom w.heap.size (fun (_ : Unit) W => Ax x a' W))
    (hassign : ∀ (l : Nat) (pre : List α) (x : α) (W : World) (K : Act → World → Prop), I pre W → (∀ a' W', KeepsFrom w.heap.size W W' → W'.heap[c]? = W.heap[c]? → I pre W' → Ax x a' W' → K a' W') →
      assign.wpIn (F.inRound l) (n - 1 - 1) P (Exit.then K (fun _ _ _ => False)) { tmps := (ps.zip (encs x)).foldl (fun t (p, v) => t.setIfInBounds p v) a.tmps, defers := [] } W)
    (hbody : ∀ (l : Nat) (pre : List α) (x : α) (a' : Act) (W : World), w.heap.size ≤ l → (∃ r, W.heap[l]? = some (.loop r)) → I pre W → Ax x a' W → pre ++ [x] <+: xs → body.wpIn (F.inRound l) (n - 1 - 1) P (ownPostG w.heap.size (fun A B => B.heap[c]? = A.heap[c]?) I Ix (pre ++ [x]) W) a' W)
    (hdone : ∀ (D : Nat) (W : World), w.heap.size ≤ D → I xs W → W.heap[D]? = some (.deferred (some [])) → Q .normal { a with defers := { target := .collected D, args := #[] } :: a.defers } W)
    (hstop : ∀ (D : Nat) (k : Code) (pre : List α) (W : World), w.heap.size ≤ D → pre <+: xs → Ix k pre W → W.heap[D]? = some (.deferred (some [])) → k.wpIn F n P Q { a with defers := { target := .collected D, args := #[] } :: a.defers } W) :
    (Code.rangeFunc g ps assign body).wpIn F n P Q a w := by
  refine wpIn_rangeFunc fun fn hfn => ?_
  rw [hro]
  obtain ⟨rec, hrec⟩ : ∃ rec : LoopState → Option Code → Loop, rec = fun st pe => { state := st, pending := pe, fn, tmps := a.tmps, params := ps, assign, body, defers := w.heap.size } := ⟨_, rfl⟩
  obtain ⟨W1, hW1⟩ : ∃ W1, (w.alloc (.deferred (some []))).alloc (.loop (rec .ready none)) = W1 := ⟨_, rfl⟩
  have hL1 : W1.heap[w.heap.size + 1]? = some (.loop (rec .ready none)) := by
    rw [← hW1]; have := World.alloc_heap_new (w.alloc (.deferred (some []))) (.loop (rec .ready none)); rwa [World.size_alloc] at this
  have hK1 : W1.heap[w.heap.size]? = some (.deferred (some [])) := by
    rw [← hW1]; exact (Below.heap_alloc _ _ _ (by simp)).trans (World.alloc_heap_new w _)
  have hc1 : W1.heap[c]? = w.heap[c]? := by
    rw [← hW1]; exact (Below.heap_alloc _ _ _ (by simp; omega)).trans (Below.heap_alloc _ _ _ hc)
  have hI1 : I [] W1 := by rw [← hW1]; exact hI.alloc _ (hI.alloc _ h0)
  refine ⟨w.heap.size + 1, [{ target := .collected w.heap.size, args := #[] }], W1, { target := .fn (.func gf) lb, args := #[.func (.yield (w.heap.size + 1)) #[] #[]] }, W1, gf,
    #[.func (.yield (w.heap.size + 1)) #[] #[]] ++ lb, W1, ?_, ?_, ?_, ?_, fun _ => h1, ?_⟩
  · rw [← hW1, hrec]; exact run_enterLoop_outer _ _ _ _ _
  · simp only [resolve, hg]
    simp [go_sem]
  · intro f' hf'; simp [Target.leads] at hf'; subst hf'; exact hFg
  · simp [invoke, go_sem, eg]
  · have keep : ∀ {A B : World} {row : Option Nat} {k : Nat}, A.grownBy B row → (∀ r, row = some r → r = c) → w.heap.size ≤ k → ∀ {o : Obj}, A.heap[k]? = some o → B.heap[k]? = some o := by
      intro A B row k hg' hr hk o ho
      have hk2 : k < A.heap.size := (Array.getElem?_eq_some_iff.1 ho).1
      rw [hg'.block k hk2 (fun e => by have := hr k e.symm; omega)]; exact ho
    refine (hseq (w.heap.size + 1)
      (fun pre W => I pre W ∧ W.heap[w.heap.size + 1]? = some (.loop (rec .ready none)) ∧ W.heap[w.heap.size]? = some (.deferred (some [])))
      (fun pre W => ∃ k, Ix k pre W ∧ W.heap[w.heap.size + 1]? = some (.loop (rec .done (some k))) ∧ W.heap[w.heap.size]? = some (.deferred (some [])))
      W1 hc1
      (fun s A B row hs hg' hr => ⟨hIc s A B row hs.1 hg' hr, keep hg' hr (by omega) hs.2.1, keep hg' hr (Nat.le_refl _) hs.2.2⟩)
      (fun s A B row hs hg' hr => by
        obtain ⟨k, hk, hl, hd⟩ := hs
        exact ⟨k, hIxc k s A B row hk hg' hr, keep hg' hr (by omega) hl, keep hg' hr (Nat.le_refl _) hd⟩)
      ?_ ⟨hI1, hL1, hK1⟩).mono ?_
    · rintro pre x W ⟨hi, hl, hk⟩ hx
      have hy := run_yield (P := P) (args := encs x) hl (by rw [hrec]; exact hps x)
      rw [hrec] at hy
      refine ⟨fn, _, assign, body, hy, roundIn_of_wpIn hfn (hassign _ pre x W _ hi ?_)⟩
      clear hy
      intro a' Wa hkfa hca hia hax
      have hla := hkfa.same _ _ (by omega) hl rfl
      have hka := hkfa.same _ _ (Nat.le_refl _) hk rfl
      have hlt : w.heap.size + 1 < Wa.heap.size := (Array.getElem?_eq_some_iff.1 hla).1
      refine ⟨_, run_beginRound hla (by rw [hrec]), ?_⟩
      obtain ⟨Wb, hWb⟩ : ∃ Wb, Wa.putObj (w.heap.size + 1) (.loop { rec .ready none with state := .busy }) = Wb := ⟨_, rfl⟩
      have hl2 : Wb.heap[w.heap.size + 1]? = some (.loop { rec .ready none with state := .busy }) := by rw [← hWb]; exact World.putObj_heap_same hlt
      have hk2 : Wb.heap[w.heap.size]? = some (.deferred (some [])) := by rw [← hWb]; exact (World.putObj_heap_other (by omega)).trans hka
      have hc2 : Wb.heap[c]? = Wa.heap[c]? := by rw [← hWb]; exact World.putObj_heap_other (by omega)
      have hi2 : I pre Wb := by rw [← hWb]; exact hI.putObj _ hia (by omega) hla rfl
      have hx2 : Ax x a' Wb := by rw [← hWb]; exact (hAx x a').putObj (s := ()) _ hax (by omega) hla rfl
      rw [hWb]
      refine wpIn_mono (hbody _ pre x a' _ (by omega) ⟨_, hl2⟩ hi2 hx2 hx) ?_
      have fin : ∀ (jump : Option Code) (W3 : World), KeepsFrom w.heap.size Wb W3 →
          (Instr.endRound (w.heap.size + 1) jump).run P W3 = .ok (.bool jump.isNone) (W3.putObj (w.heap.size + 1) (.loop (rec (if jump.isNone then .ready else .done) jump))) ∧
          W3.heap[w.heap.size + 1]? = some (.loop { rec .ready none with state := .busy }) ∧
          (W3.putObj (w.heap.size + 1) (.loop (rec (if jump.isNone then .ready else .done) jump))).heap[w.heap.size + 1]? = some (.loop (rec (if jump.isNone then .ready else .done) jump)) ∧
          (W3.putObj (w.heap.size + 1) (.loop (rec (if jump.isNone then .ready else .done) jump))).heap[w.heap.size]? = some (.deferred (some [])) := fun jump W3 hk3 => by
        have hl3 := hk3.same _ _ (by omega) hl2 rfl
        have := run_endRound (P := P) jump hl3
        rw [hrec] at this ⊢
        exact ⟨this, by rw [hrec] at hl3; exact hl3, World.putObj_heap_same (Array.getElem?_eq_some_iff.1 hl3).1, (World.putObj_heap_other (by omega)).trans (hk3.same _ _ (Nat.le_refl _) hk2 rfl)⟩
      have jumps : ∀ (k : Code) (W3 : World), KeepsFrom w.heap.size Wb W3 → Ix k (pre ++ [x]) W3 → _ := fun k W3 hk3 hi3 => (⟨fin (some k) W3 hk3, (hIx k).putObj (.loop (rec .done (some k))) hi3 (by omega) (fin (some k) W3 hk3).2.1 rfl⟩ : _ ∧ _)
      rintro e a3 W3 hp
      cases e with
      | normal =>
        obtain ⟨hk3, hkp3, hi3⟩ := hp
        obtain ⟨hr, hl3, hl4, hk4⟩ := fin none W3 hk3
        exact ⟨_, _, hr, .inl ⟨rfl, ⟨hI.putObj _ hi3 (by omega) hl3 rfl, hl4, hk4⟩, (World.putObj_heap_other (by omega)).trans (hkp3.trans (hc2.trans hca))⟩⟩
      | ret => obtain ⟨⟨hr, _, hl4, hk4⟩, hj⟩ := jumps .ret W3 hp.1 hp.2; exact ⟨_, _, hr, .inr ⟨rfl, .ret, hj, hl4, hk4⟩⟩
      | exit id => obtain ⟨⟨hr, _, hl4, hk4⟩, hj⟩ := jumps (.exit id) W3 hp.1 hp.2; exact ⟨_, _, hr, .inr ⟨rfl, .exit id, hj, hl4, hk4⟩⟩
      | goto t => obtain ⟨⟨hr, _, hl4, hk4⟩, hj⟩ := jumps (.goto t) W3 hp.1 hp.2; exact ⟨_, _, hr, .inr ⟨rfl, .goto t, hj, hl4, hk4⟩⟩
      | panic ch => exact hp.elim
      | outgrown => exact hp.elim
    · rintro e W2 ⟨⟨v, rfl⟩, (⟨hi, hl, hk⟩ | ⟨pre, hSp, k, hi, hl, hk⟩)⟩
      · exact ⟨none, _, by have := run_endLoop (P := P) hl (by rw [hrec]; simp); rw [hrec] at this; exact this, hdone _ _ (Nat.le_refl _) (hI.putObj _ hi (by omega) hl rfl) ((World.putObj_heap_other (by omega)).trans hk)⟩
      · exact ⟨some k, _, by have := run_endLoop (P := P) hl (by rw [hrec]; simp); rw [hrec] at this; exact this, hstop _ k pre _ (Nat.le_refl _) hSp ((hIx k).putObj _ hi (by omega) hl rfl) ((World.putObj_heap_other (by omega)).trans hk)⟩

/-! ### small words for the invariants -/
theorem blk_kept {W W' : World} {row : Option Nat} {b : Nat} {o : Obj} (h : W.heap[b]? = some o) (hg : W.grownBy W' row) (hr : row ≠ some b) : W'.heap[b]? = some o := by
  rw [hg.block b (Array.getElem?_eq_some_iff.1 h).1 (fun e => hr e.symm)]; exact h
theorem blk_own {β : Type} (B b : Nat) (o : β → Obj) (ho : ∀ s, (o s).isCells = true) : OwnFrom B (fun (s : β) W => W.heap[b]? = some (o s)) :=
  fun s W W' row h hg hr => blk_kept h hg (fun e => by obtain ⟨_, o', h', hn⟩ := hr b e; rw [h] at h'; cases h'; rw [ho] at hn; cases hn)
theorem blk_abc {β : Type} {c b : Nat} (h : b ≠ c) (o : β → Obj) : AbC c (fun (s : β) W => W.heap[b]? = some (o s)) :=
  fun s W W' row hs hg hr => blk_kept hs hg (fun e => h (hr b e))
theorem below_abc {β : Type} {c B : Nat} {w : World} (h : B ≤ c) (hB : B ≤ w.heap.size) : AbC c (fun (_ : β) W => Below B w W) :=
  fun s W W' row hs hg hr => hs.grown hg (by have := hs.size; omega) (fun k e => by rw [hr k e]; exact h)
theorem AbC.and {β : Type} {c : Nat} {I J : β → World → Prop} (h : AbC c I) (k : AbC c J) : AbC c (fun s W => I s W ∧ J s W) :=
  fun s W W' row hs hg hr => ⟨h s W W' row hs.1 hg hr, k s W W' row hs.2 hg hr⟩
theorem AbC.ex {β γ : Type} {c : Nat} {I : γ → β → World → Prop} (h : ∀ x, AbC c (I x)) : AbC c (fun s W => ∃ x, I x s W) :=
  fun s W W' row ⟨x, hs⟩ hg hr => ⟨x, h x s W W' row hs hg hr⟩
theorem abc_pure {β : Type} {c : Nat} (p : β → Prop) : AbC c (fun s (_ : World) => p s) := fun s W W' row hs hg hr => hs
theorem own_ex {β γ : Type} {B : Nat} {I : γ → β → World → Prop} (h : ∀ x, OwnFrom B (I x)) : OwnFrom B (fun s W => ∃ x, I x s W) :=
  fun s W W' row ⟨x, hs⟩ hg hr => ⟨x, h x s W W' row hs hg hr⟩
theorem own_pure {β : Type} {B : Nat} (p : β → Prop) : OwnFrom B (fun s (_ : World) => p s) := fun s W W' row hs hg hr => hs
theorem own_and {β : Type} {B : Nat} {I J : β → World → Prop} (h : OwnFrom B I) (k : OwnFrom B J) : OwnFrom B (fun s W => I s W ∧ J s W) :=
  fun s W W' row hs hg hr => ⟨h s W W' row hs.1 hg hr, k s W W' row hs.2 hg hr⟩
theorem own_below {β : Type} {B B' : Nat} {w : World} (h : B' ≤ B) (hB : B' ≤ w.heap.size) : OwnFrom B (fun (_ : β) W => Below B' w W) :=
  fun s W W' row hs hg hr => hs.grown hg (by have := hs.size; omega) (fun k e => by have := (hr k e).1; omega)
theorem own_size {β : Type} {B : Nat} (k : Nat) : OwnFrom B (fun (_ : β) W => k < W.heap.size) := fun s W W' row hs hg hr => Nat.lt_of_lt_of_le hs hg.size
theorem abc_size {β : Type} {c : Nat} (k : Nat) : AbC c (fun (_ : β) W => k < W.heap.size) := fun s W W' row hs hg hr => Nat.lt_of_lt_of_le hs hg.size
theorem blk_new (W : World) (cs : Array Value) (t : TypeId) : (W.alloc (.cells cs t)).heap[W.heap.size]? = some (.cells cs t) := World.alloc_heap_new W _
theorem blk_new' {W : World} {b : Nat} (hb : W.heap.size = b) (cs : Array Value) (t : TypeId) : (W.alloc (.cells cs t)).heap[b]? = some (.cells cs t) := by rw [← hb]; exact blk_new W cs t
theorem blk_alloc {W : World} {b : Nat} {o : Obj} (h : W.heap[b]? = some o) (o' : Obj) : (W.alloc o').heap[b]? = some o :=
  (Below.heap_alloc W o' b (Array.getElem?_eq_some_iff.1 h).1).trans h
theorem blk_lt {W : World} {b : Nat} {o : Obj} (h : W.heap[b]? = some o) : b < W.heap.size := (Array.getElem?_eq_some_iff.1 h).1
theorem blk_cell {W : World} {b : Nat} {cs : Array Value} {t : TypeId} (h : W.heap[b]? = some (.cells cs t (0, 0))) (i : Nat) : W.cell? ⟨b, i, none⟩ = cs[i]? := by simp [World.cell?, h]
theorem blk_free {W : World} {b : Nat} {cs : Array Value} {t : TypeId} (h : W.heap[b]? = some (.cells cs t (0, 0))) (i : Nat) : W.frozen? ⟨b, i, none⟩ = false := by simp [World.frozen?, h]
theorem blk_set_other {W : World} {b b' : Nat} {o : Obj} (h : W.heap[b]? = some o) (hne : b ≠ b') (i : Nat) (v : Value) : (W.setCell ⟨b', i, none⟩ v).heap[b]? = some o :=
  (Below.heap_setCell W ⟨b', i, none⟩ v b hne).trans h
theorem blk_set_same {W : World} {b : Nat} {cs : Array Value} {t : TypeId} (h : W.heap[b]? = some (.cells cs t (0, 0))) (i : Nat) (v : Value) : (W.setCell ⟨b, i, none⟩ v).heap[b]? = some (.cells (cs.setIfInBounds i v) t (0, 0)) := by
  simp [World.setCell, Array.getElem?_modify, h]
end Lw
set_option linter.unusedVariables false
set_option linter.unusedSimpArgs false
namespace Lw
open Go Go.RowKit
/-- the n elements of a slice, of sz cells each, are the cells xs -/
def Rd (w : World) (sz : Nat) (A : Option Addr) (n : Nat) (xs : List Value) : Prop :=
  xs.length = n * sz ∧ (0 < n → ∃ ad, A = some ad ∧ ad.block < w.heap.size ∧ ∀ j u, xs[j]? = some u → w.cell? (ad.add j) = some u)
theorem belowDrewN {B : Nat} {a w : World} (h : Below B a w) (n : Nat) : Below B a (w.drewN n) := ⟨h.os, h.tape, h.output, h.size, h.block⟩
theorem balloc {w W : World} (h : Below w.heap.size w W) (o : Obj) : Below w.heap.size w (W.alloc o) := h.alloc h.size o
theorem bset {w W : World} {p : Addr} (h : Below w.heap.size w W) (hp : w.heap.size ≤ p.block) (v : Value) : Below w.heap.size w (W.setCell p v) := h.setCell hp v
theorem bdrewN {w W : World} (h : Below w.heap.size w W) (n : Nat) : Below w.heap.size w (W.drewN n) := belowDrewN h n
theorem add_block (a : Addr) (n : Nat) : (a.add n).block = a.block := by unfold Addr.add; split <;> rfl
theorem add_add (a : Addr) (i j : Nat) : (a.add i).add j = a.add (i + j) := by
  unfold Addr.add
  by_cases hi : i = 0 <;> by_cases hj : j = 0 <;> simp [hi, hj, Nat.add_assoc]
theorem Rd.nil (w : World) (sz : Nat) (A : Option Addr) : Rd w sz A 0 [] := ⟨by simp, fun h => absurd h (by omega)⟩
theorem Rd.below {w w' : World} {sz n : Nat} {A : Option Addr} {xs : List Value} (h : Rd w sz A n xs) {B : Nat} (hB : w.heap.size ≤ B) (hb : Below B w w') : Rd w' sz A n xs :=
  ⟨h.1, fun hn => by
    obtain ⟨ad, e, hlt, hc⟩ := h.2 hn
    exact ⟨ad, e, by have := hb.size; omega, fun j u hu => (hb.cell (p := ad.add j) (by rw [add_block]; omega)).trans (hc j u hu)⟩⟩
theorem Rd.alloc {w : World} {sz n : Nat} {A : Option Addr} {xs : List Value} (h : Rd w sz A n xs) (o : Obj) : Rd (w.alloc o) sz A n xs :=
  h.below (Nat.le_refl _) ((Below.refl _ _).alloc (Nat.le_refl _) o)
theorem Rd.drewN {w : World} {sz n : Nat} {A : Option Addr} {xs : List Value} (h : Rd w sz A n xs) (k : Nat) : Rd (w.drewN k) sz A n xs := h
/-- the slice value, its cells, in the walk's words -/
theorem Rd.at_ {w : World} {sz n k : Nat} {A : Option Addr} {xs : List Value} (h : Rd w sz A n xs) (hk : k < n) :
    ∃ ad, A = some ad ∧ ad.block < w.heap.size ∧ ∀ j u, xs[k * sz + j]? = some u → w.cell? ((ad.add (k * sz)).add j) = some u := by
  obtain ⟨ad, e, hlt, hc⟩ := h.2 (by omega)
  exact ⟨ad, e, hlt, fun j u hu => by rw [add_add]; exact hc _ _ hu⟩
theorem add_zero' (a : Addr) : a.add 0 = a := rfl
theorem add_succ' (a : Addr) (j : Nat) : a.add (j + 1) = ⟨a.block, a.off + (j + 1), none⟩ := by unfold Addr.add; simp
/-- elements of one cell -/
theorem Rd.at1 {w : World} {n k : Nat} {A : Option Addr} {xs : List Value} {x : Value} (h : Rd w 1 A n xs) (hk : k < n) (h0 : xs[k]? = some x) :
    ∃ ad, A = some ad ∧ ad.block < w.heap.size ∧ w.cell? (ad.add k) = some x := by
  obtain ⟨ad, e, hb, hc⟩ := h.2 (by omega)
  exact ⟨ad, e, hb, hc _ _ h0⟩
/-- elements of two cells, as the walk spells their addresses -/
theorem Rd.at2 {w : World} {n k : Nat} {A : Option Addr} {xs : List Value} {x y : Value} (h : Rd w 2 A n xs) (hk : k < n) (h0 : xs[k * 2 + 0]? = some x) (h1 : xs[k * 2 + 1]? = some y) :
    ∃ ad, A = some ad ∧ ad.block < w.heap.size ∧ w.cell? (ad.add (k * 2)) = some x ∧ w.cell? ⟨(ad.add (k * 2)).block, (ad.add (k * 2)).off + 1, none⟩ = some y := by
  obtain ⟨ad, e, hb, hc⟩ := h.at_ hk
  refine ⟨ad, e, hb, ?_, ?_⟩
  · have := hc 0 _ h0; rwa [add_zero'] at this
  · have := hc 1 _ h1; rwa [add_succ'] at this
theorem Rd.of_own {w : World} {base sz n c : Nat} {A : Option Addr} {e : TypeId} {xs : List Value} (h : w.ownsRow base e sz (.slice A n c) n xs) : Rd w sz A n xs := by
  refine ⟨h.1, fun hn => ?_⟩
  rcases h.2 with ⟨_, h0⟩ | ⟨g, cap, cur, hv, hb, hh, _⟩
  · omega
  · have hA : A = some ⟨g, 0, none⟩ := by injection hv
    subst hA
    exact ⟨_, rfl, (Array.getElem?_eq_some_iff.1 hh).1, h.cells (g := g) rfl⟩
/-- four cells of a block of the call's own are kept over a call that makes memory -/
theorem gs_keep {w w1 w2 : World} {b : Nat} {x0 x1 x2 x3 : Value} (h0 : w1.cell? ⟨b, 0, none⟩ = some x0) (h1 : w1.cell? ⟨b, 1, none⟩ = some x1) (h2 : w1.cell? ⟨b, 2, none⟩ = some x2) (h3 : w1.cell? ⟨b, 3, none⟩ = some x3) (hl : b < w1.heap.size) (hB : Below w.heap.size w w1) (hb : Below w1.heap.size w1 w2) :
    w2.cell? ⟨b, 0, none⟩ = some x0 ∧ w2.cell? ⟨b, 1, none⟩ = some x1 ∧ w2.cell? ⟨b, 2, none⟩ = some x2 ∧ w2.cell? ⟨b, 3, none⟩ = some x3 ∧ b < w2.heap.size ∧ Below w.heap.size w w2 :=
  ⟨(hb.cell (p := ⟨b, 0, none⟩) hl).trans h0, (hb.cell (p := ⟨b, 1, none⟩) hl).trans h1, (hb.cell (p := ⟨b, 2, none⟩) hl).trans h2, (hb.cell (p := ⟨b, 3, none⟩) hl).trans h3, by have := hb.size; omega, bt hB hb⟩
/-- a slice of a block that is known whole -/
theorem Rd.lit {w : World} {b n sz : Nat} {cs : Array Value} {t : TypeId} {xs : List Value} (h : w.heap[b]? = some (.cells cs t (0, 0))) (hx : cs.toList = xs) (hl : xs.length = n * sz) : Rd w sz (some ⟨b, 0, none⟩) n xs :=
  ⟨hl, fun _ => ⟨_, rfl, (Array.getElem?_eq_some_iff.1 h).1, fun j u hu => by
    have e : (⟨b, 0, none⟩ : Addr).add j = ⟨b, j, none⟩ := by unfold Addr.add; split <;> simp_all
    rw [e, cell_of_row _ _ _ cs t (0, 0) h, ← Array.getElem?_toList, hx]; exact hu⟩⟩
theorem ownsForm {w : World} {base sz n : Nat} {v : Value} {e : TypeId} {xs : List Value} (h : w.ownsRow base e sz v n xs) : ∃ A c, v = .slice A n c ∧ n ≤ c ∧ c ≤ maxLen ∧ (A = none ∨ ∃ g, A = some ⟨g, 0, none⟩ ∧ base ≤ g ∧ g < w.heap.size) := by
  rcases h.2 with ⟨rfl, rfl⟩ | ⟨g, cap, cur, rfl, hb, hh, hc, hm, _⟩
  · exact ⟨none, 0, rfl, Nat.le_refl _, by unfold maxLen; omega, .inl rfl⟩
  · exact ⟨_, cap, rfl, hc, hm, .inr ⟨g, rfl, hb, (Array.getElem?_eq_some_iff.1 hh).1⟩⟩
theorem ownsBelow {w w' : World} {base B sz n : Nat} {v : Value} {e : TypeId} {xs : List Value} (h : w.ownsRow base e sz v n xs) (hB : w.heap.size ≤ B) (hb : Below B w w') : w'.ownsRow base e sz v n xs := by
  refine ⟨h.1, ?_⟩
  rcases h.2 with hn | ⟨g, cap, cur, rfl, hg, hh, rest⟩
  · exact .inl hn
  · have hlt := (Array.getElem?_eq_some_iff.1 hh).1
    exact .inr ⟨g, cap, cur, rfl, hg, (hb.block g (by omega)).trans hh, rest⟩
theorem ownsBase {w : World} {base base' sz n : Nat} {v : Value} {e : TypeId} {xs : List Value} (h : w.ownsRow base e sz v n xs) (hb : base' ≤ base) : w.ownsRow base' e sz v n xs := by
  refine ⟨h.1, ?_⟩
  rcases h.2 with hn | ⟨g, cap, cur, rfl, hg, rest⟩
  · exact .inl hn
  · exact .inr ⟨g, cap, cur, rfl, by omega, rest⟩
/-- what a call hands back that has made a slice -/
def OwnRes (T sz : Nat) (xs : List Value) (n : Nat) (w : World) (e : Ending) (w' : World) : Prop :=
  ∃ A c, e = .returned (.slice A n c) ∧ w'.ownsRow w.heap.size T sz (.slice A n c) n xs ∧ Below w.heap.size w w'
/-- behind an append onto a row of the call's own -/
theorem grown_own {w0 w w' : World} {base sz n : Nat} {v : Value} {e : TypeId} {xs : List Value} (hB : Below w0.heap.size w0 w) (h : w.ownsRow base e sz v n xs) (hb : w0.heap.size ≤ base) (hg : w.grownBy w' v.ownBlock) : Below w0.heap.size w0 w' :=
  hB.grown hg hB.size (fun k hk => by have := (h.lt k hk).1; omega)
theorem cells_new (w : World) (cs : Array Value) (t : TypeId) : ∀ j u, cs.toList[j]? = some u → (w.alloc (.cells cs t)).cell? ((⟨w.heap.size, 0, none⟩ : Addr).add j) = some u := by
  intro j u hu
  have e : (⟨w.heap.size, 0, none⟩ : Addr).add j = ⟨w.heap.size, j, none⟩ := by unfold Addr.add; split <;> simp_all
  rw [e, cell_of_row _ _ _ cs t (0, 0) (heap_alloc_new w _)]
  simpa using hu
/-- integers as cells -/
def intsV (k : IntKind) (zs : List Int) : List Value := zs.map (.int k)
theorem intsV_length (k : IntKind) (zs : List Int) : (intsV k zs).length = zs.length := by simp [intsV]
theorem intsV_get {k : IntKind} {zs : List Int} {i : Nat} (h : i < zs.length) : (intsV k zs)[i]? = some (.int k zs[i]) := by simp [intsV, h]
theorem intsV_one (k : IntKind) (zs : List Int) : ∀ u ∈ intsV k zs, u.oneCell' = true := by
  intro u hu; obtain ⟨x, _, rfl⟩ := List.mem_map.1 hu; rfl
theorem one1 (k : IntKind) (a : Int) : ∀ u ∈ [Value.int k a], u.oneCell' = true := by intro u hu; simp at hu; subst hu; rfl
theorem one2 (k l : IntKind) (a b : Int) : ∀ u ∈ [Value.int k a, Value.int l b], u.oneCell' = true := by intro u hu; simp at hu; rcases hu with rfl | rfl <;> rfl
theorem max_of {n : Nat} (h : n ≤ 140737488355328) : n ≤ maxLen := by unfold maxLen; omega
theorem grow_ok {w0 w : World} (hB : Below w0.heap.size w0 w) (o : Obj) : w0.heap.size ≤ (w.alloc o).heap.size := by have := hB.size; simp; omega
/-- pairs of integers as cells: structs of two integer fields -/
def pairsV (k l : IntKind) (zs : List (Int × Int)) : List Value := zs.flatMap fun x => [.int k x.1, .int l x.2]
theorem pairsV_length (k l : IntKind) (zs : List (Int × Int)) : (pairsV k l zs).length = zs.length * 2 := by
  induction zs with
  | nil => rfl
  | cons x zs ih => simp only [pairsV, List.flatMap_cons, List.length_append, List.length_cons, List.length_nil] at *; omega
theorem pairsV_append (k l : IntKind) (a b : List (Int × Int)) : pairsV k l (a ++ b) = pairsV k l a ++ pairsV k l b := by simp [pairsV]
theorem pairsV_get {k l : IntKind} : ∀ {zs : List (Int × Int)} {i : Nat} (h : i < zs.length), (pairsV k l zs)[i * 2 + 0]? = some (.int k zs[i].1) ∧ (pairsV k l zs)[i * 2 + 1]? = some (.int l zs[i].2)
  | x :: zs, 0, _ => by simp [pairsV]
  | x :: zs, i + 1, h => by
    have ih := pairsV_get (k := k) (l := l) (zs := zs) (i := i) (by simpa using h)
    have e : pairsV k l (x :: zs) = [.int k x.1, .int l x.2] ++ pairsV k l zs := by simp [pairsV]
    rw [e, List.getElem?_append_right (by simp; omega), List.getElem?_append_right (by simp; omega)]
    simp only [List.length_cons, List.length_nil, List.getElem_cons_succ]
    rw [show (i + 1) * 2 + 0 - (0 + 1 + 1) = i * 2 + 0 from by omega, show (i + 1) * 2 + 1 - (0 + 1 + 1) = i * 2 + 1 from by omega]
    exact ih
/-- elements of three cells -/
theorem Rd.at3 {w : World} {n k : Nat} {A : Option Addr} {xs : List Value} {x y z : Value} (h : Rd w 3 A n xs) (hk : k < n) (h0 : xs[k * 3 + 0]? = some x) (h1 : xs[k * 3 + 1]? = some y) (h2 : xs[k * 3 + 2]? = some z) :
    ∃ ad, A = some ad ∧ ad.block < w.heap.size ∧ w.cell? (ad.add (k * 3)) = some x ∧ w.cell? ⟨(ad.add (k * 3)).block, (ad.add (k * 3)).off + 1, none⟩ = some y ∧ w.cell? ⟨(ad.add (k * 3)).block, (ad.add (k * 3)).off + 2, none⟩ = some z := by
  obtain ⟨ad, e, hb, hc⟩ := h.at_ hk
  refine ⟨ad, e, hb, ?_, ?_, ?_⟩
  · have := hc 0 _ h0; rwa [add_zero'] at this
  · have := hc 1 _ h1; rwa [add_succ'] at this
  · have := hc 2 _ h2; rwa [add_succ'] at this
/-- structs of three integer fields -/
def tripsV (zs : List (Int × Int × Int)) : List Value := zs.flatMap fun x => [.int .i64 x.1, .int .i64 x.2.1, .int .i64 x.2.2]
theorem tripsV_length (zs : List (Int × Int × Int)) : (tripsV zs).length = zs.length * 3 := by
  induction zs with
  | nil => rfl
  | cons x zs ih => simp only [tripsV, List.flatMap_cons, List.length_append, List.length_cons, List.length_nil] at *; omega
theorem tripsV_get : ∀ {zs : List (Int × Int × Int)} {i : Nat} (h : i < zs.length), (tripsV zs)[i * 3 + 0]? = some (.int .i64 zs[i].1) ∧ (tripsV zs)[i * 3 + 1]? = some (.int .i64 zs[i].2.1) ∧ (tripsV zs)[i * 3 + 2]? = some (.int .i64 zs[i].2.2)
  | x :: zs, 0, _ => by simp [tripsV]
  | x :: zs, i + 1, h => by
    have ih := tripsV_get (zs := zs) (i := i) (by simpa using h)
    have e : tripsV (x :: zs) = [.int .i64 x.1, .int .i64 x.2.1, .int .i64 x.2.2] ++ tripsV zs := by simp [tripsV]
    rw [e, List.getElem?_append_right (by simp; omega), List.getElem?_append_right (by simp; omega), List.getElem?_append_right (by simp; omega)]
    simp only [List.length_cons, List.length_nil, List.getElem_cons_succ]
    rw [show (i + 1) * 3 + 0 - (0 + 1 + 1 + 1) = i * 3 + 0 from by omega, show (i + 1) * 3 + 1 - (0 + 1 + 1 + 1) = i * 3 + 1 from by omega, show (i + 1) * 3 + 2 - (0 + 1 + 1 + 1) = i * 3 + 2 from by omega]
    exact ih
/-- only block b, and what is new, has turned -/
theorem grown_set {a w : World} {b : Nat} {i : Nat} (h : Below a.heap.size a w) (v : Value) : a.grownBy (w.setCell ⟨b, i, none⟩ v) (some b) :=
  ⟨h.os, h.tape, h.output, by simpa [World.setCell] using h.size, fun j hj hne => (Below.heap_setCell w ⟨b, i, none⟩ v j (by rintro rfl; exact hne rfl)).trans (h.block j hj)⟩
theorem grown_below {a w : World} {b B : Nat} (h : a.grownBy w (some b)) (hB : B ≤ b) (hs : B ≤ a.heap.size) : Below B a w :=
  ⟨h.os, h.tape, h.output, h.size, fun j hj => h.block j (by omega) (by intro e; injection e; omega)⟩
end Lw
set_option linter.unusedVariables false
set_option linter.unusedSimpArgs false
namespace Lw
open Go Go.RowKit
/-- what the program says of a slice type t, its elements' type e: the element's zero value, its cells, its bytes -/
def El (P : Program) (t e : TypeId) (z : Value) (size bytes : Nat) : Prop :=
  P.underlying t = some (.slice e) ∧ z.cells.size = size ∧ 0 < size ∧ bytes ≤ 4096 ∧ ∃ i, P.info? e = some i ∧ i.zero = some z ∧ i.size = size ∧ i.bytes = bytes
theorem El.mk' {P : Program} {t e : TypeId} {z : Value} {size bytes : Nat} (h : P.underlying t = some (.slice e)) (hi : (P.info? e).map (fun i => (i.zero, i.size, i.bytes)) = some (some z, size, bytes)) (hz : z.cells.size = size) (h0 : 0 < size) (hb : bytes ≤ 4096) : El P t e z size bytes :=
  ⟨h, hz, h0, hb, info_parts hi⟩
section
variable {P : Program} {w : World}
theorem run_app {t ty e : TypeId} {z : Value} {size bytes base : Nat} (hel : El P t e z size bytes) {v : Value} {n : Nat} {xs : List Value} (hown : w.ownsRow base e size v n xs) {A : Option Addr} {m c : Nat} {news : List Value} (R : Rd w size A m news) (h1 : ∀ u ∈ news, u.oneCell' = true) (hm : n + m ≤ 16777216) (hbase : base ≤ w.heap.size) :
    ∃ v' w', (Builtin.append_ #[t, t] ty #[v, .slice A m c]).run P w = .ok v' w' ∧ w'.ownsRow base e size v' (n + m) (xs ++ news) ∧ w.grownBy w' v.ownBlock ∧ (v'.ownBlock = v.ownBlock ∨ v'.ownBlock = some w.heap.size) := by
  obtain ⟨ht, hz, h0, hb, i, hi, hiz, hsz, hby⟩ := hel
  have hbound : (n + m) * bytes ≤ 140737488355328 := by
    have := Nat.mul_le_mul hm hb; omega
  rcases A with _ | ad
  · have hm0 : m = 0 := by
      rcases Nat.eq_zero_or_pos m with h | h
      · exact h
      · obtain ⟨_, h2, _⟩ := R.2 h; cases h2
    subst hm0
    have hn : news = [] := List.eq_nil_of_length_eq_zero (by simpa using R.1)
    subst hn
    refine ⟨v, w, ?_, by simpa using hown, World.grownBy.refl w _, .inl rfl⟩
    rcases hown.2 with ⟨rfl, rfl⟩ | ⟨g, cap, cur, rfl, _, _, hnc, _⟩
    · simp [Builtin.append_, run_underlying ht, Go.sizeOf, typeInfo, hi, Builtin.lenOf, Builtin.firstCells]
    · simp [Builtin.append_, run_underlying ht, Go.sizeOf, typeInfo, hi, Builtin.lenOf, Builtin.firstCells, hnc, storeCells]
  · have hc : ∀ j u, news[j]? = some u → w.cell? (ad.add j) = some u := by
      intro j u hu
      rcases Nat.eq_zero_or_pos m with h | h
      · subst h
        have hn : news = [] := List.eq_nil_of_length_eq_zero (by simpa using R.1)
        subst hn; simp at hu
      · obtain ⟨ad', h2, _, h3⟩ := R.2 h
        injection h2 with h2; subst h2; exact h3 j u hu
    obtain ⟨v', w', a, b, c', _, d⟩ := run_append_own_at (P := P) w base t ty e i z size bytes ht hi hiz hsz hby hz h0 v n xs hown ad m c news R.1 hc h1 (max_of (by omega)) hbound hbase
    exact ⟨v', w', a, b, c', d⟩
theorem wp_app {o : Oper} {a : Act} {K : Act → World → Prop} {Q : Exit → Act → World → Prop} {t e : TypeId} {z : Value} {size bytes base : Nat} (hel : El P t e z size bytes) (s x : Operand)
    (ho : o.op = .call { callee := .builtin .append, args := #[s, x], argTypes := #[t, t] }) {v : Value} {n : Nat} {xs : List Value} (hs : a.eval s = v) (hown : w.ownsRow base e size v n xs) {A : Option Addr} {m c : Nat} {news : List Value} (hx : a.eval x = .slice A m c) (R : Rd w size A m news) (h1 : ∀ u ∈ news, u.oneCell' = true) (hm : n + m ≤ 16777216)
    {w0 : World} (hB : Below w0.heap.size w0 w) (hb0 : w0.heap.size ≤ base) (hbase : base ≤ w.heap.size)
    (h : ∀ v' w', w'.ownsRow base e size v' (n + m) (xs ++ news) → Below w0.heap.size w0 w' → w.grownBy w' v.ownBlock → (v'.ownBlock = v.ownBlock ∨ v'.ownBlock = some w.heap.size) → K (a.put o.dst v') w') : o.wp P a w K Q := by
  obtain ⟨v', w', hr, h2, h3, h4⟩ := run_app (ty := o.type) (c := c) hel hown R h1 hm hbase
  unfold Oper.wp execOp
  simp only [ho, resolve, invoke, builtin, Sem.run_bind, Sem.run_pure, Result.andThen_ok, List.map_toArray, List.map_cons, List.map_nil, hs, hx, hr]
  exact h v' w' h2 (grown_own hB hown hb0 h3) h3 h4
theorem wpList_app {ops : Array Oper} {rest : List Oper} {o : Oper} {a : Act} {Q : Exit → Act → World → Prop} {t e : TypeId} {z : Value} {size bytes base : Nat} (hel : El P t e z size bytes) (hgd : o.guard = none) (s x : Operand)
    (ho : o.op = .call { callee := .builtin .append, args := #[s, x], argTypes := #[t, t] }) {v : Value} {n : Nat} {xs : List Value} (hs : a.eval s = v) (hown : w.ownsRow base e size v n xs) {A : Option Addr} {m c : Nat} {news : List Value} (hx : a.eval x = .slice A m c) (R : Rd w size A m news) (h1 : ∀ u ∈ news, u.oneCell' = true) (hm : n + m ≤ 16777216)
    {w0 : World} (hB : Below w0.heap.size w0 w) (hb0 : w0.heap.size ≤ base) (hbase : base ≤ w.heap.size)
    (h : ∀ v' w', w'.ownsRow base e size v' (n + m) (xs ++ news) → Below w0.heap.size w0 w' → w.grownBy w' v.ownBlock → (v'.ownBlock = v.ownBlock ∨ v'.ownBlock = some w.heap.size) → wpList P ops Q rest (a.put o.dst v') w') : wpList P ops Q (o :: rest) a w :=
  wpList_plain hgd fun _ hK => wp_app hel s x ho hs hown hx R h1 hm hB hb0 hbase fun v' w' h2 h3 h4 h5 => hK _ _ (h v' w' h2 h3 h4 h5)
theorem wpList_app_g {ops : Array Oper} {rest : List Oper} {o : Oper} {a : Act} {Q : Exit → Act → World → Prop} {t e : TypeId} {z : Value} {size bytes base : Nat} (hel : El P t e z size bytes) (hw : Region.wanted o (yielded ops a.tmps) = true) (s x : Operand)
    (ho : o.op = .call { callee := .builtin .append, args := #[s, x], argTypes := #[t, t] }) {v : Value} {n : Nat} {xs : List Value} (hs : a.eval s = v) (hown : w.ownsRow base e size v n xs) {A : Option Addr} {m c : Nat} {news : List Value} (hx : a.eval x = .slice A m c) (R : Rd w size A m news) (h1 : ∀ u ∈ news, u.oneCell' = true) (hm : n + m ≤ 16777216)
    {w0 : World} (hB : Below w0.heap.size w0 w) (hb0 : w0.heap.size ≤ base) (hbase : base ≤ w.heap.size)
    (h : ∀ v' w', w'.ownsRow base e size v' (n + m) (xs ++ news) → Below w0.heap.size w0 w' → w.grownBy w' v.ownBlock → (v'.ownBlock = v.ownBlock ∨ v'.ownBlock = some w.heap.size) → wpList P ops Q rest (a.put o.dst v') w') : wpList P ops Q (o :: rest) a w :=
  BigFrame.wpList_want hw fun _ hK => wp_app hel s x ho hs hown hx R h1 hm hB hb0 hbase fun v' w' h2 h3 h4 h5 => hK _ _ (h v' w' h2 h3 h4 h5)
theorem step_app {ops : Array Oper} {o : Oper} {a : Act} {K : Act → World → Prop} {Q : Exit → Act → World → Prop} {E : Prop} {t e : TypeId} {z : Value} {size bytes base : Nat} (hel : El P t e z size bytes) (hgd : o.guard = none) (s x : Operand)
    (ho : o.op = .call { callee := .builtin .append, args := #[s, x], argTypes := #[t, t] }) {v : Value} {n : Nat} {xs : List Value} (hs : a.eval s = v) (hown : w.ownsRow base e size v n xs) {A : Option Addr} {m c : Nat} {news : List Value} (hx : a.eval x = .slice A m c) (R : Rd w size A m news) (h1 : ∀ u ∈ news, u.oneCell' = true) (hm : n + m ≤ 16777216)
    {w0 : World} (hB : Below w0.heap.size w0 w) (hb0 : w0.heap.size ≤ base) (hbase : base ≤ w.heap.size)
    (h : ∀ v' w', w'.ownsRow base e size v' (n + m) (xs ++ news) → Below w0.heap.size w0 w' → w.grownBy w' v.ownBlock → (v'.ownBlock = v.ownBlock ∨ v'.ownBlock = some w.heap.size) → K (a.put o.dst v') w') : if Region.wanted o (yielded ops a.tmps) = true then Oper.wp P o a w K Q else E := by
  have hw : Region.wanted o (yielded ops a.tmps) = true := by simp [Region.wanted, hgd]
  rw [if_pos hw]
  exact wp_app hel s x ho hs hown hx R h1 hm hB hb0 hbase h
/-- a new row of zeros: 'append(nil, make([]T, n)...)' -/
theorem made_own {t tn ty e : TypeId} {z : Value} {bytes : Nat} (hel : El P t e z 1 bytes) {kn k : IntKind} (htn : P.underlying tn = some (.int kn)) (n : Nat) (h0 : 0 < n) (hn : n ≤ 16777216) :
    ∃ c cs, (Builtin.append_ #[t, tn] ty #[.slice none 0 0, .int k n]).run P w = .ok (.slice (some ⟨w.heap.size, 0, none⟩) n c) (w.drew.alloc (.cells cs e)) ∧ n ≤ c ∧ c ≤ maxLen ∧ cs.size = c := by
  obtain ⟨ht, hz, h0', hb, i, hi, hiz, hsz, hby⟩ := hel
  have hbound : n * i.bytes ≤ 281474976710656 := by
    rw [hby]; have := Nat.mul_le_mul hn hb; omega
  refine ⟨_, _, Lib.run_append_nil_zeros w t tn ty e i z k kn ht htn hi hiz n h0 (by omega) (by omega) hbound, grownCap_ge .., grownCap_le_maxLen _ _ _ _ (max_of (by omega)), ?_⟩
  have := grownCap_ge w n 0 e
  simp only [Array.size_append, size_zeroCells, hz]
  omega
end
/-- an element of a row of the call's own is set -/
theorem own_set {w : World} {base e n c g i : Nat} {v : Value} {xs : List Value} (h : w.ownsRow base e 1 (.slice (some ⟨g, 0, none⟩) n c) n xs) (hi : i < n) : (w.setCell ⟨g, i, none⟩ v).ownsRow base e 1 (.slice (some ⟨g, 0, none⟩) n c) n (xs.set i v) := by
  obtain ⟨hl, h2⟩ := h
  refine ⟨by simpa using hl, ?_⟩
  rcases h2 with ⟨h0, _⟩ | ⟨g', cap, cur, hv, hbg, hh, hnc, hcm, hcs, htake⟩
  · cases h0
  · injection hv with e1 e2 e3
    injection e1 with e1
    injection e1 with e1
    subst e1 e3
    refine .inr ⟨g, c, cur.setIfInBounds i v, rfl, hbg, ?_, hnc, hcm, by simpa using hcs, ?_⟩
    · simp [World.setCell, Array.getElem?_modify, hh]
    · rw [← htake, Array.toList_setIfInBounds, List.take_set]
/-- its cell, and that it may be written -/
theorem own_cell {w : World} {base e n c g i : Nat} {v : Value} {xs : List Value} (h : w.ownsRow base e 1 (.slice (some ⟨g, 0, none⟩) n c) n xs) (hv : xs[i]? = some v) : w.cell? ⟨g, i, none⟩ = some v ∧ w.frozen? ⟨g, i, none⟩ = false ∧ base ≤ g ∧ g < w.heap.size := by
  have h1 := h.cells (g := g) rfl i v hv
  have e : (⟨g, 0, none⟩ : Addr).add i = ⟨g, i, none⟩ := by unfold Addr.add; split <;> simp_all
  rw [e] at h1
  refine ⟨h1, ?_⟩
  rcases h.2 with ⟨h0, _⟩ | ⟨g', cap, cur, hv, hbg, hh, _⟩
  · cases h0
  · injection hv with e1 e2 e3
    injection e1 with e1
    injection e1 with e1
    subst e1
    exact ⟨by simp [World.frozen?, hh], hbg, blk_lt hh⟩
/-- a block that is known whole is the call's own -/
theorem own_blk {w : World} {base g e size n : Nat} {cs : List Value} (h : w.heap[g]? = some (.cells cs.toArray e (0, 0))) (hn : cs.length = n * size) (hm : n ≤ 16777216) (hb : base ≤ g) : w.ownsRow base e size (.slice (some ⟨g, 0, none⟩) n n) n cs :=
  ⟨hn, .inr ⟨g, n, cs.toArray, rfl, hb, h, Nat.le_refl _, max_of (by omega), by simpa using hn, by rw [← hn]; exact List.take_length⟩⟩
/-- 'make([]T, n)' -/
theorem run_mk {P : Program} {t e : TypeId} {z : Value} {bytes : Nat} (hel : El P t e z 1 bytes) (hz : z.cells = #[z]) (kl kc : IntKind) (n : Nat) (hn : n ≤ 16777216) (w : World) :
    (Instr.makeSlice t (.int kl (n : Int)) (.int kc (n : Int))).run P w = .ok (.slice (some ⟨w.heap.size, 0, none⟩) n n) (w.alloc (.cells (List.replicate n z).toArray e)) := by
  obtain ⟨ht, _, h0, hb, i, hi, hiz, hsz, hby⟩ := hel
  have hbound : (i.bytes : Int) * (n : Int) ≤ 281474976710656 := by
    rw [hby, Int.mul_comm]
    have := Nat.mul_le_mul hn hb
    have h2 : ((n * bytes : Nat) : Int) ≤ 281474976710656 := by omega
    rwa [Int.natCast_mul] at h2
  have hr := run_make w t e i z ht hi hiz kl kc n n (by omega) (by omega) hbound (by omega)
  rw [hr]
  simp only [Int.toNat_natCast, hsz, Nat.mul_one]
  have : madeCells z.cells n = (List.replicate n z).toArray := by
    rw [hz]
    apply Array.ext
    · simp [madeCells]
    · intro j h1 h2
      simp [madeCells, Nat.mod_one]
  rw [this]
/-- an element of an array of integers -/
theorem run_index_arr {P : Program} {t e : TypeId} {n : Nat} {k kk : IntKind} {cs : Array Value} (ht : P.underlying t = some (.array n e)) (he : P.underlying e = some (.int kk)) (hs : (P.info? e).map (·.size) = some 1) (i : Nat) (hi : i < n) {v : Value} (hv : cs[i]? = some v) (w : World) :
    (Instr.index t (.agg cs) (.int k (i : Int))).run P w = .ok v w := by
  have h1 : (0 : Int) ≤ (i : Int) := by omega
  obtain ⟨j, hj, hj1⟩ : ∃ j, P.info? e = some j ∧ j.size = 1 := by
    rcases h : P.info? e with _ | j
    · rw [h] at hs; simp at hs
    · rw [h] at hs; exact ⟨j, rfl, by simpa using hs⟩
  simp [Instr.index, asIntOf, run_underlying ht, run_underlying he, Go.sizeOf, typeInfo, hj, hj1, part, isAgg, hi, hv]
/-- a literal slice is the call's own -/
theorem own_lit (w : World) {base e size n : Nat} {cs : Array Value} {xs : List Value} (hx : cs.toList = xs) (hn : xs.length = n * size) (hm : n ≤ 16777216) (hb : base ≤ w.heap.size) : (w.alloc (.cells cs e)).ownsRow base e size (.slice (some ⟨w.heap.size, 0, none⟩) n n) n xs := by
  subst hx
  refine ⟨hn, .inr ⟨w.heap.size, n, cs, rfl, hb, heap_alloc_new _ _, Nat.le_refl _, max_of (by omega), by simpa using hn, ?_⟩⟩
  rw [← hn]; exact List.take_length
end Lw
namespace Lw
open Go Go.RowKit
/-- what stood in w0 stands in w -/
def Sm (w0 w : World) : Prop := (∀ p : Addr, p.block < w0.heap.size → w.cell? p = w0.cell? p) ∧ (∀ p : Addr, p.block < w0.heap.size → w.frozen? p = w0.frozen? p) ∧ w0.heap.size ≤ w.heap.size ∧ Below w0.heap.size w0 w
theorem sm_of {w0 w : World} (h : Below w0.heap.size w0 w) : Sm w0 w := ⟨fun _ hp => h.cell hp, fun _ hp => h.frozen hp, h.size, h⟩
theorem sm_bel {w0 w : World} (h : Sm w0 w) : Below w0.heap.size w0 w := h.2.2.2
theorem sm_drew (w0 : World) : Sm w0 w0.drew := sm_of (Below.drew (Below.refl _ _))
theorem sm_drew' {w0 w : World} (h : Sm w0 w) : Sm w0 w.drew := sm_of (Below.drew h.2.2.2)
theorem own_drew {w : World} {base e size n : Nat} {v : Value} {xs : List Value} (h : w.ownsRow base e size v n xs) : w.drew.ownsRow base e size v n xs := h
theorem Rd.drew {w : World} {sz n : Nat} {A : Option Addr} {xs : List Value} (h : Rd w sz A n xs) : Rd w.drew sz A n xs := h
theorem blk_drew {W : World} {b : Nat} {o : Option Obj} (h : W.heap[b]? = o) : W.drew.heap[b]? = o := h
theorem sm_keep {w0 w w' : World} (h : Sm w0 w) (hb : Below w.heap.size w w') : Sm w0 w' := sm_of (bt h.2.2.2 hb)
end Lw
