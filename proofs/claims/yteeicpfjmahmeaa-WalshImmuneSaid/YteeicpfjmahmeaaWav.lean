/- walsh.Waves: the signed sums; the reference's parts: Bit, Ones, FunctionCheck. -/
import Derived.Test.YteeicpfjmahmeaaWal
import Derived.Test.YteeicpfjmahmeaaBit
namespace Lw
open Go Go.RowKit
def prW (a b : Int) : Int × Int := (a + b, a - b)
def okF (n f : Int) : Prop := 0 ≤ n ∧ n ≤ 5 ∧ f < 2 ^ (2 ^ n.toNat)
def bitF (f : Int) (x : Nat) : Int := f / 2 ^ x % 2
instance (n f : Int) : Decidable (okF n f) := by unfold okF; infer_instance
theorem bitF_bd (f : Int) (x : Nat) : 0 ≤ bitF f x ∧ bitF f x ≤ 1 := by unfold bitF; omega
theorem and_bit (f : Int) (x : Nat) (h0 : 0 ≤ f) (h1 : f < 4294967296) : bits .and .u32 (f / 2 ^ x) 1 = bitF f x := by
  obtain ⟨n, rfl⟩ := Int.eq_ofNat_of_zero_le h0
  have e : ((n : Int) / 2 ^ x) = ((n / 2 ^ x : Nat) : Int) := by rw [Int.natCast_ediv, Int.natCast_pow]; rfl
  have h2 : n / 2 ^ x ≤ n := Nat.div_le_self _ _
  unfold bitF
  rw [e, show (1 : Int) = ((1 : Nat) : Int) from rfl, Go.u32_and_nat _ 1 (by omega) (by omega), Go.nat_mask1]
  omega
def wavG (f : Int) (x : Nat) : Int := 1 - 2 * bitF f x
theorem itr_bd {g : Nat → Int} (h : ∀ i, -1 ≤ g i ∧ g i ≤ 1) : ∀ k i, -2 ^ k ≤ itr prW g k i ∧ itr prW g k i ≤ 2 ^ k
  | 0, i => h i
  | k + 1, i => by
    have h1 := itr_bd h k i
    have h2 := itr_bd h k (i - 2 ^ k)
    have h3 := itr_bd h k (i + 2 ^ k)
    show _ ≤ flyP prW k (itr prW g k) i ∧ flyP prW k (itr prW g k) i ≤ _
    unfold flyP
    rw [Int.pow_succ]
    generalize (2 : Int) ^ k = P at *
    split
    · show _ ≤ itr prW g k (i - 2 ^ k) - itr prW g k i ∧ itr prW g k (i - 2 ^ k) - itr prW g k i ≤ _
      omega
    · show _ ≤ itr prW g k i + itr prW g k (i + 2 ^ k) ∧ itr prW g k i + itr prW g k (i + 2 ^ k) ≤ _
      omega
theorem pow_i32 : ∀ k, k < 6 → (2 : Int) ^ k ≤ 32 := by decide
theorem shl_pow : ∀ n, n < 6 → IntKind.i64.wrap (2 ^ n) = ((2 ^ n : Nat) : Int) := by decide
theorem itr_64 {f : Int} {k i : Nat} (hk : k < 6) : -64 ≤ itr prW (wavG f) k i ∧ itr prW (wavG f) k i ≤ 64 := by
  have h := itr_bd (g := wavG f) (fun i => by have := bitF_bd f i; unfold wavG; omega) k i
  have := pow_i32 k hk
  omega
/-- a row half filled -/
def halfG (g : Nat → Int) (x i : Nat) : Int := if i < x then g i else 0
theorem half_zero {N : Nat} {g : Nat → Int} : rowF N (halfG g 0) = List.replicate N 0 := by
  have : halfG g 0 = fun _ => 0 := by funext i; unfold halfG; rw [if_neg (by omega)]
  rw [this]
  apply List.ext_getElem <;> simp [rowF]
theorem half_end {N : Nat} {g : Nat → Int} : rowF N (halfG g N) = rowF N g := rowF_congr fun i hi => if_pos hi
theorem half_next {N x : Nat} {g : Nat → Int} : (rowF N (halfG g x)).set x (g x) = rowF N (halfG g (x + 1)) := by
  rw [rowF_set]
  refine rowF_congr fun i _ => ?_
  unfold halfG
  by_cases h : i = x
  · subst h; rw [if_pos rfl, if_pos (by omega)]
  · rw [if_neg h]
    by_cases h2 : i < x
    · rw [if_pos h2, if_pos (by omega)]
    · rw [if_neg h2, if_neg (by omega)]
end Lw
set_option linter.unusedVariables false
set_option linter.unusedSimpArgs false
namespace Go.Proofs.Yteeicpfjmahmeaa
open Go.RowKit
theorem waves_pair (a b : Int) (w : World) (h1 : -64 ≤ a ∧ a ≤ 64) (h2 : -64 ≤ b ∧ b ≤ 64) :
    Calls Try.prog 35 #[.int .i64 a, .int .i64 b] w fun e w' => e = .returned (.tuple #[.int .i64 (Lw.prW a b).1, .int .i64 (Lw.prW a b).2]) ∧ w = w' := by
  go_enter Try.func35, Try.ntmps35
  go_wp2
  go_ret2
  exact ⟨rfl, rfl⟩
theorem walsh_out_ok (n : Nat) (f : Int) (w : World) (hn : n < 6) (f0 : 0 ≤ f) (hf : f < 2 ^ (2 ^ n)) :
    Calls Try.prog 33 #[.int .i64 (n : Int), .int .u32 f] w fun e w' => e = .returned (.bool false) ∧ w = w' := by
  rcases (by omega : n = 0 ∨ n = 1 ∨ n = 2 ∨ n = 3 ∨ n = 4 ∨ n = 5) with h | h | h | h | h | h <;> subst h <;> simp only [Nat.reducePow, Int.reducePow] at hf <;> (go_enter Try.func33, Try.ntmps33) <;> go_wp2 <;> go_ret <;> refine ⟨?_, rfl⟩ <;> simp <;> omega
theorem walsh_out_bad (n : Int) (f : Int) (w : World) (f0 : 0 ≤ f) (f1 : f < 4294967296) (n1 : -9223372036854775808 ≤ n) (n2 : n ≤ 9223372036854775807) (h : ¬ Lw.okF n f) :
    Calls Try.prog 33 #[.int .i64 n, .int .u32 f] w fun e w' => e = .returned (.bool true) ∧ w = w' := by
  rcases (by omega : n < 0 ∨ 5 < n ∨ n = 0 ∨ n = 1 ∨ n = 2 ∨ n = 3 ∨ n = 4 ∨ n = 5) with h1 | h1 | h1 | h1 | h1 | h1 | h1 | h1
  · clear h
    go_enter Try.func33, Try.ntmps33
    go_wp2
    go_ret
    exact ⟨rfl, rfl⟩
  · clear h
    have h2 : ¬ n < 0 := by omega
    go_enter Try.func33, Try.ntmps33
    go_wp2
    go_ret
    exact ⟨rfl, rfl⟩
  · subst h1
    have h : ¬ f < 2 := fun e => h ⟨by omega, by omega, by simpa using e⟩
    go_enter Try.func33, Try.ntmps33
    go_wp2
    go_ret
    refine ⟨?_, rfl⟩
    simp
    omega
  · subst h1
    have h : ¬ f < 4 := fun e => h ⟨by omega, by omega, by simpa using e⟩
    go_enter Try.func33, Try.ntmps33
    go_wp2
    go_ret
    refine ⟨?_, rfl⟩
    simp
    omega
  · subst h1
    have h : ¬ f < 16 := fun e => h ⟨by omega, by omega, by simpa using e⟩
    go_enter Try.func33, Try.ntmps33
    go_wp2
    go_ret
    refine ⟨?_, rfl⟩
    simp
    omega
  · subst h1
    have h : ¬ f < 256 := fun e => h ⟨by omega, by omega, by simpa using e⟩
    go_enter Try.func33, Try.ntmps33
    go_wp2
    go_ret
    refine ⟨?_, rfl⟩
    simp
    omega
  · subst h1
    have h : ¬ f < 65536 := fun e => h ⟨by omega, by omega, by simpa using e⟩
    go_enter Try.func33, Try.ntmps33
    go_wp2
    go_ret
    refine ⟨?_, rfl⟩
    simp
    omega
  · subst h1
    have h : ¬ f < 4294967296 := fun e => h ⟨by omega, by omega, by simpa using e⟩
    go_enter Try.func33, Try.ntmps33
    go_wp2
    go_ret
    refine ⟨?_, rfl⟩
    simp
    omega
set_option maxHeartbeats 2000000 in
theorem walsh_Waves_ok (n : Nat) (f : Int) (w : World) (hn : n < 6) (f0 : 0 ≤ f) (f1 : f < 4294967296) (hf : f < 2 ^ (2 ^ n)) :
    Calls Try.prog 13 #[.int .i64 (n : Int), .int .u32 f] w fun e w' => e = .returned (.tuple #[.slice (some ⟨w.heap.size, 0, none⟩) (2 ^ n) (2 ^ n), .int .i64 0]) ∧ Lw.Rd w' 1 (some ⟨w.heap.size, 0, none⟩) (2 ^ n) (Lw.intsV .i64 (Lw.rowF (2 ^ n) (Lw.itr Lw.prW (Lw.wavG f) n))) ∧ Below w.heap.size w w' := by
  have OUT := Lib.hid (fun W => walsh_out_ok n f W hn f0 hf)
  have N32 := Lw.pow_32 n hn
  have SH := Lw.shl_pow n hn
  rw [IntWalk.i64_left] at SH
  have FL := Lib.hid (fun W own => walsh_fly_waves Lw.prW (fun x => -64 ≤ x ∧ x ≤ 64) (fun a b W h1 h2 => waves_pair a b W h1 h2) n hn (Lw.wavG f) (fun k i hk _ => Lw.itr_64 (by omega)) w.heap.size W own w)
  obtain ⟨N, hN⟩ : ∃ N, 2 ^ n = N := ⟨_, rfl⟩
  rw [hN] at N32 SH FL ⊢
  obtain ⟨N1, N2⟩ := N32
  have n5 : n ≤ 5 := by omega
  clear hf hn hN
  have M : ∀ w : World, (Instr.makeSlice 23 (.int .i64 (N : Int)) (.int .i64 (N : Int))).run Try.prog w = .ok (.slice (some ⟨w.heap.size, 0, none⟩) N N) (w.alloc (.cells (List.replicate N (Value.int .i64 0)).toArray 3)) := fun w => Lw.run_mk elInts rfl .i64 .i64 N (by omega) w
  have hg1 : (w.alloc (.cells (List.replicate N (Value.int .i64 0)).toArray 3)).heap[w.heap.size]? = some (.cells (Lw.intsV .i64 (Lw.rowF N (Lw.halfG (Lw.wavG f) 0))).toArray 3 (0, 0)) := by
    rw [Lw.half_zero, Lw.intsV, List.map_replicate]; exact Lw.blk_new w _ _
  have own1 : (w.alloc (.cells (List.replicate N (Value.int .i64 0)).toArray 3)).ownsRow w.heap.size 3 1 (.slice (some ⟨w.heap.size, 0, none⟩) N N) N (Lw.intsV .i64 (Lw.rowF N (Lw.halfG (Lw.wavG f) 0))) := Lw.own_blk hg1 (by rw [Lw.intsV_length, Lw.rowF_length]; omega) (by omega) (Nat.le_refl _)
  have OWN1 := Lib.hid own1
  clear own1 hg1
  go_enter Try.func13, Try.ntmps13
  go_wp2_with (go_at_call 33; (with_reducible refine (OUT.out _).mono ?_); rintro e w' ⟨rfl, rfl⟩)
  go_loopw [7, 16] (fun xx x wr => ∃ i : Nat, x = .int .i64 (i : Int) ∧ i ≤ N ∧ wr.ownsRow w.heap.size 3 1 (.slice (some ⟨w.heap.size, 0, none⟩) N N) N (Lw.intsV .i64 (Lw.rowF N (Lw.halfG (Lw.wavG f) i))) ∧ Below w.heap.size w wr) (fun _ x _ => N - (intOf x).toNat)
  case atStart => exact ⟨0, rfl, by omega, by first | exact OWN1.out | (rw [← List.toArray_replicate]; exact OWN1.out), by first | exact Lw.balloc (Below.refl _ _) _⟩
  case round =>
    clear OWN1
    obtain ⟨i, rfl, hi, own, hB⟩ := hrel
    by_cases hil : i < N
    · have i32 : i < 32 := by omega
      have G1 : (Lw.intsV .i64 (Lw.rowF N (Lw.halfG (Lw.wavG f) i)))[i]? = some (.int .i64 (Lw.halfG (Lw.wavG f) i i)) := by rw [Lw.intsV, List.getElem?_map, Lw.rowF_get hil]; rfl
      obtain ⟨c0, f0, hg0, hgl⟩ := Lw.own_cell (i := i) own G1
      have OW := Lib.hid (Lw.own_set (v := .int .i64 (Lw.wavG f i)) own hil)
      have NX := Lib.hid (Lw.half_next (N := N) (x := i) (g := Lw.wavG f))
      have AN := Lw.and_bit f i (by omega) f1
      have WG : Lw.wavG f i = 1 - 2 * Lw.bitF f i := rfl
      obtain ⟨b1, b2⟩ := Lw.bitF_bd f i
      rw [WG] at OW
      obtain ⟨β, hβ⟩ : ∃ z, Lw.bitF f i = z := ⟨_, rfl⟩
      rw [hβ] at AN OW b1 b2 WG
      have W1 : wrap64 β = β := IntWalk.wrap64_in _ (by omega)
      have W2 : wrap64 (2 * β) = 2 * β := IntWalk.wrap64_in _ (by omega)
      have W3 : wrap64 (1 - 2 * β) = 1 - 2 * β := IntWalk.wrap64_in _ (by omega)
      have WG := Lib.hid WG
      have i64 : (i : Int) < (N : Int) := by omega
      clear own G1 hβ
      go_wp2_with fail
      go_roundw
      case rel => exact ⟨i + 1, by go_num, by omega, by rw [← NX.out, WG.out]; have := OW.out; rw [Lw.intsV, ← List.map_set] at this; (try simp only [AN, W1, W2, W3]); exact this, Lw.bset hB (Nat.le_refl _) _⟩
      case measure => simp [intOf]; omega
    · have hiN : i = N := by omega
      subst hiN
      rw [Lw.half_end] at own
      have FF := Lib.hid (FL.out wr own hB)
      clear own
      go_wp2_with (go_at_call 34; (with_reducible refine FF.out.mono ?_); rintro e w2 ⟨own2, hb2, v, rfl⟩)
      go_ret2
      exact ⟨rfl, Lw.Rd.of_own own2, hb2⟩
theorem walsh_Waves_bad (n : Int) (f : Int) (w : World) (f0 : 0 ≤ f) (f1 : f < 4294967296) (n1 : -9223372036854775808 ≤ n) (n2 : n ≤ 9223372036854775807) (h : ¬ Lw.okF n f) :
    Calls Try.prog 13 #[.int .i64 n, .int .u32 f] w fun e w' => e = .returned (.tuple #[.slice none 0 0, .int .i64 2]) ∧ w = w' := by
  have OUT := Lib.hid (fun W => walsh_out_bad n f W f0 f1 n1 n2 h)
  clear h
  go_enter Try.func13, Try.ntmps13
  go_wp2_with (go_at_call 33; (with_reducible refine (OUT.out _).mono ?_); rintro e w' ⟨rfl, rfl⟩)
  go_ret2
  exact ⟨rfl, rfl⟩
end Go.Proofs.Yteeicpfjmahmeaa
