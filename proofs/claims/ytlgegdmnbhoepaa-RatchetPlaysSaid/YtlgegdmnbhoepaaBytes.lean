/- Rows of bytes: numbers as bytes, texts put together, the sum of a text: the program's and the reference's. -/
import Derived.Test.YtlgegdmnbhoepaaApp
import Derived.Test.YtlgegdmnbhoepaaHash
namespace Lw
open Go
/-- a number as so many bytes, the lowest first -/
def littleL : Int → Nat → List Int
  | _, 0 => []
  | n, k + 1 => n % 256 :: littleL (n / 256) k
theorem littleL_length : ∀ (k : Nat) (n : Int), (littleL n k).length = k
  | 0, _ => rfl
  | k + 1, n => by simp [littleL, littleL_length k]
/-- numbers that are bytes -/
def Byt (bs : List Int) : Prop := ∀ b ∈ bs, 0 ≤ b ∧ b < 256
theorem Byt.app {a b : List Int} (h : Byt a) (g : Byt b) : Byt (a ++ b) := by
  intro x hx; rcases List.mem_append.1 hx with hx | hx
  · exact h x hx
  · exact g x hx
theorem littleL_byt : ∀ (k : Nat) (n : Int), Byt (littleL n k)
  | 0, _ => by intro x hx; simp [littleL] at hx
  | k + 1, n => by
    intro x hx
    simp only [littleL, List.mem_cons] at hx
    rcases hx with rfl | hx
    · omega
    · exact littleL_byt k _ x hx
/-- the sum of a row of bytes; of a text with its length -/
def hsumL (bs : List Int) : Int := bs.foldl hstep 0
def padL (bs : List Int) : List Int := bs ++ littleL bs.length 4
def hsum (bs : List Int) : Int := hsumL (padL bs)
theorem hsumL_snoc (bs : List Int) (b : Int) : hsumL (bs ++ [b]) = hstep (hsumL bs) b := by simp [hsumL]
theorem hsumL_bd (bs : List Int) : 0 ≤ hsumL bs ∧ hsumL bs < 65536 := by
  rcases List.eq_nil_or_concat bs with rfl | ⟨l, b, rfl⟩
  · simp [hsumL]
  · rw [List.concat_eq_append, hsumL_snoc]; exact hstep_bd _ _
theorem hsum_bd (bs : List Int) : 0 ≤ hsum bs ∧ hsum bs < 65536 := hsumL_bd _
theorem padL_length (bs : List Int) : (padL bs).length = bs.length + 4 := by simp [padL, littleL_length]
theorem padL_byt {bs : List Int} (h : Byt bs) : Byt (padL bs) := h.app (littleL_byt _ _)
theorem intsV_app (k : IntKind) (a b : List Int) : intsV k (a ++ b) = intsV k a ++ intsV k b := by simp [intsV]
theorem littleL_next {n : Int} {k i : Nat} {pre d : List Int} (h : pre ++ littleL n (k - i) = d) (hi : i < k) : (pre ++ [n % 256]) ++ littleL (n / 256) (k - (i + 1)) = d := by
  rw [← h, show k - i = (k - (i + 1)) + 1 by omega]; simp [littleL]
theorem hs_take {bs : List Int} {k : Nat} (hk : k < bs.length) : hsumL (bs.take (k + 1)) = hstep (hsumL (bs.take k)) bs[k] := by
  rw [List.take_succ_eq_append_getElem hk, hsumL_snoc]
end Lw
set_option linter.unusedVariables false
set_option linter.unusedSimpArgs false
namespace Go.Proofs.Ytlgegdmnbhoepaa
open Go.RowKit
theorem elByte : Lw.El Try.prog 31 5 (.int .u8 0) 1 1 := Lw.El.mk' Try.underlying31 (by kernel_rfl) rfl (by decide) (by decide)
set_option maxHeartbeats 1000000 in
theorem hash_Little (n : Int) (k : Nat) (w : World) (h1 : 0 ≤ n) (h2 : n ≤ 4611686018427387904) (hk : k ≤ 16) :
    Calls Try.prog 191 #[.int .i64 n, .int .i64 (k : Int)] w (Lw.OwnRes 5 1 (Lw.intsV .u8 (Lw.littleL n k)) k w) := by
  obtain ⟨d, hd⟩ : ∃ d, Lw.littleL n k = d := ⟨_, rfl⟩
  have D := Lib.hid hd
  rw [hd]
  clear hd
  go_enter Try.func191, Try.ntmps191
  go_wp2
  go_loopw [0, 5, 7] (fun x l j wr => ∃ (m : Int) (i : Nat) (pre : List Int), x = .int .i64 m ∧ j = .int .i64 (i : Int) ∧ 0 ≤ m ∧ m ≤ 4611686018427387904 ∧ i ≤ k ∧ Hid (pre ++ Lw.littleL m (k - i) = d) ∧ pre.length = i ∧ wr.ownsRow w.heap.size 5 1 l i (Lw.intsV .u8 pre) ∧ Below w.heap.size w wr)
    (fun _ _ j _ => k - (intOf j).toNat)
  case atStart => exact ⟨n, 0, [], rfl, rfl, h1, h2, Nat.zero_le _, by simpa using D, rfl, World.ownsRow_nil _ _ _ _, Below.refl _ _⟩
  case round =>
    obtain ⟨m, i, pre, rfl, rfl, m1, m2, i1, H, hl, own, hB⟩ := hrel
    have OWN := Lib.hid own
    have HL := Lib.hid hl
    clear own hl
    have hsz := hB.size
    by_cases hlt : i < k
    · have N := Lib.hid (Lw.littleL_next H.out hlt)
      go_wp2_with (at_builtin; refine Lw.wpList_app elByte rfl _ _ rfl rfl (OWN.out.alloc _) rfl (by first | exact Lw.Rd.nil _ _ _ | exact Lw.Rd.lit (Lw.blk_new' (by simp) _ _) rfl rfl | exact Lw.Rd.lit (Lw.blk_alloc (Lw.blk_new' (by simp) _ _) _) rfl rfl) (Lw.one1 _ _) (by omega) (Lw.balloc hB _) (Nat.le_refl _) (by simp; omega) ?_; intro v1 w1 own1 hb1 _ _)
      have O1 := Lib.hid own1
      clear own1
      go_wp2
      go_roundw
      case rel => exact ⟨m / 256, i + 1, pre ++ [m % 256], rfl, by go_num, by omega, by omega, by omega, N, by rw [List.length_append, HL.out]; rfl, by rw [Lw.intsV_app]; exact O1.out, hb1⟩
      case measure => simp [intOf]; omega
    · go_wp2
      go_ret
      have e : pre = d := by rw [← H.out, show k - i = 0 by omega]; simp [Lw.littleL]
      have hi : i = k := by omega
      subst e hi
      obtain ⟨A, c, rfl, _⟩ := Lw.ownsForm OWN.out
      exact ⟨A, c, rfl, OWN.out, hB⟩
end Go.Proofs.Ytlgegdmnbhoepaa
