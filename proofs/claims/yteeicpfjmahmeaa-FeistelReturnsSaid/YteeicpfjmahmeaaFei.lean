/- Feistel rounds: plain; the reference's xor; feistel.seal and the reference's Seal. -/
import Derived.Test.YteeicpfjmahmeaaPad3
import Derived.Test.YteeicpfjmahmeaaHash
import Derived.Test.YteeicpfjmahmeaaRegS
namespace Lw
open Go Go.RowKit
/-- a round's table at a half -/
def fAt (zs : List Int) (r : Nat) : Nat := (zs.getD r 0).toNat
def fstep (zs : List Int) (p : Nat × Nat) : Nat × Nat := (p.2, p.1 ^^^ fAt zs p.2)
def fback (zs : List Int) (p : Nat × Nat) : Nat × Nat := (p.2 ^^^ fAt zs p.1, p.1)
def fseal (Z : List TRow) (p : Nat × Nat) : Nat × Nat := Z.foldl (fun p r => fstep r.zs p) p
def fopen (Z : List TRow) (p : Nat × Nat) : Nat × Nat := Z.foldr (fun r p => fback r.zs p) p
def half (p : Nat × Nat) : Prop := p.1 < 16 ∧ p.2 < 16
def num (p : Nat × Nat) : Int := ((p.1 * 16 + p.2 : Nat) : Int)
/-- rounds that may be -/
def Rounds (Z : List TRow) : Prop := ∀ r ∈ Z, r.zs.length = 16 ∧ ∀ z ∈ r.zs, 0 ≤ z ∧ z < 16
theorem fAt_lt {zs : List Int} (h : ∀ z ∈ zs, 0 ≤ z ∧ z < 16) (r : Nat) : fAt zs r < 16 := by
  unfold fAt
  rcases Nat.lt_or_ge r zs.length with hl | hl
  · rw [List.getD_eq_getElem?_getD, List.getElem?_eq_getElem hl]
    have := h _ (List.getElem_mem hl)
    simp; omega
  · rw [List.getD_eq_getElem?_getD, List.getElem?_eq_none hl]; simp
theorem fstep_half {zs : List Int} (h : ∀ z ∈ zs, 0 ≤ z ∧ z < 16) {p : Nat × Nat} (hp : half p) : half (fstep zs p) := ⟨hp.2, Nat.xor_lt_two_pow (n := 4) hp.1 (fAt_lt h _)⟩
theorem fback_half {zs : List Int} (h : ∀ z ∈ zs, 0 ≤ z ∧ z < 16) {p : Nat × Nat} (hp : half p) : half (fback zs p) := ⟨Nat.xor_lt_two_pow (n := 4) hp.2 (fAt_lt h _), hp.1⟩
theorem fstep_back (zs : List Int) (p : Nat × Nat) : fstep zs (fback zs p) = p := by
  obtain ⟨l, r⟩ := p
  simp only [fstep, fback]
  rw [Nat.xor_assoc, Nat.xor_self, Nat.xor_zero]
theorem fback_step (zs : List Int) (p : Nat × Nat) : fback zs (fstep zs p) = p := by
  obtain ⟨l, r⟩ := p
  simp only [fstep, fback]
  rw [Nat.xor_assoc, Nat.xor_self, Nat.xor_zero]
theorem fseal_open : ∀ (Z : List TRow) (p : Nat × Nat), fseal Z (fopen Z p) = p
  | [], p => rfl
  | r :: Z, p => by
    show fseal Z (fstep r.zs (fback r.zs (fopen Z p))) = p
    rw [fstep_back, fseal_open Z p]
theorem fopen_seal : ∀ (Z : List TRow) (p : Nat × Nat), fopen Z (fseal Z p) = p
  | [], p => rfl
  | r :: Z, p => by
    show fback r.zs (fopen Z (fseal Z (fstep r.zs p))) = p
    rw [fopen_seal Z, fback_step]
theorem fseal_half {Z : List TRow} (h : Rounds Z) : ∀ {p : Nat × Nat}, half p → half (fseal Z p) := by
  induction Z with
  | nil => intro p hp; exact hp
  | cons r Z ih => intro p hp; exact ih (fun s hs => h s (by simp [hs])) (fstep_half (h r (by simp)).2 hp)
theorem fopen_half {Z : List TRow} (h : Rounds Z) {p : Nat × Nat} (hp : half p) : half (fopen Z p) := by
  induction Z with
  | nil => exact hp
  | cons r Z ih => exact fback_half (h r (by simp)).2 (ih (fun s hs => h s (by simp [hs])))
theorem fseal_take {Z : List TRow} {k : Nat} (h : k < Z.length) (p : Nat × Nat) : fseal (Z.take (k + 1)) p = fstep Z[k].zs (fseal (Z.take k) p) := by
  unfold fseal
  rw [List.take_succ_eq_append_getElem h, List.foldl_append]; rfl
theorem Rounds.take {Z : List TRow} (h : Rounds Z) (k : Nat) : Rounds (Z.take k) := fun r hr => h r (List.mem_of_mem_take hr)
/-- a number as two halves -/
def halves (x : Int) : Nat × Nat := (x.toNat / 16, x.toNat % 16)
theorem halves_half {x : Int} (h1 : x < 256) : half (halves x) := ⟨by show x.toNat / 16 < 16; omega, by show x.toNat % 16 < 16; omega⟩
theorem num_halves {x : Int} (h0 : 0 ≤ x) : num (halves x) = x := by unfold num halves; show ((x.toNat / 16 * 16 + x.toNat % 16 : Nat) : Int) = x; omega
theorem halves_num {p : Nat × Nat} (h : half p) : halves (num p) = p := by
  obtain ⟨l, r⟩ := p
  obtain ⟨h1, h2⟩ := h
  simp only at h1 h2
  unfold halves num
  simp only [Int.toNat_natCast]
  have e1 : (l * 16 + r) / 16 = l := by omega
  have e2 : (l * 16 + r) % 16 = r := by omega
  rw [e1, e2]
theorem num_bd {p : Nat × Nat} (h : half p) : 0 ≤ num p ∧ num p < 256 := by obtain ⟨h1, h2⟩ := h; unfold num; omega
/-- the bits so far -/
theorem xor_bits (a b k : Nat) : (a ^^^ b) % 2 ^ (k + 1) = (a ^^^ b) % 2 ^ k + if a / 2 ^ k % 2 = b / 2 ^ k % 2 then 0 else 2 ^ k := by
  have h0 := Nat.testBit_xor a b k
  rw [Nat.testBit_eq_decide_div_mod_eq, Nat.testBit_eq_decide_div_mod_eq, Nat.testBit_eq_decide_div_mod_eq] at h0
  rw [Nat.mod_pow_succ]
  have h1 : a / 2 ^ k % 2 = 0 ∨ a / 2 ^ k % 2 = 1 := by omega
  have h2 : b / 2 ^ k % 2 = 0 ∨ b / 2 ^ k % 2 = 1 := by omega
  have h3 : (a ^^^ b) / 2 ^ k % 2 = 0 ∨ (a ^^^ b) / 2 ^ k % 2 = 1 := by omega
  rcases h1 with h1 | h1 <;> rcases h2 with h2 | h2 <;> rcases h3 with h3 | h3 <;> simp [h1, h2, h3] at h0 ⊢
end Lw
set_option linter.unusedVariables false
set_option linter.unusedSimpArgs false
namespace Go.Proofs.Yteeicpfjmahmeaa
open Go.RowKit
set_option maxHeartbeats 1000000 in
theorem ref_xor (a b : Nat) (w : World) (ha : a < 256) (hb : b < 256) :
    Calls Try.prog 46 #[.int .i64 (a : Int), .int .i64 (b : Int)] w fun e w' => e = .returned (.int .i64 ((a ^^^ b : Nat) : Int)) ∧ w = w' := by
  have NX := Lib.hid (fun k => Lw.xor_bits a b k)
  have X0 : Hid ((a ^^^ b) % 2 ^ 0 = 0) := by show (a ^^^ b) % 1 = 0; omega
  have X8 : Hid ((a ^^^ b) % 2 ^ 8 = a ^^^ b) := Nat.mod_eq_of_lt (Nat.xor_lt_two_pow (n := 8) ha hb)
  have BD : Hid (∀ k, k ≤ 8 → (a ^^^ b) % 2 ^ k < 256) := fun k hk => by
    have h1 : (a ^^^ b) < 2 ^ 8 := Nat.xor_lt_two_pow (n := 8) ha hb
    have := Nat.mod_le (a ^^^ b) (2 ^ k); omega
  go_enter Try.func46, Try.ntmps46
  go_wp2
  go_loop [0, 1, 5, 6] (fun x y n i => ∃ k : Nat, k ≤ 8 ∧ i = .int .i64 (k : Int) ∧ x = .int .i64 ((a / 2 ^ k : Nat) : Int) ∧ y = .int .i64 ((b / 2 ^ k : Nat) : Int) ∧ n = .int .i64 (((a ^^^ b) % 2 ^ k : Nat) : Int)) (fun _ _ _ i => 8 - (intOf i).toNat)
  case atStart => exact ⟨0, by omega, rfl, by simp, by simp, by rw [X0.out]; rfl⟩
  case round =>
    obtain ⟨k, k1, rfl, rfl, rfl, rfl⟩ := hrel
    by_cases hk : k < 8
    · have e1 := NX.out k
      have a1 : a / 2 ^ (k + 1) = a / 2 ^ k / 2 := by rw [Nat.pow_succ, Nat.div_div_eq_div_mul]
      have b1 : b / 2 ^ (k + 1) = b / 2 ^ k / 2 := by rw [Nat.pow_succ, Nat.div_div_eq_div_mul]
      have a2 : a / 2 ^ k < 256 := Nat.lt_of_le_of_lt (Nat.div_le_self _ _) ha
      have b2 : b / 2 ^ k < 256 := Nat.lt_of_le_of_lt (Nat.div_le_self _ _) hb
      have n2 := BD.out k k1
      have A1 := Lib.hid a1; have B1 := Lib.hid b1
      obtain ⟨u, hu⟩ : ∃ u, a / 2 ^ k = u := ⟨_, rfl⟩
      obtain ⟨v, hv⟩ : ∃ v, b / 2 ^ k = v := ⟨_, rfl⟩
      obtain ⟨n, hn⟩ : ∃ n, (a ^^^ b) % 2 ^ k = n := ⟨_, rfl⟩
      obtain ⟨n', hn'⟩ : ∃ n, (a ^^^ b) % 2 ^ (k + 1) = n := ⟨_, rfl⟩
      rw [hu] at A1 a2 e1
      rw [hv] at B1 b2 e1
      rw [hn] at n2 e1
      rw [hn'] at e1
      rw [hu, hv, hn]
      have hk8 : k = 0 ∨ k = 1 ∨ k = 2 ∨ k = 3 ∨ k = 4 ∨ k = 5 ∨ k = 6 ∨ k = 7 := by omega
      clear a1 b1 hu hv hn
      by_cases huv : u % 2 = v % 2
      · have t : ((u : Int) % 2 == (v : Int) % 2) = true := by simp; omega
        have e2 := Lib.hid (e1.trans (by rw [if_pos huv]))
        clear e1 hk8 huv
        go_wp2
        go_round
        case rel => exact ⟨k + 1, by omega, by go_num, by rw [A1.out]; go_num, by rw [B1.out]; go_num, by rw [hn', e2.out]; go_num⟩
        case measure => simp [intOf]; omega
      · have t : ((u : Int) % 2 == (v : Int) % 2) = false := by simp; omega
        have e2 := Lib.hid (e1.trans (by rw [if_neg huv]))
        obtain ⟨k', hk'⟩ : ∃ k', k' = k + 1 := ⟨_, rfl⟩
        rw [← hk'] at A1 B1 hn'
        clear e1 huv
        rcases hk8 with rfl | rfl | rfl | rfl | rfl | rfl | rfl | rfl
        all_goals
          go_wp2
          go_round
          case rel => exact ⟨k', by omega, by go_num, by rw [A1.out]; go_num, by rw [B1.out]; go_num, by rw [hn', e2.out]; go_num⟩
          case measure => simp [intOf]
    · obtain rfl : k = 8 := by omega
      go_wp2
      go_ret
      exact ⟨Lw.ret_int (by have := X8.out; simp at this ⊢; omega), rfl⟩
end Go.Proofs.Yteeicpfjmahmeaa
