/- walsh.Degree: by the lowest bits; the reference's Degree. -/
import Derived.Test.YteeicpfjmahmeaaDoorWaa
import Derived.Test.YteeicpfjmahmeaaDoorWaj
namespace Lw
open Go Go.RowKit
theorem least_nat' {P : Nat → Prop} : ∀ n, P n → ∃ m, P m ∧ ∀ i, i < m → ¬ P i := by
  intro n
  induction n using Nat.strongRecOn with
  | ind n ih =>
    intro h
    by_cases hx : ∃ i, i < n ∧ P i
    · obtain ⟨i, h1, h2⟩ := hx
      exact ih i h1 h2
    · exact ⟨n, h, fun i hi hp => hx ⟨i, hi, hp⟩⟩
/-- the longest product so far -/
def dM (G : Nat) : Nat → Int
  | 0 => -1
  | s + 1 => if G / 2 ^ s % 2 = 1 then max (dM G s) (onesF 6 s : Nat) else dM G s
theorem dM_same {G s : Nat} : ∀ k, (∀ i, s ≤ i → i < s + k → G / 2 ^ i % 2 = 0) → dM G (s + k) = dM G s
  | 0, _ => rfl
  | k + 1, h => by
    show (if G / 2 ^ (s + k) % 2 = 1 then max (dM G (s + k)) (onesF 6 (s + k) : Nat) else dM G (s + k)) = dM G s
    rw [if_neg (by have := h (s + k) (by omega) (by omega); omega), dM_same k fun i h1 h2 => h i h1 (by omega)]
theorem div_bits {G s : Nat} : ∀ k, (∀ i, s ≤ i → i < s + k → G / 2 ^ i % 2 = 0) → G / 2 ^ s = G / 2 ^ (s + k) * 2 ^ k
  | 0, _ => by simp
  | k + 1, h => by
    rw [div_bits k fun i h1 h2 => h i h1 (by omega)]
    have h1 := h (s + k) (by omega) (by omega)
    have h2 : G / 2 ^ (s + (k + 1)) = G / 2 ^ (s + k) / 2 := by rw [← Nat.add_assoc, Nat.pow_succ, Nat.div_div_eq_div_mul]
    rw [h2, Nat.pow_succ, ← Nat.mul_assoc, Nat.mul_right_comm]
    congr 1
    omega
theorem dM_bd (G : Nat) : ∀ s, s ≤ 32 → -1 ≤ dM G s ∧ dM G s ≤ 6
  | 0, _ => by show (-1 : Int) ≤ -1 ∧ (-1 : Int) ≤ 6; omega
  | s + 1, h => by
    have h1 := dM_bd G s (by omega)
    have h2 := ones_le s (by omega)
    unfold dM
    split <;> omega
theorem dM_zero {G s : Nat} (hs : s ≤ 32) (h : G / 2 ^ s * 2 ^ s = 0) : dM G 32 = dM G s := by
  have hp := Nat.two_pow_pos s
  have h0 : G / 2 ^ s = 0 := by rcases Nat.mul_eq_zero.1 h with e | e <;> omega
  have := dM_same (G := G) (s := s) (32 - s) fun i h1 _ => by
    have h2 : G < 2 ^ s := by rcases Nat.lt_or_ge G (2 ^ s) with h3 | h3; exact h3; (have := Nat.div_pos h3 hp; omega)
    have h3 : 2 ^ s ≤ 2 ^ i := Nat.pow_le_pow_right (by omega) h1
    rw [Nat.div_eq_of_lt (by omega)]
  rw [show s + (32 - s) = 32 by omega] at this
  exact this
/-- what is left has a lowest bit -/
theorem low_bit {G s : Nat} (hG : G < 2 ^ 32) (hs : s ≤ 32) (h0 : G / 2 ^ s * 2 ^ s ≠ 0) : ∃ t, s ≤ t ∧ t < 32 ∧ G / 2 ^ t % 2 = 1 ∧ dM G t = dM G s ∧ G / 2 ^ s * 2 ^ s = 2 ^ (t + 1) * (G / 2 ^ (t + 1)) + 2 ^ t := by
  have hex : ∃ t, s ≤ t ∧ t < 32 ∧ G / 2 ^ t % 2 = 1 := by
    by_cases h : ∃ t, s ≤ t ∧ t < 32 ∧ G / 2 ^ t % 2 = 1
    · exact h
    · exfalso
      have := div_bits (G := G) (s := s) (32 - s) fun i h1 h2 => by
        rcases Nat.mod_two_eq_zero_or_one (G / 2 ^ i) with e | e
        · exact e
        · exact absurd ⟨i, h1, by omega, e⟩ h
      rw [show s + (32 - s) = 32 by omega, Nat.div_eq_of_lt hG, Nat.zero_mul] at this
      rw [this] at h0; omega
  obtain ⟨t, ht⟩ := hex
  obtain ⟨m, ⟨h1, h2, h3⟩, hm⟩ := least_nat' (P := fun t => s ≤ t ∧ t < 32 ∧ G / 2 ^ t % 2 = 1) t ht
  have hz : ∀ i, s ≤ i → i < s + (m - s) → G / 2 ^ i % 2 = 0 := fun i g1 g2 => by
    rcases Nat.mod_two_eq_zero_or_one (G / 2 ^ i) with e | e
    · exact e
    · exact absurd ⟨g1, by omega, e⟩ (hm i (by omega))
  have e1 := dM_same (m - s) hz
  have e2 := div_bits (m - s) hz
  rw [show s + (m - s) = m by omega] at e1 e2
  refine ⟨m, h1, h2, h3, e1, ?_⟩
  have e3 : G / 2 ^ (m + 1) = G / 2 ^ m / 2 := by rw [Nat.pow_succ, Nat.div_div_eq_div_mul]
  rw [e2, Nat.mul_assoc, ← Nat.pow_add, show m - s + s = m by omega, e3, Nat.pow_succ]
  have e5 : G / 2 ^ m = 2 * (G / 2 ^ m / 2) + 1 := by omega
  generalize hq : G / 2 ^ m / 2 = q at *
  rw [e5]
  generalize 2 ^ m = P
  rw [Nat.add_mul, Nat.one_mul, Nat.mul_comm (2 * q) P, ← Nat.mul_assoc]
theorem and_comp {k q : Nat} (h : q < 2 ^ k) : q &&& (2 ^ k - (q + 1)) = 0 := by
  apply Nat.eq_of_testBit_eq
  intro i
  rw [Nat.testBit_and, Nat.testBit_two_pow_sub_succ h, Nat.zero_testBit]
  cases q.testBit i <;> simp
/-- x & -x: the lowest bit -/
theorem and_neg {t q : Nat} (h : 2 ^ (t + 1) * q + 2 ^ t < 2 ^ 32) (ht : t < 32) : (2 ^ (t + 1) * q + 2 ^ t) &&& (2 ^ 32 - (2 ^ (t + 1) * q + 2 ^ t)) = 2 ^ t := by
  have hq : q < 2 ^ (31 - t) := by
    rcases Nat.lt_or_ge q (2 ^ (31 - t)) with h1 | h1
    · exact h1
    · have h2 : 2 ^ (t + 1) * 2 ^ (31 - t) ≤ 2 ^ (t + 1) * q := Nat.mul_le_mul_left _ h1
      rw [← Nat.pow_add, show t + 1 + (31 - t) = 32 by omega] at h2
      have := Nat.two_pow_pos t
      generalize 2 ^ (t + 1) * q = Q at *
      generalize 2 ^ t = P at *
      omega
  have e : 2 ^ 32 - (2 ^ (t + 1) * q + 2 ^ t) = 2 ^ (t + 1) * (2 ^ (31 - t) - (q + 1)) + 2 ^ t := by
    have h1 : 2 ^ (t + 1) * 2 ^ (31 - t) = 2 ^ 32 := by rw [← Nat.pow_add]; congr 1; omega
    have h2 : 2 ^ (t + 1) = 2 ^ t + 2 ^ t := by rw [Nat.pow_succ]; omega
    have h3 : 2 ^ (t + 1) * (q + 1) ≤ 2 ^ (t + 1) * 2 ^ (31 - t) := Nat.mul_le_mul_left _ hq
    rw [h1, Nat.mul_add, Nat.mul_one] at h3
    rw [Nat.mul_sub, Nat.mul_add, Nat.mul_one, h1]
    generalize 2 ^ (t + 1) * q = Q at *
    generalize 2 ^ (t + 1) = T at *
    generalize 2 ^ t = P at *
    omega
  rw [e]
  apply Nat.eq_of_testBit_eq
  intro i
  have hlt : 2 ^ t < 2 ^ (t + 1) := by rw [Nat.pow_succ]; have := Nat.two_pow_pos t; omega
  rw [Nat.testBit_and, Nat.testBit_two_pow_mul_add _ hlt, Nat.testBit_two_pow_mul_add _ hlt]
  by_cases hi : i < t + 1
  · rw [if_pos hi, if_pos hi, Bool.and_self]
  · rw [if_neg hi, if_neg hi, ← Nat.testBit_and, and_comp hq, Nat.zero_testBit, Nat.testBit_two_pow]
    simp; omega
/-- x & (x - 1): without the lowest bit -/
theorem and_pred {t q : Nat} : (2 ^ (t + 1) * q + 2 ^ t) &&& (2 ^ (t + 1) * q + 2 ^ t - 1) = 2 ^ (t + 1) * q := by
  have hp := Nat.two_pow_pos t
  have hlt : 2 ^ t < 2 ^ (t + 1) := by rw [Nat.pow_succ]; omega
  rw [show 2 ^ (t + 1) * q + 2 ^ t - 1 = 2 ^ (t + 1) * q + (2 ^ t - 1) by omega]
  apply Nat.eq_of_testBit_eq
  intro i
  rw [Nat.testBit_and, Nat.testBit_two_pow_mul_add _ hlt, Nat.testBit_two_pow_mul_add _ (by omega : 2 ^ t - 1 < 2 ^ (t + 1)), Nat.testBit_two_pow_mul]
  by_cases hi : i < t + 1
  · rw [if_pos hi, if_pos hi, Nat.testBit_two_pow, Nat.testBit_two_pow_sub_one]
    have : decide (i ≥ t + 1) = false := by simp; omega
    rw [this]
    simp; omega
  · rw [if_neg hi, if_neg hi, Bool.and_self]
    have : decide (i ≥ t + 1) = true := by simp; omega
    rw [this, Bool.true_and]
def tabL : List Nat := [0, 1, 28, 2, 29, 14, 24, 3, 30, 22, 20, 15, 25, 17, 4, 8, 31, 27, 13, 23, 21, 19, 16, 7, 26, 12, 18, 6, 11, 5, 10, 9]
theorem tab_at : ∀ t, t < 32 → tabL.getD (2 ^ t * 125613361 % 4294967296 / 134217728) 0 = t ∧ 2 ^ t * 125613361 % 4294967296 / 134217728 < 32 := by decide
end Lw
set_option linter.unusedVariables false
set_option linter.unusedSimpArgs false
namespace Go.Proofs.YteeicpfjmahmeaaDoor
open Go.RowKit
theorem bits_TZ (t q : Nat) (ht : t < 32) (h : 2 ^ (t + 1) * q + 2 ^ t < 2 ^ 32) (w : World) (hT : ∀ i, i < 32 → w.cell? ⟨0, i, none⟩ = some (.int .u8 ((Lw.tabL.getD i 0 : Nat) : Int))) :
    Calls Tryd.prog 10 #[.int .u32 ((2 ^ (t + 1) * q + 2 ^ t : Nat) : Int)] w fun e w' => e = .returned (.int .i64 (t : Int)) ∧ w = w' := by
  have AN := Lw.and_neg h ht
  obtain ⟨TA, TI⟩ := Lw.tab_at t ht
  have hp := Nat.two_pow_pos t
  generalize 2 ^ (t + 1) * q + 2 ^ t = x at *
  obtain ⟨i, hi⟩ : ∃ z, 2 ^ t * 125613361 % 4294967296 / 134217728 = z := ⟨_, rfl⟩
  rw [hi] at TA TI
  have c0 := hT i TI
  rw [TA] at c0
  have x0 : x ≠ 0 := by intro e; rw [e] at AN; simp at AN; omega
  have NG : IntKind.u32.wrap (-(x : Int)) = ((4294967296 - x : Nat) : Int) := by rw [IntKind.wrap_u32]; omega
  have NG2 : -(x : Int) % 4294967296 = ((4294967296 - x : Nat) : Int) := by omega
  have AN2 : bits BinOp.and IntKind.u32 (x : Int) ((4294967296 - x : Nat) : Int) = ((2 ^ t : Nat) : Int) := by
    rw [Go.u32_and_nat x (4294967296 - x) (by omega) (by omega)]; congr 1
  obtain ⟨P, hP⟩ : ∃ z, 2 ^ t = z := ⟨_, rfl⟩
  rw [hP] at AN2 hi
  have M1 : IntKind.u32.wrap ((P : Int) * 125613361) = ((P * 125613361 % 4294967296 : Nat) : Int) := by rw [IntKind.wrap_u32]; omega
  have M2 : ((P : Int) * 125613361) % 4294967296 = ((P * 125613361 % 4294967296 : Nat) : Int) := by omega
  obtain ⟨M, hM⟩ : ∃ z, P * 125613361 % 4294967296 = z := ⟨_, rfl⟩
  rw [hM] at M1 M2 hi
  have D1 : (M : Int) / 134217728 = (i : Int) := by omega
  have x1 : ((x : Int) == 0) = false := by simpa using x0
  have x2 : ¬ (x : Int) = 0 := by omega
  have ti : (i : Int) < 32 := by omega
  have tt : (t : Int) < 32 := by omega
  have xl : (x : Int) < 4294967296 := by omega
  have ml : (M : Int) < 4294967296 := by omega
  clear hT AN TA hi hP hM hp h
  go_enter Tryd.func10, Tryd.ntmps10
  go_wp2
  go_ret
  exact ⟨rfl, rfl⟩
set_option maxRecDepth 100000 in
set_option maxHeartbeats 2000000 in
theorem walsh_Degree_ok (n : Nat) (f : Int) (w : World) (hn : n < 6) (f0 : 0 ≤ f) (f1 : f < 4294967296) (hf : f < 2 ^ (2 ^ n)) (hz : 0 < w.heap.size) (hT : ∀ i, i < 32 → w.cell? ⟨0, i, none⟩ = some (.int .u8 ((Lw.tabL.getD i 0 : Nat) : Int))) :
    Calls Tryd.prog 4 #[.int .i64 (n : Int), .int .u32 f] w fun e w' => e = .returned (.tuple #[.int .i64 (Lw.dM (Lw.packT (Lw.anfV f) (2 ^ n)).toNat 32), .int .i64 0]) ∧ Below w.heap.size w w' := by
  have OUT := Lib.hid (fun W => walsh_out_ok n f W hn f0 hf)
  have AN := Lib.hid (fun W => walsh_anf n f W hn f0 f1)
  have PB := Lw.pack_bd (Lw.anfV_bd f) (2 ^ n)
  have N32 := Lw.pow_32 n hn
  have P32 := (Lw.pow_u32 (2 ^ n) (by omega)).1
  obtain ⟨G, hG⟩ := Int.eq_ofNat_of_zero_le PB.1
  rw [hG] at AN PB ⊢
  have G32 : G < 2 ^ 32 := by omega
  rw [Int.toNat_natCast]
  have LB := Lib.hid (fun s hs h0 => Lw.low_bit (G := G) (s := s) G32 hs h0)
  have DB := Lib.hid (Lw.dM_bd G)
  have DS : Hid (∀ t, G / 2 ^ t % 2 = 1 → Lw.dM G (t + 1) = max (Lw.dM G t) (Lw.onesF 6 t : Nat)) := fun t h => if_pos h
  have DZ : Hid (∀ s, s ≤ 32 → G / 2 ^ s * 2 ^ s = 0 → Lw.dM G s = Lw.dM G 32) := fun s hs h => (Lw.dM_zero hs h).symm
  have OC := Lib.hid (fun x hx W => bits_OnesCount x hx W)
  have TZ := Lib.hid (fun t q ht h W (hb : Below w.heap.size w W) => bits_TZ t q ht h W (fun i hi => (hb.cell hz).trans (hT i hi)))
  have OL := Lib.hid Lw.ones_le
  have GL : Hid (∀ s, G / 2 ^ s * 2 ^ s ≤ G) := fun s => Nat.div_mul_le_self _ _
  clear hG PB P32 hf hT
  go_enter Tryd.func4, Tryd.ntmps4
  go_wp2_with fail
  refine (OUT.out _).mono ?_
  rintro e w' ⟨rfl, rfl⟩
  go_wp2_with fail
  refine (AN.out _).mono ?_
  rintro e w1 ⟨rfl, hb1⟩
  go_wp2_with fail
  go_loop [6, 7] (fun d g => ∃ s : Nat, g = .int .u32 ((G / 2 ^ s * 2 ^ s : Nat) : Int) ∧ s ≤ 32 ∧ d = .int .i64 (Lw.dM G s)) (fun _ g => (intOf g).toNat)
  case atStart => exact ⟨0, by simp, by omega, rfl⟩
  case round =>
    obtain ⟨s, rfl, hs, rfl⟩ := hrel
    obtain ⟨d1, d2⟩ := DB.out s hs
    by_cases h0 : G / 2 ^ s * 2 ^ s = 0
    · rw [h0]
      rw [DZ.out s hs h0]
      go_wp2_with fail
      go_ret2
      exact ⟨rfl, hb1⟩
    · obtain ⟨t, t1, t2, t3, t4, t5⟩ := LB.out s hs h0
      have S := DS.out t t3
      rw [t4] at S
      have gl := GL.out s
      have AP := Lw.and_pred (t := t) (q := G / 2 ^ (t + 1))
      have NX : G / 2 ^ (t + 1) * 2 ^ (t + 1) = 2 ^ (t + 1) * (G / 2 ^ (t + 1)) := Nat.mul_comm _ _
      have TZ1 := fun W hb => TZ.out t (G / 2 ^ (t + 1)) t2 (by rw [← t5]; omega) W hb
      have hp := Nat.two_pow_pos t
      rw [t5] at h0 gl ⊢
      have lt : 2 ^ (t + 1) * (G / 2 ^ (t + 1)) < 2 ^ (t + 1) * (G / 2 ^ (t + 1)) + 2 ^ t := by omega
      have OO := Lib.hid (fun W => OC.out t t2 W)
      have o6 := OL.out t (by omega)
      obtain ⟨y, hy⟩ : ∃ z, 2 ^ (t + 1) * (G / 2 ^ (t + 1)) = z := ⟨_, rfl⟩
      rw [hy] at AP NX TZ1 h0 gl lt ⊢
      obtain ⟨x, hx⟩ : ∃ z, y + 2 ^ t = z := ⟨_, rfl⟩
      rw [hx] at AP TZ1 h0 gl lt ⊢
      have TZ1 := Lib.hid (TZ1 w1 hb1)
      obtain ⟨d, hd⟩ : ∃ z, Lw.dM G s = z := ⟨_, rfl⟩
      obtain ⟨o, ho⟩ : ∃ z, Lw.onesF 6 t = z := ⟨_, rfl⟩
      rw [hd] at d1 d2 S
      rw [ho] at OO o6 S
      rw [hd]
      have x32 : x < 4294967296 := by omega
      have XP : bits BinOp.and IntKind.u32 (x : Int) ((x : Int) - 1) = (y : Int) := by
        rw [show (x : Int) - 1 = ((x - 1 : Nat) : Int) by omega, Go.u32_and_nat x (x - 1) (by omega) (by omega), AP]
      have W1 : IntKind.u32.wrap ((x : Int) - 1) = (x : Int) - 1 := by rw [IntKind.wrap_u32]; omega
      have xz : ¬ (x : Int) = 0 := by omega
      have xz' : ((x : Int) != 0) = true := by simpa using xz
      have NX := Lib.hid NX
      clear t3 t4 t5 hy hx hd ho AP h0 hp gl
      by_cases hm : d < (o : Int)
      · have S := Lib.hid (S.trans (Int.max_eq_right (by omega)))
        go_wp2_with (first | (go_at_call 10; (with_reducible refine (TZ1.out).mono ?_); rintro e w' ⟨rfl, rfl⟩) | (go_at_call 9; (with_reducible refine (OO.out _).mono ?_); rintro e w' ⟨rfl, rfl⟩))
        all_goals first | (exfalso; omega) | skip
        go_round
        case rel => exact ⟨t + 1, by rw [NX.out], by omega, by rw [S.out]⟩
        case measure => simp [intOf]; omega
      · have S := Lib.hid (S.trans (Int.max_eq_left (by omega)))
        go_wp2_with (first | (go_at_call 10; (with_reducible refine (TZ1.out).mono ?_); rintro e w' ⟨rfl, rfl⟩) | (go_at_call 9; (with_reducible refine (OO.out _).mono ?_); rintro e w' ⟨rfl, rfl⟩))
        all_goals first | (exfalso; omega) | skip
        go_round
        case rel => exact ⟨t + 1, by rw [NX.out], by omega, by rw [S.out]⟩
        case measure => simp [intOf]; omega
theorem walsh_Degree_bad (n : Int) (f : Int) (w : World) (f0 : 0 ≤ f) (f1 : f < 4294967296) (n1 : -9223372036854775808 ≤ n) (n2 : n ≤ 9223372036854775807) (h : ¬ Lw.okF n f) :
    Calls Tryd.prog 4 #[.int .i64 n, .int .u32 f] w fun e w' => e = .returned (.tuple #[.int .i64 0, .int .i64 2]) ∧ w = w' := by
  have OUT := Lib.hid (fun W => walsh_out_bad n f W f0 f1 n1 n2 h)
  clear h
  go_enter Tryd.func4, Tryd.ntmps4
  go_wp2_with (go_at_call 7; (with_reducible refine (OUT.out _).mono ?_); rintro e w' ⟨rfl, rfl⟩)
  go_ret2
  exact ⟨rfl, rfl⟩
set_option maxRecDepth 100000 in
set_option maxHeartbeats 2000000 in
theorem ref_Degree (n : Nat) (f : Int) (w : World) (hn : n < 6) (f0 : 0 ≤ f) (f1 : f < 4294967296) :
    Calls Tryd.prog 6 #[.int .i64 (n : Int), .int .u32 f] w fun e w' => e = .returned (.int .i64 (Lw.dM (Lw.packT (Lw.anfV f) (2 ^ n)).toNat 32)) ∧ w = w' := by
  have AN := fun W => ref_Anf n f W hn f0 f1
  have PB := Lw.pack_bd (Lw.anfV_bd f) (2 ^ n)
  have N32 := Lw.pow_32 n hn
  have SH := Lw.shl_pow n hn
  rw [IntWalk.i64_left] at SH
  have P32 := (Lw.pow_u32 (2 ^ n) (by omega)).1
  obtain ⟨G, hG⟩ := Int.eq_ofNat_of_zero_le PB.1
  rw [hG] at AN PB ⊢
  rw [Int.toNat_natCast]
  have DE : Hid (Lw.dM G (2 ^ n) = Lw.dM G 32) := by
    have h := PB.2
    have e : ((2 : Int) ^ (2 ^ n)) = ((2 ^ (2 ^ n) : Nat) : Int) := by rw [Int.natCast_pow]; rfl
    rw [e] at h
    exact (Lw.dM_zero (by omega) (by rw [Nat.div_eq_of_lt (by omega), Nat.zero_mul])).symm
  obtain ⟨N, hN⟩ : ∃ N, 2 ^ n = N := ⟨_, rfl⟩
  rw [hN] at N32 SH DE P32 PB
  obtain ⟨N1, N2⟩ := N32
  have GB : (G : Int) < 4294967296 := by omega
  have BT := Lib.hid (fun x W (h : x < 32) => ref_Bit (G : Int) x W (by omega) GB h)
  have ON := Lib.hid (fun x W (h : x < 64) => ref_Ones x W h)
  have OL := Lib.hid Lw.ones_le
  have DB := Lib.hid (Lw.dM_bd G)
  have DS : Hid (∀ t, Lw.dM G (t + 1) = if Lw.bitF (G : Int) t = 1 then max (Lw.dM G t) (Lw.onesF 6 t : Nat) else Lw.dM G t) := fun t => by
    have e : Lw.bitF (G : Int) t = ((G / 2 ^ t % 2 : Nat) : Int) := by
      unfold Lw.bitF
      have : ((G : Int) / 2 ^ t) = ((G / 2 ^ t : Nat) : Int) := by rw [Int.natCast_ediv, Int.natCast_pow]; rfl
      rw [this]; omega
    show (if G / 2 ^ t % 2 = 1 then max (Lw.dM G t) (Lw.onesF 6 t : Nat) else Lw.dM G t) = _
    rw [e]
    by_cases h : G / 2 ^ t % 2 = 1
    · rw [if_pos h, if_pos (by omega)]
    · rw [if_neg h, if_neg (by omega)]
  replace AN := Lib.hid AN
  clear hG PB P32 hN
  go_enter Tryd.func6, Tryd.ntmps6
  go_wp2_with (go_at_call 11; (with_reducible refine (AN.out _).mono ?_); rintro e w' ⟨rfl, rfl⟩)
  go_loop [6, 7] (fun d u => ∃ k : Nat, u = .int .i64 (k : Int) ∧ k ≤ N ∧ d = .int .i64 (Lw.dM G k)) (fun _ u => N - (intOf u).toNat)
  case atStart => exact ⟨0, rfl, by omega, rfl⟩
  case round =>
    obtain ⟨k, rfl, hk, rfl⟩ := hrel
    obtain ⟨d1, d2⟩ := DB.out k (by omega)
    by_cases hlt : k < N
    · have hlt' : (k : Int) < (N : Int) := by omega
      have S := DS.out k
      have BB := Lib.hid (fun W => BT.out k W (by omega))
      have OO := Lib.hid (fun W => ON.out k W (by omega))
      have o6 := OL.out k (by omega)
      obtain ⟨b1, b2⟩ := Lw.bitF_bd (G : Int) k
      obtain ⟨β, hβ⟩ : ∃ z, Lw.bitF (G : Int) k = z := ⟨_, rfl⟩
      obtain ⟨d, hd⟩ : ∃ z, Lw.dM G k = z := ⟨_, rfl⟩
      obtain ⟨o, ho⟩ : ∃ z, Lw.onesF 6 k = z := ⟨_, rfl⟩
      rw [hβ] at S BB b1 b2
      rw [hd] at d1 d2 S
      rw [ho] at OO o6 S
      rw [hd]
      clear hβ hd ho
      rcases (by omega : β = 0 ∨ β = 1) with e | e <;> subst e
      · have S := Lib.hid (S.trans (if_neg (by decide)))
        go_wp2_with (first | (go_at_call 12; (with_reducible refine (BB.out _).mono ?_); rintro e w' ⟨rfl, rfl⟩) | (go_at_call 13; (with_reducible refine (OO.out _).mono ?_); rintro e w' ⟨rfl, rfl⟩))
        go_round
        case rel => exact ⟨k + 1, by go_num, by omega, by rw [S.out]⟩
        case measure => simp [intOf]; omega
      · rw [if_pos rfl] at S
        by_cases hm : d < (o : Int)
        · have S := Lib.hid (S.trans (Int.max_eq_right (by omega)))
          go_wp2_with (first | (go_at_call 12; (with_reducible refine (BB.out _).mono ?_); rintro e w' ⟨rfl, rfl⟩) | (go_at_call 13; (with_reducible refine (OO.out _).mono ?_); rintro e w' ⟨rfl, rfl⟩))
          go_round
          case rel => exact ⟨k + 1, by go_num, by omega, by rw [S.out]⟩
          case measure => simp [intOf]; omega
        · have S := Lib.hid (S.trans (Int.max_eq_left (by omega)))
          have g1 : decide (d < (o : Int)) = false := decide_eq_false hm
          have g2 : ¬ d < (o : Int) := hm
          have g2 := Lib.hid g2
          clear hm o6 d1 d2 b1 b2
          go_wp2_with fail
          refine (BB.out _).mono ?_
          rintro e w' ⟨rfl, rfl⟩
          go_wp2_with fail
          refine (OO.out _).mono ?_
          rintro e w' ⟨rfl, rfl⟩
          go_wp2_with fail
          go_round
          case rel => exact ⟨k + 1, by go_num, by omega, by rw [S.out]⟩
          case measure => simp [intOf]; omega
    · have hkN : k = N := by omega
      subst hkN
      rw [DE.out]
      go_wp2_with fail
      go_ret
      exact ⟨rfl, rfl⟩
end Go.Proofs.YteeicpfjmahmeaaDoor
