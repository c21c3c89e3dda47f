/- walsh.Anf and the reference's Anf: parities of what lies below. -/
import Derived.Test.YteeicpfjmahmeaaDoorWas
namespace Lw
open Go Go.RowKit
def prA (a b : Int) : Int × Int := (a, (a + b) % 2)
def subT (g : Nat → Int) (u t : Nat) : Int := if t &&& u = t then g t else 0
theorem itrA_bd {g : Nat → Int} (h : ∀ i, 0 ≤ g i ∧ g i ≤ 1) : ∀ k i, 0 ≤ itr prA g k i ∧ itr prA g k i ≤ 1
  | 0, i => h i
  | k + 1, i => by
    have h1 := itrA_bd h k i
    show _ ≤ flyP prA k (itr prA g k) i ∧ flyP prA k (itr prA g k) i ≤ _
    unfold flyP
    split
    · show _ ≤ (itr prA g k (i - 2 ^ k) + itr prA g k i) % 2 ∧ (itr prA g k (i - 2 ^ k) + itr prA g k i) % 2 ≤ _
      omega
    · exact h1
theorem anf_one_a : ∀ k, k < 5 → ∀ i, i < 32 → i / 2 ^ k % 2 = 1 → (i - 2 ^ k) / 2 ^ k * 2 ^ k = i / 2 ^ (k + 1) * 2 ^ (k + 1) ∧ i / 2 ^ k * 2 ^ k = i / 2 ^ (k + 1) * 2 ^ (k + 1) + 2 ^ k := by decide
theorem anf_one_b : ∀ k, k < 5 → ∀ i, i < 32 → i / 2 ^ k % 2 = 1 → ∀ t, t < 2 ^ k → (t &&& (i - 2 ^ k) == t) = (t &&& i == t) := by decide
theorem anf_one_c : ∀ k, k < 5 → ∀ i, i < 32 → i / 2 ^ k % 2 = 1 → ∀ t, t < 2 ^ k → ((2 ^ k + t) &&& i == 2 ^ k + t) = (t &&& i == t) := by decide
theorem anf_one (k : Nat) (hk : k < 5) (i : Nat) (hi : i < 32) (hb : i / 2 ^ k % 2 = 1) : (i - 2 ^ k) / 2 ^ k * 2 ^ k = i / 2 ^ (k + 1) * 2 ^ (k + 1) ∧ i / 2 ^ k * 2 ^ k = i / 2 ^ (k + 1) * 2 ^ (k + 1) + 2 ^ k ∧ ∀ t, t < 2 ^ k → (t &&& (i - 2 ^ k) = t ↔ t &&& i = t) ∧ ((2 ^ k + t) &&& i = 2 ^ k + t ↔ t &&& i = t) := by
  obtain ⟨h1, h2⟩ := anf_one_a k hk i hi hb
  refine ⟨h1, h2, fun t ht => ?_⟩
  have h3 := anf_one_b k hk i hi hb t ht
  have h4 := anf_one_c k hk i hi hb t ht
  rw [Bool.eq_iff_iff] at h3 h4
  simp only [beq_iff_eq] at h3 h4
  exact ⟨h3, h4⟩
theorem anf_zero : ∀ k, k < 5 → ∀ i, i < 32 → i / 2 ^ k % 2 = 0 → i / 2 ^ k * 2 ^ k = i / 2 ^ (k + 1) * 2 ^ (k + 1) ∧ ∀ t, t < 2 ^ k → ¬ (2 ^ k + t) &&& i = 2 ^ k + t := by decide
theorem sumT_zero {m : Nat} {f : Nat → Int} (h : ∀ t, t < m → f t = 0) : sumT m f = 0 := by
  induction m with
  | zero => rfl
  | succ k ih =>
    show sumT k f + f k = 0
    rw [ih fun t ht => h t (by omega), h k (by omega)]; rfl
theorem itrA_sum {g : Nat → Int} (hg : ∀ i, 0 ≤ g i ∧ g i ≤ 1) : ∀ k, k < 6 → ∀ i, i < 32 → itr prA g k i = (sumT (2 ^ k) fun t => if t &&& i = t then g (i / 2 ^ k * 2 ^ k + t) else 0) % 2
  | 0, _, i, _ => by
    show g i = (0 + if 0 &&& i = 0 then g (i / 1 * 1 + 0) else 0) % 2
    rw [if_pos (Nat.zero_and i), Nat.div_one, Nat.mul_one, Nat.add_zero]
    have := hg i; omega
  | k + 1, hk, i, hi => by
    show flyP prA k (itr prA g k) i = _
    unfold flyP
    rw [show (2 : Nat) ^ (k + 1) = 2 ^ k + 2 ^ k by rw [Nat.pow_succ]; omega, sumT_add]
    have e2 : (2 : Nat) ^ k + 2 ^ k = 2 ^ (k + 1) := by rw [Nat.pow_succ]; omega
    rw [e2]
    split
    · rename_i hb
      obtain ⟨h1, h2, h3⟩ := anf_one k (by omega) i hi hb
      show (itr prA g k (i - 2 ^ k) + itr prA g k i) % 2 = _
      rw [itrA_sum hg k (by omega) i hi, itrA_sum hg k (by omega) (i - 2 ^ k) (by have := Nat.sub_le i (2 ^ k); omega), h1, h2, ← Int.add_emod]
      congr 2
      · exact sumT_congr fun t ht => by simp only [(h3 t ht).1]
      · exact sumT_congr fun t ht => by simp only [(h3 t ht).2, Nat.add_assoc]
    · rename_i hb
      obtain ⟨h1, h2⟩ := anf_zero k (by omega) i hi (by omega)
      show itr prA g k i = _
      rw [itrA_sum hg k (by omega) i hi, h1, sumT_zero (m := 2 ^ k) (f := fun t => if (2 ^ k + t) &&& i = 2 ^ k + t then g (i / 2 ^ (k + 1) * 2 ^ (k + 1) + (2 ^ k + t)) else 0) (fun t ht => if_neg (h2 t ht)), Int.add_zero]
def anfV (f : Int) (u : Nat) : Int := sumT (u + 1) (subT (bitF f) u) % 2
theorem anf_eq {n : Nat} {f : Int} (hn : n < 6) {u : Nat} (hu : u < 2 ^ n) : itr prA (bitF f) n u = anfV f u := by
  have := pow_32 n hn
  rw [itrA_sum (bitF_bd f) n hn u (by omega), Nat.div_eq_of_lt hu]
  unfold anfV
  obtain ⟨r, hr⟩ : ∃ r, 2 ^ n = u + 1 + r := ⟨2 ^ n - (u + 1), by omega⟩
  rw [hr, sumT_add, sumT_zero (m := r), Int.add_zero]
  · congr 1
    exact sumT_congr fun t _ => by unfold subT; rw [Nat.zero_mul, Nat.zero_add]
  · intro t _
    rw [if_neg]
    intro e
    have : (u + 1 + t) &&& u ≤ u := Nat.and_le_right
    omega
def packT (h : Nat → Int) : Nat → Int
  | 0 => 0
  | m + 1 => packT h m + h m * 2 ^ m
theorem pack_congr {h h' : Nat → Int} : ∀ m, (∀ i, i < m → h i = h' i) → packT h m = packT h' m
  | 0, _ => rfl
  | m + 1, e => by unfold packT; rw [pack_congr m fun i hi => e i (by omega), e m (by omega)]
theorem pack_bd {h : Nat → Int} (hh : ∀ i, 0 ≤ h i ∧ h i ≤ 1) : ∀ m, 0 ≤ packT h m ∧ packT h m < 2 ^ m
  | 0 => ⟨Int.le_refl _, by show (0 : Int) < 2 ^ 0; decide⟩
  | m + 1 => by
    have h1 := pack_bd hh m
    have h2 := hh m
    show 0 ≤ packT h m + h m * 2 ^ m ∧ packT h m + h m * 2 ^ m < 2 ^ (m + 1)
    rw [Int.pow_succ]
    rcases (by omega : h m = 0 ∨ h m = 1) with e | e <;> rw [e] <;> omega
theorem pow_u32 : ∀ m, m < 33 → (2 : Int) ^ m ≤ 4294967296 ∧ (0 : Int) < 2 ^ m := by decide
theorem pow_n32 : ∀ m, m < 32 → 2 ^ m ≤ 2147483648 := by decide
theorem or_pack {a b : Int} {m : Nat} (hm : m < 32) (a0 : 0 ≤ a) (a1 : a < 2 ^ m) (hb : b = 0 ∨ b = 1) : bits .or .u32 a (b * 2 ^ m) = a + b * 2 ^ m := by
  obtain ⟨n, rfl⟩ := Int.eq_ofNat_of_zero_le a0
  have e : ((2 : Int) ^ m) = ((2 ^ m : Nat) : Int) := by rw [Int.natCast_pow]; rfl
  have p2 := pow_n32 m hm
  rw [e] at a1 ⊢
  have a2 : n < 2 ^ m := by omega
  have := Nat.two_pow_add_eq_or_of_lt (b := n) (i := m) a2 1
  rw [Nat.mul_one] at this
  generalize 2 ^ m = P at *
  rcases hb with h | h <;> rw [h]
  · rw [Int.zero_mul, Int.add_zero, show (0 : Int) = ((0 : Nat) : Int) from rfl, Go.u32_or_nat n 0 (by omega) (by omega), Nat.or_zero]
  · rw [Int.one_mul, Go.u32_or_nat n P (by omega) (by omega), Nat.or_comm, ← this]
    omega
theorem anfV_bd (f : Int) (u : Nat) : 0 ≤ anfV f u ∧ anfV f u ≤ 1 := by unfold anfV; omega
theorem sub_bd {g : Nat → Int} (hg : ∀ i, 0 ≤ g i ∧ g i ≤ 1) (u : Nat) : ∀ m : Nat, 0 ≤ sumT m (subT g u) ∧ sumT m (subT g u) ≤ m
  | 0 => ⟨Int.le_refl _, Int.le_refl _⟩
  | m + 1 => by
    have h1 := sub_bd hg u m
    have h2 := hg m
    show 0 ≤ sumT m (subT g u) + subT g u m ∧ sumT m (subT g u) + subT g u m ≤ _
    have : 0 ≤ subT g u m ∧ subT g u m ≤ 1 := by unfold subT; split <;> omega
    omega
end Lw
set_option linter.unusedVariables false
set_option linter.unusedSimpArgs false
namespace Go.Proofs.YteeicpfjmahmeaaDoor
open Go.RowKit
theorem anf_pair (a b : Int) (w : World) (h1 : 0 ≤ a ∧ a ≤ 1) (h2 : 0 ≤ b ∧ b ≤ 1) :
    Calls Tryd.prog 15 #[.int .i64 a, .int .i64 b] w fun e w' => e = .returned (.tuple #[.int .i64 (Lw.prA a b).1, .int .i64 (Lw.prA a b).2]) ∧ w = w' := by
  have X : bits BinOp.xor IntKind.i64 a b = (a + b) % 2 := by
    obtain ⟨x, rfl⟩ := Int.eq_ofNat_of_zero_le h1.1
    obtain ⟨y, rfl⟩ := Int.eq_ofNat_of_zero_le h2.1
    rcases (by omega : x = 0 ∨ x = 1) with h | h <;> rcases (by omega : y = 0 ∨ y = 1) with h' | h' <;> subst h <;> subst h' <;> decide
  have E : Lw.prA a b = (a, (a + b) % 2) := rfl
  rw [E]
  clear E
  go_enter Tryd.func15, Tryd.ntmps15
  go_wp2
  go_ret2
  exact ⟨by first | rfl | simp [X], rfl⟩
set_option maxHeartbeats 4000000 in
theorem walsh_fly_anf (pr : Int → Int → Int × Int) (B : Int → Prop) (H : ∀ a b W, B a → B b → Calls Tryd.prog 15 #[.int .i64 a, .int .i64 b] W fun e w' => e = .returned (.tuple #[.int .i64 (pr a b).1, .int .i64 (pr a b).2]) ∧ W = w') (n : Nat) (hn : n < 6) (g : Nat → Int) (hB : ∀ k i, k ≤ n → i < 2 ^ n → B (Lw.itr pr g k i))
    (b : Nat) (w : World) (own : w.ownsRow b 3 1 (.slice (some ⟨b, 0, none⟩) (2 ^ n) (2 ^ n)) (2 ^ n) (Lw.intsV .i64 (Lw.rowF (2 ^ n) g))) (w0 : World) (hw0 : Below b w0 w) :
    Calls Tryd.prog 14 #[.int .i64 (n : Int), .slice (some ⟨b, 0, none⟩) (2 ^ n) (2 ^ n), .func (.func 15) #[] #[]] w fun e w' => w'.ownsRow b 3 1 (.slice (some ⟨b, 0, none⟩) (2 ^ n) (2 ^ n)) (2 ^ n) (Lw.intsV .i64 (Lw.rowF (2 ^ n) (Lw.itr pr g n))) ∧ Below b w0 w' ∧ ∃ v, e = .returned v := by
  have OWN0 := Lib.hid own
  clear own
  obtain ⟨N, hN⟩ : ∃ N, 2 ^ n = N := ⟨_, rfl⟩
  rw [hN] at hB OWN0 ⊢
  have N32 := Lw.pow_32 n hn
  rw [hN] at N32
  have BI := Lib.hid (Lw.bit_in n hn)
  rw [hN] at BI
  have HBD := Lib.hid hB
  have HC := Lib.hid H
  have HN := Lib.hid hN
  clear hB H hN
  go_enter Tryd.func14, Tryd.ntmps14
  go_wp2_with fail
  go_loopw [6, 10] (fun kk k wr => ∃ j : Nat, k = .int .i64 (j : Int) ∧ j ≤ n ∧ wr.ownsRow b 3 1 (.slice (some ⟨b, 0, none⟩) N N) N (Lw.intsV .i64 (Lw.rowF N (Lw.itr pr g j))) ∧ Below b w0 wr) (fun _ k _ => n - (intOf k).toNat)
  case atStart => exact ⟨0, rfl, by omega, OWN0.out, hw0⟩
  case round =>
    clear OWN0 hw0
    obtain ⟨j, rfl, hj, own, hB⟩ := hrel
    by_cases hlt : j < n
    · have OWN := Lib.hid own
      clear own
      obtain ⟨N1, N2⟩ := N32
      go_wp2_with fail
      go_loopw [7, 8, 15] (fun xx yy x wr => ∃ i : Nat, x = .int .i64 (i : Int) ∧ i ≤ N ∧ wr.ownsRow b 3 1 (.slice (some ⟨b, 0, none⟩) N N) N (Lw.intsV .i64 (Lw.rowF N (Lw.flyM pr j i (Lw.itr pr g j)))) ∧ Below b w0 wr) (fun _ _ x _ => N - (intOf x).toNat)
      case atStart => exact ⟨0, rfl, by omega, by rw [Lw.flyM_zero]; exact OWN.out, hB⟩
      case round =>
        clear OWN hB
        obtain ⟨i, rfl, hi, own, hB⟩ := hrel
        by_cases hil : i < N
        · have j5 : j < 5 := by omega
          have i32 : i < 32 := by omega
          have OR := Lw.or_bits j j5 i i32
          have OWN := Lib.hid own
          clear own
          rcases (show i / 2 ^ j % 2 = 1 ∨ i / 2 ^ j % 2 = 0 by omega) with hb | hb
          · rw [if_pos hb] at OR
            have NX := Lib.hid (Lw.flyM_skip (pr := pr) (g := Lw.itr pr g j) j5 N1 hb)
            have OR : bits BinOp.or IntKind.i64 ((i : Nat) : Int) (wrap64 (2 ^ j)) = ((i : Nat) : Int) := by rw [← IntWalk.i64_left]; exact OR
            have ne : (bits BinOp.or IntKind.i64 ((i : Nat) : Int) (wrap64 (2 ^ j)) != ((i : Nat) : Int)) = false := by rw [OR]; simp
            clear hb
            go_wp2_with fail
            go_roundw
            case rel => exact ⟨i + 1, by go_num, by omega, by rw [NX.out]; exact OWN.out, hB⟩
            case measure => simp [intOf]; omega
          · rw [if_neg (by omega)] at OR
            have NX := Lw.flyM_step (pr := pr) (g := Lw.itr pr g j) j5 N1 i32 hb
            obtain ⟨e1, e2⟩ := Lw.flyM_at (pr := pr) (g := Lw.itr pr g j) j5 i32 hb
            have hyN := BI.out j hlt i hil hb
            have hp2 : 0 < 2 ^ j := Nat.two_pow_pos j
            have B1 := HBD.out j i (by omega) hil
            have B2 := HBD.out j (i + 2 ^ j) (by omega) hyN
            obtain ⟨y, hy⟩ : ∃ y, i + 2 ^ j = y := ⟨_, rfl⟩
            rw [hy] at NX e2 hyN B2 OR
            have OR : bits BinOp.or IntKind.i64 ((i : Nat) : Int) (wrap64 (2 ^ j)) = ((y : Nat) : Int) := by rw [← IntWalk.i64_left]; exact OR
            have ne : ((y : Nat) : Int) ≠ ((i : Nat) : Int) := by omega
            have ne : (bits BinOp.or IntKind.i64 ((i : Nat) : Int) (wrap64 (2 ^ j)) != ((i : Nat) : Int)) = true := by rw [OR]; simpa using ne
            obtain ⟨G, hG⟩ : ∃ G, Lw.flyM pr j i (Lw.itr pr g j) = G := ⟨_, rfl⟩
            rw [hG] at e1 e2 NX OWN
            rw [← e1, ← e2] at NX
            rw [← e1] at B1
            rw [← e2] at B2
            have G1 : (Lw.intsV .i64 (Lw.rowF N G))[i]? = some (.int .i64 (G i)) := by rw [Lw.intsV, List.getElem?_map, Lw.rowF_get hil]; rfl
            have G2 : (Lw.intsV .i64 (Lw.rowF N G))[y]? = some (.int .i64 (G y)) := by rw [Lw.intsV, List.getElem?_map, Lw.rowF_get hyN]; rfl
            have hyi : y ≠ i := by omega
            obtain ⟨a1, ha1⟩ : ∃ z, G i = z := ⟨_, rfl⟩
            obtain ⟨a2, ha2⟩ : ∃ z, G y = z := ⟨_, rfl⟩
            rw [ha1] at B1 NX G1
            rw [ha2] at B2 NX G2
            have CL := Lib.hid (fun W => HC.out a1 a2 W B1 B2)
            obtain ⟨r1, hr1⟩ : ∃ z, (pr a1 a2).1 = z := ⟨_, rfl⟩
            obtain ⟨r2, hr2⟩ : ∃ z, (pr a1 a2).2 = z := ⟨_, rfl⟩
            rw [hr1, hr2] at NX CL
            have OD := OWN.out
            obtain ⟨c0, f0, hg0, hgl⟩ := Lw.own_cell (i := i) OD G1
            obtain ⟨c2, f2, hg2, hgl2⟩ := Lw.own_cell (i := y) OD G2
            have OW1 := Lw.own_set (v := .int .i64 r1) OD hil
            have G3 : ((Lw.intsV .i64 (Lw.rowF N G)).set i (.int .i64 r1))[y]? = some (.int .i64 a2) := by rw [List.getElem?_set_ne (fun e => hyi e.symm)]; exact G2
            obtain ⟨c4, f4, hg4, hgl4⟩ := Lw.own_cell (i := y) OW1 G3
            have OW2 := Lib.hid (Lw.own_set (v := .int .i64 r2) OW1 hyN)
            have NX := Lib.hid NX
            have hiN : (i : Int) < (N : Int) := by omega
            have hyN' : (y : Int) < (N : Int) := by omega
            clear hb hy e1 e2 hG ha1 ha2 hr1 hr2 G1 G2 G3 OW1 OD OWN HC HBD BI hp2
            go_wp2_with fail
            have SX : True ∧ True ∧ True ∧ True := ⟨trivial, trivial, trivial, trivial⟩
            refine wp_region_held_drew (S := fun _ => True ∧ True ∧ True ∧ True) (by kernel_rfl) SX (fun hHeld => ?_)
            (refine Lw.take1 (i := 0) (v := ?_) rfl (by kernel_rfl) (by kernel_rfl) (by kernel_rfl) (fun _ _ _ h => h) (Or.inl ⟨by rfl, ?_⟩) (by assumption) ?_; rotate_left 1; (focus (intro wS hSw; obtain ⟨hS1, hS2, hS3, hS4⟩ := hSw; go_simp <;> with_reducible rfl)); (try simp only [Act.put, List.setIfInBounds_toArray, List.set_cons_zero, List.set_cons_succ]))
            (refine Lw.take1 (i := 1) (v := ?_) rfl (by kernel_rfl) (by kernel_rfl) (by kernel_rfl) (fun _ _ _ h => h) (Or.inl ⟨by rfl, ?_⟩) (by assumption) ?_; rotate_left 1; (focus (intro wS hSw; obtain ⟨hS1, hS2, hS3, hS4⟩ := hSw; go_simp <;> with_reducible rfl)); (try simp only [Act.put, List.setIfInBounds_toArray, List.set_cons_zero, List.set_cons_succ]))
            (refine Lw.take1 (i := 2) (v := ?_) rfl (by kernel_rfl) (by kernel_rfl) (by kernel_rfl) (fun _ _ _ h => h) (Or.inl ⟨by rfl, ?_⟩) (by assumption) ?_; rotate_left 1; (focus (intro wS hSw; obtain ⟨hS1, hS2, hS3, hS4⟩ := hSw; go_simp <;> with_reducible rfl)); (try simp only [Act.put, List.setIfInBounds_toArray, List.set_cons_zero, List.set_cons_succ]))
            (refine Lw.take1 (i := 3) (v := ?_) rfl (by kernel_rfl) (by kernel_rfl) (by kernel_rfl) (fun _ _ _ h => h) (Or.inl ⟨by rfl, ?_⟩) (by assumption) ?_; rotate_left 1; (focus (intro wS hSw; obtain ⟨hS1, hS2, hS3, hS4⟩ := hSw; go_simp <;> with_reducible rfl)); (try simp only [Act.put, List.setIfInBounds_toArray, List.set_cons_zero, List.set_cons_succ]))
            (refine Lw.take1 (i := 4) (v := ?_) rfl (by kernel_rfl) (by kernel_rfl) (by kernel_rfl) (fun _ _ _ h => h) (Or.inl ⟨by rfl, ?_⟩) (by assumption) ?_; rotate_left 1; (focus (intro wS hSw; obtain ⟨hS1, hS2, hS3, hS4⟩ := hSw; go_simp <;> with_reducible rfl)); (try simp only [Act.put, List.setIfInBounds_toArray, List.set_cons_zero, List.set_cons_succ]))
            (refine Lw.take1 (i := 5) (v := ?_) rfl (by kernel_rfl) (by kernel_rfl) (by kernel_rfl) (fun _ _ _ h => h) (Or.inl ⟨by rfl, ?_⟩) (by assumption) ?_; rotate_left 1; (focus (intro wS hSw; obtain ⟨hS1, hS2, hS3, hS4⟩ := hSw; go_simp <;> with_reducible rfl)); (try simp only [Act.put, List.setIfInBounds_toArray, List.set_cons_zero, List.set_cons_succ]))
            (refine Lw.take1 (i := 6) (v := ?_) rfl (by kernel_rfl) (by kernel_rfl) (by kernel_rfl) (fun _ _ _ h => h) (Or.inl ⟨by rfl, ?_⟩) (by assumption) ?_; rotate_left 1; (focus (intro wS hSw; obtain ⟨hS1, hS2, hS3, hS4⟩ := hSw; go_simp <;> with_reducible rfl)); (try simp only [Act.put, List.setIfInBounds_toArray, List.set_cons_zero, List.set_cons_succ]))
            (refine Lw.take1 (i := 7) (v := ?_) rfl (by kernel_rfl) (by kernel_rfl) (by kernel_rfl) (fun _ _ _ h => h) (Or.inl ⟨by rfl, ?_⟩) (by assumption) ?_; rotate_left 1; (focus (intro wS hSw; obtain ⟨hS1, hS2, hS3, hS4⟩ := hSw; go_simp <;> with_reducible rfl)); (try simp only [Act.put, List.setIfInBounds_toArray, List.set_cons_zero, List.set_cons_succ]))
            (refine Lw.take1 (i := 9) (v := ?_) rfl (by kernel_rfl) (by kernel_rfl) (by kernel_rfl) (fun _ _ _ h => h) (Or.inl ⟨by rfl, ?_⟩) (by assumption) ?_; rotate_left 1; (focus (intro wS hSw; obtain ⟨hS1, hS2, hS3, hS4⟩ := hSw; go_simp <;> with_reducible rfl)); (try simp only [Act.put, List.setIfInBounds_toArray, List.set_cons_zero, List.set_cons_succ]))
            (refine Lw.take1 (i := 10) (v := ?_) rfl (by kernel_rfl) (by kernel_rfl) (by kernel_rfl) (fun _ _ _ h => h) (Or.inl ⟨by rfl, ?_⟩) (by assumption) ?_; rotate_left 1; (focus (intro wS hSw; obtain ⟨hS1, hS2, hS3, hS4⟩ := hSw; go_simp <;> with_reducible rfl)); (try simp only [Act.put, List.setIfInBounds_toArray, List.set_cons_zero, List.set_cons_succ]))
            (refine Lw.take1 (i := 11) (v := ?_) rfl (by kernel_rfl) (by kernel_rfl) (by kernel_rfl) (fun _ _ _ h => h) (Or.inl ⟨by rfl, ?_⟩) (by assumption) ?_; rotate_left 1; (focus (intro wS hSw; obtain ⟨hS1, hS2, hS3, hS4⟩ := hSw; go_simp <;> with_reducible rfl)); (try simp only [Act.put, List.setIfInBounds_toArray, List.set_cons_zero, List.set_cons_succ]))
            refine wpAnyH_ready (rs := [8, 12]) (by kernel_rfl) (by simp) ?_
            refine Lw.cons1 (i := 8) rfl (fun K hK => ?_) (Lw.cons1 (i := 12) rfl (fun K hK => ?_) AllReadyH.nil)
            · (go_simp; refine hK.out _ _ ?_ (fun hHeld => ?_); (focus exact SX); clear hK K; (try simp only [Act.put, List.setIfInBounds_toArray, List.set_cons_zero, List.set_cons_succ]))
              refine wpAnyH_ready (rs := [12]) (by kernel_rfl) (by simp) ?_
              refine Lw.cons1 (i := 12) rfl (fun K hK => ?_) AllReadyH.nil
              (go_simp; refine hK.out _ _ ?_ (fun hHeld => ?_); (focus exact SX); clear hK K; (try simp only [Act.put, List.setIfInBounds_toArray, List.set_cons_zero, List.set_cons_succ]))
              (refine wpAnyH_ready (rs := [13]) (by kernel_rfl) (by simp) ?_; refine Lw.cons1 (i := 13) rfl (fun K hK => ?_) AllReadyH.nil; go_simp; go_at_call 15; (with_reducible refine (CL.out _).mono ?_); rintro e w' ⟨rfl, rfl⟩; refine hK.out _ _ ?_ (fun hHeld => ?_); (focus exact SX); clear hK K; (try simp only [Act.put, List.setIfInBounds_toArray, List.set_cons_zero, List.set_cons_succ]))
              (refine Lw.take1 (i := 14) (v := ?_) rfl (by kernel_rfl) (by kernel_rfl) (by kernel_rfl) (fun _ _ _ h => h) (Or.inl ⟨by rfl, ?_⟩) (by assumption) ?_; rotate_left 1; (focus (intro wS hSw; obtain ⟨hS1, hS2, hS3, hS4⟩ := hSw; go_simp <;> with_reducible rfl)); (try simp only [Act.put, List.setIfInBounds_toArray, List.set_cons_zero, List.set_cons_succ]))
              (refine Lw.take1 (i := 15) (v := ?_) rfl (by kernel_rfl) (by kernel_rfl) (by kernel_rfl) (fun _ _ _ h => h) (Or.inl ⟨by rfl, ?_⟩) (by assumption) ?_; rotate_left 1; (focus (intro wS hSw; obtain ⟨hS1, hS2, hS3, hS4⟩ := hSw; go_simp <;> with_reducible rfl)); (try simp only [Act.put, List.setIfInBounds_toArray, List.set_cons_zero, List.set_cons_succ]))
              (refine Lw.take1 (i := 16) (v := ?_) rfl (by kernel_rfl) (by kernel_rfl) (by kernel_rfl) (fun _ _ _ h => h) (Or.inl ⟨by rfl, ?_⟩) (by assumption) ?_; rotate_left 1; (focus (intro wS hSw; obtain ⟨hS1, hS2, hS3, hS4⟩ := hSw; go_simp <;> with_reducible rfl)); (try simp only [Act.put, List.setIfInBounds_toArray, List.set_cons_zero, List.set_cons_succ]))
              (refine Lw.take1 (i := 17) (v := ?_) rfl (by kernel_rfl) (by kernel_rfl) (by kernel_rfl) (fun _ _ _ h => h) (Or.inl ⟨by rfl, ?_⟩) (by assumption) ?_; rotate_left 1; (focus (intro wS hSw; obtain ⟨hS1, hS2, hS3, hS4⟩ := hSw; go_simp <;> with_reducible rfl)); (try simp only [Act.put, List.setIfInBounds_toArray, List.set_cons_zero, List.set_cons_succ]))
              (refine wpAnyH_ready (rs := [18]) (by kernel_rfl) (by simp) ?_; refine Lw.cons1 (i := 18) rfl (fun K hK => ?_) AllReadyH.nil; go_simp; refine hK.out _ _ ?_ (fun hHeld => ?_); (focus exact SX); clear hK K; (try simp only [Act.put, List.setIfInBounds_toArray, List.set_cons_zero, List.set_cons_succ]))
              (refine Lw.take1 (i := 19) (v := ?_) rfl (by kernel_rfl) (by kernel_rfl) (by kernel_rfl) (fun _ _ _ h => h) (Or.inl ⟨by rfl, ?_⟩) (by assumption) ?_; rotate_left 1; (focus (intro wS hSw; obtain ⟨hS1, hS2, hS3, hS4⟩ := hSw; go_simp <;> with_reducible rfl)); (try simp only [Act.put, List.setIfInBounds_toArray, List.set_cons_zero, List.set_cons_succ]))
              (refine wpAnyH_ready (rs := [20]) (by kernel_rfl) (by simp) ?_; refine Lw.cons1 (i := 20) rfl (fun K hK => ?_) AllReadyH.nil; go_simp; refine hK.out _ _ ?_ (fun hHeld => ?_); (focus exact SX); clear hK K; (try simp only [Act.put, List.setIfInBounds_toArray, List.set_cons_zero, List.set_cons_succ]))
              refine wpAnyH_done (by kernel_rfl) ?_ _
              go_wp2
              go_roundw
              case rel => exact ⟨i + 1, by go_num, by omega, by rw [← NX.out]; have := OW2.out; rw [Lw.intsV, ← List.map_set, ← List.map_set] at this; exact this, by first | exact (Below.drew (hB.setCell (Nat.le_refl b) _)).setCell (Nat.le_refl b) _ | exact ((Below.drew hB).setCell (Nat.le_refl b) _).setCell (Nat.le_refl b) _ | exact Below.drew ((hB.setCell (Nat.le_refl b) _).setCell (Nat.le_refl b) _)⟩
              case measure => simp [intOf]; omega
            · (go_simp; refine hK.out _ _ ?_ (fun hHeld => ?_); (focus exact SX); clear hK K; (try simp only [Act.put, List.setIfInBounds_toArray, List.set_cons_zero, List.set_cons_succ]))
              refine wpAnyH_ready (rs := [8]) (by kernel_rfl) (by simp) ?_
              refine Lw.cons1 (i := 8) rfl (fun K hK => ?_) AllReadyH.nil
              (go_simp; refine hK.out _ _ ?_ (fun hHeld => ?_); (focus exact SX); clear hK K; (try simp only [Act.put, List.setIfInBounds_toArray, List.set_cons_zero, List.set_cons_succ]))
              (refine wpAnyH_ready (rs := [13]) (by kernel_rfl) (by simp) ?_; refine Lw.cons1 (i := 13) rfl (fun K hK => ?_) AllReadyH.nil; go_simp; go_at_call 15; (with_reducible refine (CL.out _).mono ?_); rintro e w' ⟨rfl, rfl⟩; refine hK.out _ _ ?_ (fun hHeld => ?_); (focus exact SX); clear hK K; (try simp only [Act.put, List.setIfInBounds_toArray, List.set_cons_zero, List.set_cons_succ]))
              (refine Lw.take1 (i := 14) (v := ?_) rfl (by kernel_rfl) (by kernel_rfl) (by kernel_rfl) (fun _ _ _ h => h) (Or.inl ⟨by rfl, ?_⟩) (by assumption) ?_; rotate_left 1; (focus (intro wS hSw; obtain ⟨hS1, hS2, hS3, hS4⟩ := hSw; go_simp <;> with_reducible rfl)); (try simp only [Act.put, List.setIfInBounds_toArray, List.set_cons_zero, List.set_cons_succ]))
              (refine Lw.take1 (i := 15) (v := ?_) rfl (by kernel_rfl) (by kernel_rfl) (by kernel_rfl) (fun _ _ _ h => h) (Or.inl ⟨by rfl, ?_⟩) (by assumption) ?_; rotate_left 1; (focus (intro wS hSw; obtain ⟨hS1, hS2, hS3, hS4⟩ := hSw; go_simp <;> with_reducible rfl)); (try simp only [Act.put, List.setIfInBounds_toArray, List.set_cons_zero, List.set_cons_succ]))
              (refine Lw.take1 (i := 16) (v := ?_) rfl (by kernel_rfl) (by kernel_rfl) (by kernel_rfl) (fun _ _ _ h => h) (Or.inl ⟨by rfl, ?_⟩) (by assumption) ?_; rotate_left 1; (focus (intro wS hSw; obtain ⟨hS1, hS2, hS3, hS4⟩ := hSw; go_simp <;> with_reducible rfl)); (try simp only [Act.put, List.setIfInBounds_toArray, List.set_cons_zero, List.set_cons_succ]))
              (refine Lw.take1 (i := 17) (v := ?_) rfl (by kernel_rfl) (by kernel_rfl) (by kernel_rfl) (fun _ _ _ h => h) (Or.inl ⟨by rfl, ?_⟩) (by assumption) ?_; rotate_left 1; (focus (intro wS hSw; obtain ⟨hS1, hS2, hS3, hS4⟩ := hSw; go_simp <;> with_reducible rfl)); (try simp only [Act.put, List.setIfInBounds_toArray, List.set_cons_zero, List.set_cons_succ]))
              (refine wpAnyH_ready (rs := [18]) (by kernel_rfl) (by simp) ?_; refine Lw.cons1 (i := 18) rfl (fun K hK => ?_) AllReadyH.nil; go_simp; refine hK.out _ _ ?_ (fun hHeld => ?_); (focus exact SX); clear hK K; (try simp only [Act.put, List.setIfInBounds_toArray, List.set_cons_zero, List.set_cons_succ]))
              (refine Lw.take1 (i := 19) (v := ?_) rfl (by kernel_rfl) (by kernel_rfl) (by kernel_rfl) (fun _ _ _ h => h) (Or.inl ⟨by rfl, ?_⟩) (by assumption) ?_; rotate_left 1; (focus (intro wS hSw; obtain ⟨hS1, hS2, hS3, hS4⟩ := hSw; go_simp <;> with_reducible rfl)); (try simp only [Act.put, List.setIfInBounds_toArray, List.set_cons_zero, List.set_cons_succ]))
              (refine wpAnyH_ready (rs := [20]) (by kernel_rfl) (by simp) ?_; refine Lw.cons1 (i := 20) rfl (fun K hK => ?_) AllReadyH.nil; go_simp; refine hK.out _ _ ?_ (fun hHeld => ?_); (focus exact SX); clear hK K; (try simp only [Act.put, List.setIfInBounds_toArray, List.set_cons_zero, List.set_cons_succ]))
              refine wpAnyH_done (by kernel_rfl) ?_ _
              go_wp2
              go_roundw
              case rel => exact ⟨i + 1, by go_num, by omega, by rw [← NX.out]; have := OW2.out; rw [Lw.intsV, ← List.map_set, ← List.map_set] at this; exact this, by first | exact (Below.drew (hB.setCell (Nat.le_refl b) _)).setCell (Nat.le_refl b) _ | exact ((Below.drew hB).setCell (Nat.le_refl b) _).setCell (Nat.le_refl b) _ | exact Below.drew ((hB.setCell (Nat.le_refl b) _).setCell (Nat.le_refl b) _)⟩
              case measure => simp [intOf]; omega
        · have hiN : i = N := by omega
          subst hiN
          rw [Lw.flyM_end] at own
          have OWN := Lib.hid own
          clear own
          go_wp2_with fail
          go_roundw
          case rel => exact ⟨j + 1, by go_num, by omega, OWN.out, hB⟩
          case measure => simp [intOf]; omega
    · have hjn : j = n := by omega
      subst hjn
      have OWN := Lib.hid own
      clear own
      go_wp2_with fail
      refine ⟨rfl, .tuple #[], results_none rfl _ _ _, OWN.out, hB, _, rfl⟩

set_option maxRecDepth 100000 in
set_option maxHeartbeats 2000000 in
theorem walsh_anf (n : Nat) (f : Int) (w : World) (hn : n < 6) (f0 : 0 ≤ f) (f1 : f < 4294967296) :
    Calls Tryd.prog 8 #[.int .i64 (n : Int), .int .u32 f] w fun e w' => e = .returned (.int .u32 (Lw.packT (Lw.anfV f) (2 ^ n))) ∧ Below w.heap.size w w' := by
  have N32 := Lw.pow_32 n hn
  have SH := Lw.shl_pow n hn
  rw [IntWalk.i64_left] at SH
  have FL := Lib.hid (fun W own => walsh_fly_anf Lw.prA (fun x => 0 ≤ x ∧ x ≤ 1) (fun a b W h1 h2 => anf_pair a b W h1 h2) n hn (Lw.bitF f) (fun k i hk _ => Lw.itrA_bd (Lw.bitF_bd f) k i) w.heap.size W own w)
  have EQ := Lib.hid (Lw.rowF_congr (N := 2 ^ n) fun u hu => Lw.anf_eq (f := f) hn hu)
  obtain ⟨N, hN⟩ : ∃ N, 2 ^ n = N := ⟨_, rfl⟩
  rw [hN] at N32 SH FL EQ ⊢
  rw [EQ.out] at FL
  obtain ⟨N1, N2⟩ := N32
  have n5 : n ≤ 5 := by omega
  clear hn hN EQ
  have PB := Lib.hid (Lw.pack_bd (Lw.anfV_bd f))
  have PS : Hid (∀ m, Lw.packT (Lw.anfV f) (m + 1) = Lw.packT (Lw.anfV f) m + Lw.anfV f m * 2 ^ m) := fun _ => rfl
  have AB := Lib.hid (Lw.anfV_bd f)
  have M : ∀ w : World, (Instr.makeSlice 35 (.int .i64 (N : Int)) (.int .i64 (N : Int))).run Tryd.prog w = .ok (.slice (some ⟨w.heap.size, 0, none⟩) N N) (w.alloc (.cells (List.replicate N (Value.int .i64 0)).toArray 3)) := fun w => Lw.run_mk elInts rfl .i64 .i64 N (by omega) w
  have hg1 : (w.alloc (.cells (List.replicate N (Value.int .i64 0)).toArray 3)).heap[w.heap.size]? = some (.cells (Lw.intsV .i64 (Lw.rowF N (Lw.halfG (Lw.bitF f) 0))).toArray 3 (0, 0)) := by
    rw [Lw.half_zero, Lw.intsV, List.map_replicate]; exact Lw.blk_new w _ _
  have own1 : (w.alloc (.cells (List.replicate N (Value.int .i64 0)).toArray 3)).ownsRow w.heap.size 3 1 (.slice (some ⟨w.heap.size, 0, none⟩) N N) N (Lw.intsV .i64 (Lw.rowF N (Lw.halfG (Lw.bitF f) 0))) := Lw.own_blk hg1 (by rw [Lw.intsV_length, Lw.rowF_length]; omega) (by omega) (Nat.le_refl _)
  have OWN1 := Lib.hid own1
  clear own1 hg1
  go_enter Tryd.func8, Tryd.ntmps8
  go_wp2_with fail
  go_loopw [6, 15] (fun xx x wr => ∃ i : Nat, x = .int .i64 (i : Int) ∧ i ≤ N ∧ wr.ownsRow w.heap.size 3 1 (.slice (some ⟨w.heap.size, 0, none⟩) N N) N (Lw.intsV .i64 (Lw.rowF N (Lw.halfG (Lw.bitF f) i))) ∧ Below w.heap.size w wr) (fun _ x _ => N - (intOf x).toNat)
  case atStart => exact ⟨0, rfl, by omega, by first | exact OWN1.out | (rw [← List.toArray_replicate]; exact OWN1.out), by first | exact Lw.balloc (Below.refl _ _) _⟩
  case round =>
    clear OWN1
    obtain ⟨i, rfl, hi, own, hB⟩ := hrel
    by_cases hil : i < N
    · have i32 : i < 32 := by omega
      have G1 : (Lw.intsV .i64 (Lw.rowF N (Lw.halfG (Lw.bitF f) i)))[i]? = some (.int .i64 (Lw.halfG (Lw.bitF f) i i)) := by rw [Lw.intsV, List.getElem?_map, Lw.rowF_get hil]; rfl
      obtain ⟨c0, f0, hg0, hgl⟩ := Lw.own_cell (i := i) own G1
      have OW := Lib.hid (Lw.own_set (v := .int .i64 (Lw.bitF f i)) own hil)
      have NX := Lib.hid (Lw.half_next (N := N) (x := i) (g := Lw.bitF f))
      have AN := Lw.and_bit f i (by omega) f1
      obtain ⟨b1, b2⟩ := Lw.bitF_bd f i
      obtain ⟨β, hβ⟩ : ∃ z, Lw.bitF f i = z := ⟨_, rfl⟩
      rw [hβ] at AN OW b1 b2 NX
      have W1 : wrap64 β = β := IntWalk.wrap64_in _ (by omega)
      have i64 : (i : Int) < (N : Int) := by omega
      clear own G1 hβ
      go_wp2_with fail
      go_roundw
      case rel => exact ⟨i + 1, by go_num, by omega, by rw [← NX.out]; have := OW.out; rw [Lw.intsV, ← List.map_set] at this; (try simp only [AN, W1]); exact this, Lw.bset hB (Nat.le_refl _) _⟩
      case measure => simp [intOf]; omega
    · have hiN : i = N := by omega
      subst hiN
      rw [Lw.half_end] at own
      have FF := Lib.hid (FL.out wr own hB)
      clear own
      go_wp2_with (go_at_call 14; (with_reducible refine FF.out.mono ?_); rintro e w2 ⟨own2, hb2, v, rfl⟩)
      have OWN2 := Lib.hid own2
      clear own2 FF FL M hB
      go_loop [7, 8, 9, 32] (fun g xx b x => ∃ j : Nat, x = .int .i64 (j : Int) ∧ j ≤ i ∧ g = .int .u32 (Lw.packT (Lw.anfV f) j)) (fun _ _ _ x => i - (intOf x).toNat)
      case atStart => exact ⟨0, rfl, by omega, rfl⟩
      case round =>
        obtain ⟨j, rfl, hj, rfl⟩ := hrel
        by_cases hji : j < i
        · have G1 : (Lw.intsV .i64 (Lw.rowF i (Lw.anfV f)))[j]? = some (.int .i64 (Lw.anfV f j)) := by rw [Lw.intsV, List.getElem?_map, Lw.rowF_get hji]; rfl
          obtain ⟨c0, f0, hg0, hgl⟩ := Lw.own_cell (i := j) OWN2.out G1
          obtain ⟨p1, p2⟩ := PB.out j
          obtain ⟨b1, b2⟩ := AB.out j
          have S := PS.out j
          obtain ⟨a, ha⟩ : ∃ z, Lw.packT (Lw.anfV f) j = z := ⟨_, rfl⟩
          obtain ⟨β, hβ⟩ : ∃ z, Lw.anfV f j = z := ⟨_, rfl⟩
          rw [ha] at p1 p2 S
          rw [hβ] at b1 b2 S c0
          rw [ha]
          have OP := Lw.or_pack (a := a) (b := β) (m := j) (by omega) p1 p2 (by omega)
          have PU := Lw.pow_u32 j (by omega)
          have PV := Lw.pow_u32 (j + 1) (by omega)
          rw [Int.pow_succ] at PV
          have B2 : 0 ≤ β * 2 ^ j ∧ β * 2 ^ j < 4294967296 := by rcases (by omega : β = 0 ∨ β = 1) with h | h <;> rw [h] <;> omega
          have W3 : IntKind.u32.wrap (β * 2 ^ j) = β * 2 ^ j := by rw [IntKind.wrap_u32]; omega
          have S := Lib.hid S
          have ji : (j : Int) < (i : Int) := by omega
          clear G1 ha hβ
          go_wp2_with fail
          go_round
          case rel => exact ⟨j + 1, by go_num, by omega, by rw [S.out]⟩
          case measure => simp [intOf]; omega
        · have hji2 : j = i := by omega
          subst hji2
          go_wp2_with fail
          go_ret
          exact ⟨rfl, hb2⟩
set_option maxRecDepth 100000 in
set_option maxHeartbeats 2000000 in
theorem ref_Anf (n : Nat) (f : Int) (w : World) (hn : n < 6) (f0 : 0 ≤ f) (f1 : f < 4294967296) :
    Calls Tryd.prog 11 #[.int .i64 (n : Int), .int .u32 f] w fun e w' => e = .returned (.int .u32 (Lw.packT (Lw.anfV f) (2 ^ n))) ∧ w = w' := by
  have N32 := Lw.pow_32 n hn
  have SH := Lw.shl_pow n hn
  rw [IntWalk.i64_left] at SH
  obtain ⟨N, hN⟩ : ∃ N, 2 ^ n = N := ⟨_, rfl⟩
  rw [hN] at N32 SH ⊢
  obtain ⟨N1, N2⟩ := N32
  have PB := Lib.hid (Lw.pack_bd (Lw.anfV_bd f))
  have PS : Hid (∀ m, Lw.packT (Lw.anfV f) (m + 1) = Lw.packT (Lw.anfV f) m + Lw.anfV f m * 2 ^ m) := fun _ => rfl
  have AV : Hid (∀ u, Lw.anfV f u = Lw.sumT (u + 1) (Lw.subT (Lw.bitF f) u) % 2) := fun _ => rfl
  have SB := Lib.hid (fun u m => Lw.sub_bd (Lw.bitF_bd f) u m)
  have SS : Hid (∀ u m, Lw.sumT (m + 1) (Lw.subT (Lw.bitF f) u) = Lw.sumT m (Lw.subT (Lw.bitF f) u) + if m &&& u = m then Lw.bitF f m else 0) := fun _ _ => rfl
  have BT := Lib.hid (fun x W (h : x < 32) => ref_Bit f x W f0 f1 h)
  clear hN
  go_enter Tryd.func11, Tryd.ntmps11
  go_wp2_with fail
  go_loop [5, 6, 7, 8] (fun g u s x => ∃ k : Nat, u = .int .i64 (k : Int) ∧ k ≤ N ∧ g = .int .u32 (Lw.packT (Lw.anfV f) k)) (fun _ u _ _ => N - (intOf u).toNat)
  case atStart => exact ⟨0, rfl, by omega, rfl⟩
  case round =>
    obtain ⟨k, rfl, kk, rfl⟩ := hrel
    obtain ⟨p1, p2⟩ := PB.out k
    obtain ⟨g, hg⟩ : ∃ z, Lw.packT (Lw.anfV f) k = z := ⟨_, rfl⟩
    rw [hg] at p1 p2
    rw [hg]
    by_cases hlt : k < N
    · have hlt' : (k : Int) < (N : Int) := by omega
      go_wp2_with fail
      (try rw [SH])
      go_loop [7, 8] (fun s x => ∃ i : Nat, x = .int .i64 (i : Int) ∧ i ≤ k + 1 ∧ s = .int .i64 (Lw.sumT i (Lw.subT (Lw.bitF f) k))) (fun _ x => k + 1 - (intOf x).toNat)
      case atStart => exact ⟨0, rfl, by omega, rfl⟩
      case round =>
        obtain ⟨i, rfl, hi, rfl⟩ := hrel
        obtain ⟨z1, z2⟩ := SB.out k i
        by_cases hil : i ≤ k
        · have hil' : (i : Int) ≤ (k : Int) := by omega
          have AN := Lw.and_i64 k (by omega) i (by omega)
          have S := SS.out k i
          obtain ⟨b1, b2⟩ := Lw.bitF_bd f i
          have BB := Lib.hid (fun W => BT.out i W (by omega))
          obtain ⟨β, hβ⟩ : ∃ z, Lw.bitF f i = z := ⟨_, rfl⟩
          obtain ⟨s, hs⟩ : ∃ z, Lw.sumT i (Lw.subT (Lw.bitF f) k) = z := ⟨_, rfl⟩
          rw [hβ] at S BB b1 b2
          rw [hs] at S z1 z2
          rw [hs]
          clear hβ hs
          by_cases h : i &&& k = i
          · have S := Lib.hid (S.trans (by rw [if_pos h]))
            have EQ : (((i &&& k : Nat) : Int) == (i : Int)) = true := by rw [h]; simp
            go_wp2_with (go_at_call 12; (with_reducible refine (BB.out _).mono ?_); rintro e w' ⟨rfl, rfl⟩)
            go_round
            case rel => exact ⟨i + 1, by go_num, by omega, by rw [S.out]⟩
            case measure => simp [intOf]; omega
          · have S := Lib.hid (S.trans (by rw [if_neg h, Int.add_zero]))
            have h2 : ¬ ((i &&& k : Nat) : Int) = (i : Int) := by omega
            have EQ : (((i &&& k : Nat) : Int) == (i : Int)) = false := by simpa using h2
            go_wp2_with fail
            go_round
            case rel => exact ⟨i + 1, by go_num, by omega, by rw [S.out]⟩
            case measure => simp [intOf]; omega
        · have hik : i = k + 1 := by omega
          subst hik
          have V := AV.out k
          have S := PS.out k
          obtain ⟨s, hs⟩ : ∃ z, Lw.sumT (k + 1) (Lw.subT (Lw.bitF f) k) = z := ⟨_, rfl⟩
          rw [hs] at V z1 z2
          rw [hs]
          rw [V, hg] at S
          have PU := Lw.pow_u32 k (by omega)
          have PV := Lw.pow_u32 (k + 1) (by omega)
          have SHK := Lw.shl_u32 k (by omega)
          rw [Int.pow_succ] at PV
          have T : s.tmod 2 = s % 2 := Int.tmod_eq_emod_of_nonneg z1
          clear V hs hg
          have W1 : IntKind.u32.wrap (g + 2 ^ k) = g + 2 ^ k := by rw [IntKind.wrap_u32]; omega
          have W2 : (g + 2 ^ k) % 4294967296 = g + 2 ^ k := by omega
          rcases (by omega : s % 2 = 0 ∨ s % 2 = 1) with h | h
          · rw [h, Int.zero_mul, Int.add_zero] at S
            have S := Lib.hid S
            go_wp2_with fail
            go_round
            case rel => exact ⟨k + 1, by go_num, by omega, by rw [S.out]⟩
            case measure => simp [intOf]; omega
          · rw [h, Int.one_mul] at S
            have S := Lib.hid S
            go_wp2_with fail
            go_round
            case rel => exact ⟨k + 1, by go_num, by omega, by rw [S.out]⟩
            case measure => simp [intOf]; omega
    · have hk : k = N := by omega
      subst hk
      go_wp2_with fail
      go_ret
      exact ⟨by first | rfl | rw [hg], rfl⟩
end Go.Proofs.YteeicpfjmahmeaaDoor
