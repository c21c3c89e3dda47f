/- walsh.Immune and the reference's Immune: the walks. -/
import Derived.Test.YteeicpfjmahmeaaWai
namespace Lw
open Go Go.RowKit
theorem some_bd (n : Nat) (f : Int) (s v : Nat) : ∀ m : Nat, 0 ≤ sumT m (fun x => if x &&& s = v then bitF f x else 0) ∧ sumT m (fun x => if x &&& s = v then bitF f x else 0) ≤ m
  | 0 => ⟨Int.le_refl _, Int.le_refl _⟩
  | m + 1 => by
    have h1 := some_bd n f s v m
    have h2 := bitF_bd f m
    show 0 ≤ sumT m (fun x => if x &&& s = v then bitF f x else 0) + (if m &&& s = v then bitF f m else 0) ∧ sumT m (fun x => if x &&& s = v then bitF f x else 0) + (if m &&& s = v then bitF f m else 0) ≤ _
    split <;> omega
theorem all_bd (f : Int) : ∀ m : Nat, 0 ≤ sumT m (bitF f) ∧ sumT m (bitF f) ≤ m
  | 0 => ⟨Int.le_refl _, Int.le_refl _⟩
  | m + 1 => by
    have h1 := all_bd f m
    have h2 := bitF_bd f m
    show 0 ≤ sumT m (bitF f) + bitF f m ∧ sumT m (bitF f) + bitF f m ≤ _
    omega
/-- what Immune returns -/
def ImR (Q : Prop) (w : World) (e : Ending) (w' : World) : Prop := (∃ r : Bool, e = .returned (.tuple #[.bool r, .int .i64 0]) ∧ (r = true ↔ Q)) ∧ Below w.heap.size w w'
def ImB (Q : Prop) (w : World) (e : Ending) (w' : World) : Prop := (∃ r : Bool, e = .returned (.bool r) ∧ (r = true ↔ Q)) ∧ w = w'
end Lw
set_option linter.unusedVariables false
set_option linter.unusedSimpArgs false
namespace Go.Proofs.Yteeicpfjmahmeaa
open Go.RowKit
theorem bits_OnesCount64 (x : Nat) (hx : x < 32) (w : World) : Calls Try.prog 61 #[.int .u64 (x : Int)] w fun e w' => e = .returned (.int .i64 ((Lw.onesF 6 x : Nat) : Int)) ∧ w = w' := by
  go_enter Try.func61, Try.ntmps61
  go_wp2
  go_ret
  refine ⟨?_, rfl⟩
  simp only [Array.getD, List.size_toArray, List.length_cons, List.length_nil]
  show Ending.returned (Value.int IntKind.i64 _) = _
  congr 2
  rw [← IntWalk.i64_left]
  clear w
  revert hx
  revert x
  decide
theorem bits_OnesCount (x : Nat) (hx : x < 32) (w : World) : Calls Try.prog 50 #[.int .u64 (x : Int)] w fun e w' => e = .returned (.int .i64 ((Lw.onesF 6 x : Nat) : Int)) ∧ w = w' := by
  have X := Lib.hid (fun W => bits_OnesCount64 x hx W)
  go_enter Try.func50, Try.ntmps50
  go_wp2_with (go_at_call 61; (with_reducible refine (X.out _).mono ?_); rintro e w' ⟨rfl, rfl⟩)
  go_ret
  exact ⟨rfl, rfl⟩
set_option maxRecDepth 100000 in
set_option maxHeartbeats 2000000 in
theorem walsh_Immune_ok (n : Nat) (f : Int) (k : Nat) (w : World) (hn : n < 6) (f0 : 0 ≤ f) (f1 : f < 4294967296) (hf : f < 2 ^ (2 ^ n)) (hk : k ≤ n) :
    Calls Try.prog 27 #[.int .i64 (n : Int), .int .u32 f, .int .i64 (k : Int)] w (Lw.ImR (Lw.immP n f k) w) := by
  have X := walsh_Waves_ok n f w hn f0 f1 hf
  rw [Lw.wave_eq hn] at X
  replace X := Lib.hid X
  have N32 := Lw.pow_32 n hn
  have IP : Hid (Lw.immP n f k ↔ ∀ u, u < 2 ^ n → 1 ≤ Lw.onesF 6 u → Lw.onesF 6 u ≤ k → Lw.waveR n f u = 0) := Iff.rfl
  generalize Lw.immP n f k = IM at *
  generalize Lw.waveR n f = V at *
  obtain ⟨N, hN⟩ : ∃ N, 2 ^ n = N := ⟨_, rfl⟩
  rw [hN] at N32 X IP
  obtain ⟨N1, N2⟩ := N32
  have OC := Lib.hid (fun x hx W => bits_OnesCount x hx W)
  have OL := Lib.hid Lw.ones_le
  have kn : (k : Int) ≤ (n : Int) := by omega
  have kn' : ¬ (n : Int) < (k : Int) := by omega
  have kn2 : ¬ n < k := by omega
  have kn3 : decide (n < k) = false := decide_eq_false kn2
  have kn4 : decide ((n : Int) < (k : Int)) = false := decide_eq_false kn'
  have k0 : ¬ (k : Int) < 0 := by omega
  clear hf hN
  go_enter Try.func27, Try.ntmps27
  go_wp2_with fail
  refine X.out.mono ?_
  rintro e w1 ⟨rfl, R1, hb1⟩
  have R1 := Lib.hid R1
  go_wp2_with fail
  go_loop [6, 7, 10, 11, 12, 31] (fun r1 r2 a b c x => ∃ i : Nat, x = .int .i64 (i : Int) ∧ i ≤ N ∧ Hid (∀ u, u < i → 1 ≤ Lw.onesF 6 u → Lw.onesF 6 u ≤ k → V u = 0)) (fun _ _ _ _ _ x => N - (intOf x).toNat)
  case atStart => exact ⟨0, rfl, by omega, fun u hu => by omega⟩
  case round =>
    obtain ⟨i, rfl, hi, H⟩ := hrel
    by_cases hil : i < N
    · have hil' : (i : Int) < (N : Int) := by omega
      obtain ⟨ad, e1, had, c0⟩ := R1.out.at1 hil (show (Lw.intsV .i64 (Lw.rowF N V))[i]? = some (.int .i64 (V i)) by rw [Lw.intsV, List.getElem?_map, Lw.rowF_get hil]; rfl)
      injection e1 with e1
      subst e1
      have c0 : w1.cell? ⟨w.heap.size, i, none⟩ = some (.int .i64 (V i)) := by
        by_cases hk0 : i = 0
        · subst hk0; simpa [Addr.add] using c0
        · simpa [Addr.add, hk0] using c0
      have OO := Lib.hid (fun W => OC.out i (by omega) W)
      have o6 := OL.out i (by omega)
      have H1 : Hid (∀ u, u < i + 1 → (1 ≤ Lw.onesF 6 i → Lw.onesF 6 i ≤ k → V i = 0) → 1 ≤ Lw.onesF 6 u → Lw.onesF 6 u ≤ k → V u = 0) := fun u hu hh h1 h2 => by
        by_cases c : u = i
        · subst c; exact hh h1 h2
        · exact H.out u (by omega) h1 h2
      have H2 : Hid (1 ≤ Lw.onesF 6 i → Lw.onesF 6 i ≤ k → ¬ V i = 0 → ¬ IM) := fun h1 h2 h3 h4 => h3 (IP.out.1 h4 i hil h1 h2)
      obtain ⟨o, ho⟩ : ∃ z, Lw.onesF 6 i = z := ⟨_, rfl⟩
      obtain ⟨v, hv⟩ : ∃ z, V i = z := ⟨_, rfl⟩
      rw [ho] at OO o6 H1 H2
      rw [hv] at c0 H1 H2
      clear ho hv had
      by_cases o1 : 1 ≤ o
      · by_cases o2 : o ≤ k
        · by_cases o3 : v = 0
          · subst o3
            have H3 : Hid (∀ u, u < i + 1 → 1 ≤ Lw.onesF 6 u → Lw.onesF 6 u ≤ k → V u = 0) := fun u hu => H1.out u hu (fun _ _ => rfl)
            clear H1 H2
            have z : ((0 : Int) != 0) = false := rfl
            go_wp2_with (go_at_call 50; (with_reducible refine (OO.out _).mono ?_); rintro e w' ⟨rfl, rfl⟩)
            go_round
            case rel => exact ⟨i + 1, by go_num, by omega, H3⟩
            case measure => simp [intOf]; omega
          · have H3 : Hid (¬ IM) := H2.out o1 o2 o3
            have z : (v != 0) = true := by simpa using o3
            clear H1 H2
            go_wp2_with (go_at_call 50; (with_reducible refine (OO.out _).mono ?_); rintro e w' ⟨rfl, rfl⟩)
            go_ret2
            exact ⟨⟨false, rfl, by simpa using H3.out⟩, hb1⟩
        · have H3 : Hid (∀ u, u < i + 1 → 1 ≤ Lw.onesF 6 u → Lw.onesF 6 u ≤ k → V u = 0) := fun u hu => H1.out u hu (fun _ h => absurd h o2)
          clear H1 H2
          go_wp2_with (go_at_call 50; (with_reducible refine (OO.out _).mono ?_); rintro e w' ⟨rfl, rfl⟩)
          go_round
          case rel => exact ⟨i + 1, by go_num, by omega, H3⟩
          case measure => simp [intOf]; omega
      · have H3 : Hid (∀ u, u < i + 1 → 1 ≤ Lw.onesF 6 u → Lw.onesF 6 u ≤ k → V u = 0) := fun u hu => H1.out u hu (fun h => absurd h o1)
        clear H1 H2
        go_wp2_with (go_at_call 50; (with_reducible refine (OO.out _).mono ?_); rintro e w' ⟨rfl, rfl⟩)
        go_round
        case rel => exact ⟨i + 1, by go_num, by omega, H3⟩
        case measure => simp [intOf]; omega
    · have hiN : i = N := by omega
      subst hiN
      have H3 : Hid IM := IP.out.2 H.out
      go_wp2_with fail
      go_ret2
      exact ⟨⟨true, rfl, by simpa using H3.out⟩, hb1⟩
theorem walsh_Immune_bad (n : Int) (f : Int) (k : Int) (w : World) (f0 : 0 ≤ f) (f1 : f < 4294967296) (n1 : -9223372036854775808 ≤ n) (n2 : n ≤ 9223372036854775807) (h : ¬ Lw.okF n f) :
    Calls Try.prog 27 #[.int .i64 n, .int .u32 f, .int .i64 k] w fun e w' => e = .returned (.tuple #[.bool false, .int .i64 2]) ∧ Below w.heap.size w w' := by
  have X := Lib.hid (walsh_Waves_bad n f w f0 f1 n1 n2 h)
  clear h
  go_enter Try.func27, Try.ntmps27
  go_wp2_with fail
  refine X.out.mono ?_
  rintro e w1 ⟨rfl, rfl⟩
  go_wp2_with fail
  go_ret2
  exact ⟨rfl, Below.refl _ _⟩
theorem walsh_Immune_k (n : Nat) (f : Int) (k : Int) (w : World) (hn : n < 6) (f0 : 0 ≤ f) (f1 : f < 4294967296) (hf : f < 2 ^ (2 ^ n)) (hk : k < 0 ∨ (n : Int) < k) :
    Calls Try.prog 27 #[.int .i64 (n : Int), .int .u32 f, .int .i64 k] w fun e w' => e = .returned (.tuple #[.bool false, .int .i64 2]) ∧ Below w.heap.size w w' := by
  have X := Lib.hid (walsh_Waves_ok n f w hn f0 f1 hf)
  clear hf
  rcases (by omega : k < 0 ∨ (¬ k < 0 ∧ (n : Int) < k)) with h | ⟨h, h2⟩
  · go_enter Try.func27, Try.ntmps27
    go_wp2_with fail
    refine X.out.mono ?_
    rintro e w1 ⟨rfl, R1, hb1⟩
    clear R1
    go_wp2_with fail
    go_ret2
    exact ⟨rfl, hb1⟩
  · go_enter Try.func27, Try.ntmps27
    go_wp2_with fail
    refine X.out.mono ?_
    rintro e w1 ⟨rfl, R1, hb1⟩
    clear R1
    go_wp2_with fail
    go_ret2
    exact ⟨rfl, hb1⟩
set_option maxRecDepth 100000 in
set_option maxHeartbeats 4000000 in
theorem ref_Immune (n : Nat) (f : Int) (k : Nat) (w : World) (hn : n < 6) (f0 : 0 ≤ f) (f1 : f < 4294967296) (hk : k ≤ n) :
    Calls Try.prog 28 #[.int .i64 (n : Int), .int .u32 f, .int .i64 (k : Int)] w (Lw.ImB (Lw.immR n f k) w) := by
  have N32 := Lw.pow_32 n hn
  have SH := Lw.shl_pow n hn
  rw [IntWalk.i64_left] at SH
  have K32 := Lw.pow_i32 k (by omega)
  have KP : (0 : Int) < 2 ^ k := Int.pow_pos (by omega)
  have IR : Hid (Lw.immR n f k ↔ ∀ s, s < 2 ^ n → Lw.onesF 6 s = k → ∀ v, v ≤ s → v &&& s = v → Lw.someT n f s v * 2 ^ k = Lw.allT n f) := Iff.rfl
  have ST : Hid (∀ s v, Lw.someT n f s v = Lw.sumT (2 ^ n) fun x => if x &&& s = v then Lw.bitF f x else 0) := fun _ _ => rfl
  have AL : Hid (Lw.allT n f = Lw.sumT (2 ^ n) (Lw.bitF f)) := rfl
  have SS : Hid (∀ s v m, Lw.sumT (m + 1) (fun x => if x &&& s = v then Lw.bitF f x else 0) = Lw.sumT m (fun x => if x &&& s = v then Lw.bitF f x else 0) + if m &&& s = v then Lw.bitF f m else 0) := fun _ _ _ => rfl
  have SA : Hid (∀ m, Lw.sumT (m + 1) (Lw.bitF f) = Lw.sumT m (Lw.bitF f) + Lw.bitF f m) := fun _ => rfl
  have SB := Lib.hid (fun s v m => Lw.some_bd n f s v m)
  have AB := Lib.hid (Lw.all_bd f)
  generalize Lw.immR n f k = IM at *
  obtain ⟨N, hN⟩ : ∃ N, 2 ^ n = N := ⟨_, rfl⟩
  rw [hN] at N32 SH IR ST AL
  obtain ⟨N1, N2⟩ := N32
  have BT := Lib.hid (fun x W (h : x < 32) => ref_Bit f x W f0 f1 h)
  have ON := Lib.hid (fun x W (h : x < 64) => ref_Ones x W h)
  have OL := Lib.hid Lw.ones_le
  have n0 : ¬ (n : Int) < 0 := by omega
  have k0 : ¬ (k : Int) < 0 := by omega
  clear hN
  go_enter Try.func28, Try.ntmps28
  go_wp2_with fail
  go_loop [7, 8] (fun s x => ∃ i : Nat, x = .int .i64 (i : Int) ∧ i ≤ N ∧ s = .int .i64 (Lw.sumT i (Lw.bitF f))) (fun _ x => N - (intOf x).toNat)
  case atStart => exact ⟨0, rfl, by omega, rfl⟩
  case round =>
    obtain ⟨i, rfl, hi, rfl⟩ := hrel
    obtain ⟨z1, z2⟩ := AB.out i
    by_cases hil : i < N
    · have hil' : (i : Int) < (N : Int) := by omega
      have S := SA.out i
      obtain ⟨b1, b2⟩ := Lw.bitF_bd f i
      have BB := Lib.hid (fun W => BT.out i W (by omega))
      obtain ⟨β, hβ⟩ : ∃ z, Lw.bitF f i = z := ⟨_, rfl⟩
      obtain ⟨s, hs⟩ : ∃ z, Lw.sumT i (Lw.bitF f) = z := ⟨_, rfl⟩
      rw [hβ] at S BB b1 b2
      rw [hs] at S z1 z2
      rw [hs]
      have S := Lib.hid S
      clear hβ hs
      go_wp2_with (go_at_call 36; (with_reducible refine (BB.out _).mono ?_); rintro e w' ⟨rfl, rfl⟩)
      go_round
      case rel => exact ⟨i + 1, by go_num, by omega, by rw [S.out]⟩
      case measure => simp [intOf]; omega
    · have hiN : i = N := by omega
      subst hiN
      rw [← AL.out]
      rw [← AL.out] at z1 z2
      obtain ⟨A, hA⟩ : ∃ z, Lw.allT n f = z := ⟨_, rfl⟩
      rw [hA] at IR z1 z2
      rw [hA]
      have hnlt : ¬ (i : Int) < (i : Int) := by omega
      clear hA AL SA AB
      go_wp2_with fail
      (try rw [SH])
      go_loop [9, 10, 11, 12] (fun s v a x => ∃ t : Nat, s = .int .i64 (t : Int) ∧ t ≤ i ∧ Hid (∀ s, s < t → Lw.onesF 6 s = k → ∀ v, v ≤ s → v &&& s = v → Lw.someT n f s v * 2 ^ k = A)) (fun s _ _ _ => i - (intOf s).toNat)
      case atStart => exact ⟨0, rfl, by omega, fun s hs => by omega⟩
      case round =>
        obtain ⟨t, rfl, ht, H⟩ := hrel
        by_cases htl : t < i
        · have htl' : (t : Int) < (i : Int) := by omega
          have OO := Lib.hid (fun W => ON.out t W (by omega))
          have o6 := OL.out t (by omega)
          by_cases o1 : Lw.onesF 6 t = k
          · rw [o1] at OO
            have H1 : Hid (∀ s, s < t + 1 → (∀ v, v ≤ t → v &&& t = v → Lw.someT n f t v * 2 ^ k = A) → Lw.onesF 6 s = k → ∀ v, v ≤ s → v &&& s = v → Lw.someT n f s v * 2 ^ k = A) := fun s hs hh h1 v hv h2 => by
              by_cases c : s = t
              · subst c; exact hh v hv h2
              · exact H.out s (by omega) h1 v hv h2
            have kk : (((k : Nat) : Int) == ((k : Nat) : Int)) = true := by simp
            have H2 : Hid (∀ v, v ≤ t → v &&& t = v → ¬ Lw.someT n f t v * 2 ^ k = A → ¬ IM) := fun v hv h2 h3 h4 => h3 (IR.out.1 h4 t htl o1 v hv h2)
            clear H
            go_wp2_with fail
            (try rw [SH])
            go_loop [10, 11, 12] (fun v a x => ∃ u : Nat, v = .int .i64 (u : Int) ∧ u ≤ t + 1 ∧ Hid (∀ v, v < u → v &&& t = v → Lw.someT n f t v * 2 ^ k = A)) (fun v _ _ => t + 1 - (intOf v).toNat)
            case atStart => exact ⟨0, rfl, by omega, fun v hv => by omega⟩
            case round =>
              obtain ⟨u, rfl, hu, G⟩ := hrel
              by_cases hul : u ≤ t
              · have hul' : (u : Int) ≤ (t : Int) := by omega
                have AN := Lw.and_i64 t (by omega) u (by omega)
                by_cases c : u &&& t = u
                · have EQ : (((u &&& t : Nat) : Int) != (u : Int)) = false := by rw [c]; simp
                  have S2 := ST.out t u
                  have G1 : Hid (Lw.someT n f t u * 2 ^ k = A → ∀ v, v < u + 1 → v &&& t = v → Lw.someT n f t v * 2 ^ k = A) := fun h v hv h2 => by
                    by_cases d : v = u
                    · subst d; exact h
                    · exact G.out v (by omega) h2
                  have G2 := Lib.hid (H2.out u hul c)
                  clear G
                  go_wp2_with (go_at_call 37; (with_reducible refine (OO.out _).mono ?_); rintro e w' ⟨rfl, rfl⟩)
                  (try rw [SH])
                  go_loop [11, 12] (fun a x => ∃ j : Nat, x = .int .i64 (j : Int) ∧ j ≤ i ∧ a = .int .i64 (Lw.sumT j (fun x => if x &&& t = u then Lw.bitF f x else 0))) (fun _ x => i - (intOf x).toNat)
                  case atStart => exact ⟨0, rfl, by omega, rfl⟩
                  case round =>
                    obtain ⟨j, rfl, hj, rfl⟩ := hrel
                    obtain ⟨y1, y2⟩ := SB.out t u j
                    by_cases hjl : j < i
                    · have hjl' : (j : Int) < (i : Int) := by omega
                      have AN2 := Lw.and_i64 t (by omega) j (by omega)
                      have S := SS.out t u j
                      obtain ⟨b1, b2⟩ := Lw.bitF_bd f j
                      have BB := Lib.hid (fun W => BT.out j W (by omega))
                      obtain ⟨β, hβ⟩ : ∃ z, Lw.bitF f j = z := ⟨_, rfl⟩
                      obtain ⟨s, hs⟩ : ∃ z, Lw.sumT j (fun x => if x &&& t = u then Lw.bitF f x else 0) = z := ⟨_, rfl⟩
                      rw [hβ] at S BB b1 b2
                      rw [hs] at S y1 y2
                      rw [hs]
                      clear hβ hs
                      by_cases d : j &&& t = u
                      · have S := Lib.hid (S.trans (by rw [if_pos d]))
                        have EQ2 : (((j &&& t : Nat) : Int) == (u : Int)) = true := by rw [d]; simp
                        go_wp2_with (go_at_call 36; (with_reducible refine (BB.out _).mono ?_); rintro e w' ⟨rfl, rfl⟩)
                        go_round
                        case rel => exact ⟨j + 1, by go_num, by omega, by rw [S.out]⟩
                        case measure => simp [intOf]; omega
                      · have S := Lib.hid (S.trans (by rw [if_neg d, Int.add_zero]))
                        have d2 : ¬ ((j &&& t : Nat) : Int) = (u : Int) := by omega
                        have EQ2 : (((j &&& t : Nat) : Int) == (u : Int)) = false := by simpa using d2
                        go_wp2_with fail
                        go_round
                        case rel => exact ⟨j + 1, by go_num, by omega, by rw [S.out]⟩
                        case measure => simp [intOf]; omega
                    · have hji : j = i := by omega
                      subst hji
                      rw [← S2]
                      rw [← S2] at y1 y2
                      obtain ⟨s, hs⟩ : ∃ z, Lw.someT n f t u = z := ⟨_, rfl⟩
                      rw [hs] at y1 y2 G1 G2
                      rw [hs]
                      have M1 : 0 ≤ s * 2 ^ k ∧ s * 2 ^ k ≤ 1024 := by
                        refine ⟨Int.mul_nonneg y1 (by omega), ?_⟩
                        have h1 : s * 2 ^ k ≤ 32 * 2 ^ k := Int.mul_le_mul_of_nonneg_right (by omega) (by omega)
                        omega
                      obtain ⟨P, hP⟩ : ∃ z, s * 2 ^ k = z := ⟨_, rfl⟩
                      rw [hP] at M1 G1 G2
                      have W1 : wrap64 (s * 2 ^ k) = P := by rw [hP]; exact IntWalk.wrap64_in _ (by omega)
                      clear hs
                      by_cases g : P = A
                      · have G3 := Lib.hid (G1.out g)
                        have EQ3 : ((P : Int) != A) = false := by rw [g]; simp
                        clear G1 G2
                        go_wp2_with fail
                        go_round
                        case rel => exact ⟨u + 1, by go_num, by omega, G3⟩
                        case measure => simp [intOf]; omega
                      · have G3 := Lib.hid (G2.out g)
                        have EQ3 : ((P : Int) != A) = true := by simpa using g
                        clear G1 G2
                        go_wp2_with fail
                        go_ret
                        exact ⟨⟨false, rfl, by simpa using G3.out⟩, rfl⟩
                · have c2 : ¬ ((u &&& t : Nat) : Int) = (u : Int) := by omega
                  have EQ : (((u &&& t : Nat) : Int) != (u : Int)) = true := by simpa using c2
                  have G1 : Hid (∀ v, v < u + 1 → v &&& t = v → Lw.someT n f t v * 2 ^ k = A) := fun v hv h2 => by
                    by_cases d : v = u
                    · subst d; exact absurd h2 c
                    · exact G.out v (by omega) h2
                  clear G H2
                  go_wp2_with (go_at_call 37; (with_reducible refine (OO.out _).mono ?_); rintro e w' ⟨rfl, rfl⟩)
                  go_round
                  case rel => exact ⟨u + 1, by go_num, by omega, G1⟩
                  case measure => simp [intOf]; omega
              · have hut : u = t + 1 := by omega
                subst hut
                have H3 : Hid (∀ s, s < t + 1 → Lw.onesF 6 s = k → ∀ v, v ≤ s → v &&& s = v → Lw.someT n f s v * 2 ^ k = A) := fun s hs => H1.out s hs fun v hv h2 => G.out v (by omega) h2
                clear H1 H2 G
                go_wp2_with fail
                go_round
                case rel => exact ⟨t + 1, by go_num, by omega, H3⟩
                case measure => simp [intOf]; omega
          · have H3 : Hid (∀ s, s < t + 1 → Lw.onesF 6 s = k → ∀ v, v ≤ s → v &&& s = v → Lw.someT n f s v * 2 ^ k = A) := fun s hs h1 => by
              by_cases c : s = t
              · subst c; exact absurd h1 o1
              · exact H.out s (by omega) h1
            obtain ⟨o, ho⟩ : ∃ z, Lw.onesF 6 t = z := ⟨_, rfl⟩
            rw [ho] at OO o6 o1
            have o2 : ¬ (o : Int) = (k : Int) := by omega
            have EQ : (((o : Nat) : Int) == (k : Int)) = false := by simpa using o2
            clear H ho
            go_wp2_with fail
            (try rw [SH])
            go_loop [10, 11, 12] (fun v a x => v = .int .i64 0) (fun v _ _ => 0)
            case atStart => rfl
            case round =>
              obtain rfl := hrel
              have t0 : (0 : Int) ≤ (t : Int) := by omega
              go_wp2_with (go_at_call 37; (with_reducible refine (OO.out _).mono ?_); rintro e w' ⟨rfl, rfl⟩)
              go_round
              case rel => exact ⟨t + 1, by go_num, by omega, H3⟩
              case measure => simp [intOf]; omega
        · have hti : t = i := by omega
          subst hti
          have H3 : Hid IM := IR.out.2 H.out
          clear H
          go_wp2_with fail
          go_ret
          exact ⟨⟨true, rfl, by simpa using H3.out⟩, rfl⟩
end Go.Proofs.Yteeicpfjmahmeaa
