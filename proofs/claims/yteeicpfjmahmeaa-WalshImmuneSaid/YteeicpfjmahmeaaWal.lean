/- walsh.fly: sums and differences, or others, of all pairs that differ by one bit; plain: what they come to. -/
import Derived.Test.YteeicpfjmahmeaaRegS
import Derived.Test.YteeicpfjmahmeaaApp
namespace Lw
open Go Go.RowKit
def flyP (pr : Int → Int → Int × Int) (k : Nat) (g : Nat → Int) (i : Nat) : Int := if i / 2 ^ k % 2 = 1 then (pr (g (i - 2 ^ k)) (g i)).2 else (pr (g i) (g (i + 2 ^ k))).1
/-- in the midst of a round -/
def flyM (pr : Int → Int → Int × Int) (k x : Nat) (g : Nat → Int) (i : Nat) : Int := if (if i / 2 ^ k % 2 = 1 then i - 2 ^ k else i) < x then flyP pr k g i else g i
def itr (pr : Int → Int → Int × Int) (g : Nat → Int) : Nat → Nat → Int
  | 0 => g
  | k + 1 => flyP pr k (itr pr g k)
def rowF (N : Nat) (g : Nat → Int) : List Int := (List.range N).map g
theorem rowF_length {N : Nat} {g : Nat → Int} : (rowF N g).length = N := by simp [rowF]
theorem rowF_get {N i : Nat} {g : Nat → Int} (h : i < N) : (rowF N g)[i]? = some (g i) := by simp [rowF, h]
theorem rowF_set {N x : Nat} {g : Nat → Int} {v : Int} : (rowF N g).set x v = rowF N fun i => if i = x then v else g i := by
  apply List.ext_getElem
  · simp [rowF]
  · intro i h1 h2
    simp only [rowF, List.getElem_set, List.getElem_map, List.getElem_range]
    by_cases h : x = i
    · subst h; simp
    · rw [if_neg h, if_neg (fun e => h e.symm)]
theorem rowF_congr {N : Nat} {g h : Nat → Int} (e : ∀ i, i < N → g i = h i) : rowF N g = rowF N h := by
  apply List.map_congr_left
  intro i hi
  exact e i (List.mem_range.1 hi)
theorem bit_set : ∀ k, k < 5 → ∀ i, i < 32 → i / 2 ^ k % 2 = 1 → (i - 2 ^ k) / 2 ^ k % 2 = 0 ∧ 2 ^ k ≤ i := by decide
theorem bit_clr : ∀ k, k < 5 → ∀ i, i < 32 → i / 2 ^ k % 2 = 0 → (i + 2 ^ k) / 2 ^ k % 2 = 1 ∧ i + 2 ^ k < 32 := by decide
theorem bit_or : ∀ k, k < 5 → ∀ i, i < 32 → i ||| 2 ^ k = if i / 2 ^ k % 2 = 1 then i else i + 2 ^ k := by decide
theorem bit_in : ∀ n, n < 6 → ∀ k, k < n → ∀ i, i < 2 ^ n → i / 2 ^ k % 2 = 0 → i + 2 ^ k < 2 ^ n := by decide
theorem pow_32 : ∀ n, n < 6 → 2 ^ n ≤ 32 ∧ 0 < 2 ^ n := by decide
theorem or_bits : ∀ j, j < 5 → ∀ i, i < 32 → bits BinOp.or IntKind.i64 ((i : Nat) : Int) (IntKind.i64.wrap (2 ^ j)) = ((if i / 2 ^ j % 2 = 1 then i else i + 2 ^ j : Nat) : Int) := by decide
theorem flyM_zero {pr : Int → Int → Int × Int} {k : Nat} {g : Nat → Int} : flyM pr k 0 g = g := by
  funext i; unfold flyM; rw [if_neg (by omega)]
theorem flyM_end {pr : Int → Int → Int × Int} {k N : Nat} {g : Nat → Int} : rowF N (flyM pr k N g) = rowF N (flyP pr k g) :=
  rowF_congr fun i hi => by
    have := Nat.sub_le i (2 ^ k)
    unfold flyM; rw [if_pos (by split <;> omega)]
theorem flyM_skip {pr : Int → Int → Int × Int} {k x N : Nat} {g : Nat → Int} (hk : k < 5) (hN : N ≤ 32) (hx : x / 2 ^ k % 2 = 1) : rowF N (flyM pr k (x + 1) g) = rowF N (flyM pr k x g) :=
  rowF_congr fun i hi => by
    have h1 := bit_set k hk i (by omega)
    unfold flyM
    have : ((if i / 2 ^ k % 2 = 1 then i - 2 ^ k else i) < x + 1) ↔ ((if i / 2 ^ k % 2 = 1 then i - 2 ^ k else i) < x) := by
      split
      · rename_i h
        have h2 := (h1 h).1
        constructor
        · intro h3
          rcases Nat.lt_or_ge (i - 2 ^ k) x with h4 | h4
          · exact h4
          · have : i - 2 ^ k = x := by omega
            rw [this] at h2; omega
        · omega
      · rename_i h
        constructor
        · intro h3
          rcases Nat.lt_or_ge i x with h4 | h4
          · exact h4
          · have : i = x := by omega
            rw [this] at h; omega
        · omega
    simp only [this]
theorem flyM_at {pr : Int → Int → Int × Int} {k x : Nat} {g : Nat → Int} (hk : k < 5) (hx : x < 32) (hb : x / 2 ^ k % 2 = 0) : flyM pr k x g x = g x ∧ flyM pr k x g (x + 2 ^ k) = g (x + 2 ^ k) := by
  have h1 := bit_clr k hk x hx hb
  unfold flyM
  constructor
  · rw [if_neg (by rw [if_neg (by omega)]; omega)]
  · rw [if_neg (by rw [if_pos h1.1]; omega)]
theorem flyM_step {pr : Int → Int → Int × Int} {k x N : Nat} {g : Nat → Int} (hk : k < 5) (hN : N ≤ 32) (hx : x < 32) (hb : x / 2 ^ k % 2 = 0) :
    ((rowF N (flyM pr k x g)).set x (pr (g x) (g (x + 2 ^ k))).1).set (x + 2 ^ k) (pr (g x) (g (x + 2 ^ k))).2 = rowF N (flyM pr k (x + 1) g) := by
  rw [rowF_set, rowF_set]
  refine rowF_congr fun i hi => ?_
  have h1 := bit_clr k hk x hx hb
  have h2 := bit_set k hk i (by omega)
  have hp : 0 < 2 ^ k := Nat.two_pow_pos k
  by_cases c1 : i = x + 2 ^ k
  · rw [if_pos c1]
    subst c1
    unfold flyM
    rw [if_pos (by rw [if_pos h1.1]; omega)]
    unfold flyP
    rw [if_pos h1.1, Nat.add_sub_cancel]
  · rw [if_neg c1]
    by_cases c2 : i = x
    · rw [if_pos c2]
      subst c2
      unfold flyM
      rw [if_pos (by rw [if_neg (by omega)]; omega)]
      unfold flyP
      rw [if_neg (by omega)]
    · rw [if_neg c2]
      unfold flyM
      have : ((if i / 2 ^ k % 2 = 1 then i - 2 ^ k else i) < x + 1) ↔ ((if i / 2 ^ k % 2 = 1 then i - 2 ^ k else i) < x) := by
        split
        · rename_i h
          have := h2 h
          omega
        · omega
      simp only [this]
end Lw
set_option linter.unusedVariables false
set_option linter.unusedSimpArgs false
namespace Go.Proofs.Yteeicpfjmahmeaa
open Go.RowKit
theorem elInts : Lw.El Try.prog 23 3 (.int .i64 0) 1 8 := Lw.El.mk' Try.underlying23 (by kernel_rfl) rfl (by decide) (by decide)
set_option maxHeartbeats 4000000 in
theorem walsh_fly_waves (pr : Int → Int → Int × Int) (B : Int → Prop) (H : ∀ a b W, B a → B b → Calls Try.prog 35 #[.int .i64 a, .int .i64 b] W fun e w' => e = .returned (.tuple #[.int .i64 (pr a b).1, .int .i64 (pr a b).2]) ∧ W = w') (n : Nat) (hn : n < 6) (g : Nat → Int) (hB : ∀ k i, k ≤ n → i < 2 ^ n → B (Lw.itr pr g k i))
    (b : Nat) (w : World) (own : w.ownsRow b 3 1 (.slice (some ⟨b, 0, none⟩) (2 ^ n) (2 ^ n)) (2 ^ n) (Lw.intsV .i64 (Lw.rowF (2 ^ n) g))) (w0 : World) (hw0 : Below b w0 w) :
    Calls Try.prog 34 #[.int .i64 (n : Int), .slice (some ⟨b, 0, none⟩) (2 ^ n) (2 ^ n), .func (.func 35) #[] #[]] w fun e w' => w'.ownsRow b 3 1 (.slice (some ⟨b, 0, none⟩) (2 ^ n) (2 ^ n)) (2 ^ n) (Lw.intsV .i64 (Lw.rowF (2 ^ n) (Lw.itr pr g n))) ∧ Below b w0 w' ∧ ∃ v, e = .returned v := by
  have OWN0 := Lib.hid own
  clear own
  obtain ⟨N, hN⟩ : ∃ N, 2 ^ n = N := ⟨_, rfl⟩
  rw [hN] at hB OWN0 ⊢
  have N32 := Lw.pow_32 n hn
  rw [hN] at N32
  have BI := Lib.hid (Lw.bit_in n hn)
  rw [hN] at BI
  have HBD := Lib.hid hB
  have HC := Lib.hid H
  have HN := Lib.hid hN
  clear hB H hN
  go_enter Try.func34, Try.ntmps34
  go_wp2_with fail
  go_loopw [6, 10] (fun kk k wr => ∃ j : Nat, k = .int .i64 (j : Int) ∧ j ≤ n ∧ wr.ownsRow b 3 1 (.slice (some ⟨b, 0, none⟩) N N) N (Lw.intsV .i64 (Lw.rowF N (Lw.itr pr g j))) ∧ Below b w0 wr) (fun _ k _ => n - (intOf k).toNat)
  case atStart => exact ⟨0, rfl, by omega, OWN0.out, hw0⟩
  case round =>
    clear OWN0 hw0
    obtain ⟨j, rfl, hj, own, hB⟩ := hrel
    by_cases hlt : j < n
    · have OWN := Lib.hid own
      clear own
      obtain ⟨N1, N2⟩ := N32
      go_wp2_with fail
      go_loopw [7, 8, 15] (fun xx yy x wr => ∃ i : Nat, x = .int .i64 (i : Int) ∧ i ≤ N ∧ wr.ownsRow b 3 1 (.slice (some ⟨b, 0, none⟩) N N) N (Lw.intsV .i64 (Lw.rowF N (Lw.flyM pr j i (Lw.itr pr g j)))) ∧ Below b w0 wr) (fun _ _ x _ => N - (intOf x).toNat)
      case atStart => exact ⟨0, rfl, by omega, by rw [Lw.flyM_zero]; exact OWN.out, hB⟩
      case round =>
        clear OWN hB
        obtain ⟨i, rfl, hi, own, hB⟩ := hrel
        by_cases hil : i < N
        · have j5 : j < 5 := by omega
          have i32 : i < 32 := by omega
          have OR := Lw.or_bits j j5 i i32
          have OWN := Lib.hid own
          clear own
          rcases (show i / 2 ^ j % 2 = 1 ∨ i / 2 ^ j % 2 = 0 by omega) with hb | hb
          · rw [if_pos hb] at OR
            have NX := Lib.hid (Lw.flyM_skip (pr := pr) (g := Lw.itr pr g j) j5 N1 hb)
            have OR : bits BinOp.or IntKind.i64 ((i : Nat) : Int) (wrap64 (2 ^ j)) = ((i : Nat) : Int) := by rw [← IntWalk.i64_left]; exact OR
            have ne : (bits BinOp.or IntKind.i64 ((i : Nat) : Int) (wrap64 (2 ^ j)) != ((i : Nat) : Int)) = false := by rw [OR]; simp
            clear hb
            go_wp2_with fail
            go_roundw
            case rel => exact ⟨i + 1, by go_num, by omega, by rw [NX.out]; exact OWN.out, hB⟩
            case measure => simp [intOf]; omega
          · rw [if_neg (by omega)] at OR
            have NX := Lw.flyM_step (pr := pr) (g := Lw.itr pr g j) j5 N1 i32 hb
            obtain ⟨e1, e2⟩ := Lw.flyM_at (pr := pr) (g := Lw.itr pr g j) j5 i32 hb
            have hyN := BI.out j hlt i hil hb
            have hp2 : 0 < 2 ^ j := Nat.two_pow_pos j
            have B1 := HBD.out j i (by omega) hil
            have B2 := HBD.out j (i + 2 ^ j) (by omega) hyN
            obtain ⟨y, hy⟩ : ∃ y, i + 2 ^ j = y := ⟨_, rfl⟩
            rw [hy] at NX e2 hyN B2 OR
            have OR : bits BinOp.or IntKind.i64 ((i : Nat) : Int) (wrap64 (2 ^ j)) = ((y : Nat) : Int) := by rw [← IntWalk.i64_left]; exact OR
            have ne : ((y : Nat) : Int) ≠ ((i : Nat) : Int) := by omega
            have ne : (bits BinOp.or IntKind.i64 ((i : Nat) : Int) (wrap64 (2 ^ j)) != ((i : Nat) : Int)) = true := by rw [OR]; simpa using ne
            obtain ⟨G, hG⟩ : ∃ G, Lw.flyM pr j i (Lw.itr pr g j) = G := ⟨_, rfl⟩
            rw [hG] at e1 e2 NX OWN
            rw [← e1, ← e2] at NX
            rw [← e1] at B1
            rw [← e2] at B2
            have G1 : (Lw.intsV .i64 (Lw.rowF N G))[i]? = some (.int .i64 (G i)) := by rw [Lw.intsV, List.getElem?_map, Lw.rowF_get hil]; rfl
            have G2 : (Lw.intsV .i64 (Lw.rowF N G))[y]? = some (.int .i64 (G y)) := by rw [Lw.intsV, List.getElem?_map, Lw.rowF_get hyN]; rfl
            have hyi : y ≠ i := by omega
            obtain ⟨a1, ha1⟩ : ∃ z, G i = z := ⟨_, rfl⟩
            obtain ⟨a2, ha2⟩ : ∃ z, G y = z := ⟨_, rfl⟩
            rw [ha1] at B1 NX G1
            rw [ha2] at B2 NX G2
            have CL := Lib.hid (fun W => HC.out a1 a2 W B1 B2)
            obtain ⟨r1, hr1⟩ : ∃ z, (pr a1 a2).1 = z := ⟨_, rfl⟩
            obtain ⟨r2, hr2⟩ : ∃ z, (pr a1 a2).2 = z := ⟨_, rfl⟩
            rw [hr1, hr2] at NX CL
            have OD := OWN.out
            obtain ⟨c0, f0, hg0, hgl⟩ := Lw.own_cell (i := i) OD G1
            obtain ⟨c2, f2, hg2, hgl2⟩ := Lw.own_cell (i := y) OD G2
            have OW1 := Lw.own_set (v := .int .i64 r1) OD hil
            have G3 : ((Lw.intsV .i64 (Lw.rowF N G)).set i (.int .i64 r1))[y]? = some (.int .i64 a2) := by rw [List.getElem?_set_ne (fun e => hyi e.symm)]; exact G2
            obtain ⟨c4, f4, hg4, hgl4⟩ := Lw.own_cell (i := y) OW1 G3
            have OW2 := Lib.hid (Lw.own_set (v := .int .i64 r2) OW1 hyN)
            have NX := Lib.hid NX
            have hiN : (i : Int) < (N : Int) := by omega
            have hyN' : (y : Int) < (N : Int) := by omega
            clear hb hy e1 e2 hG ha1 ha2 hr1 hr2 G1 G2 G3 OW1 OD OWN HC HBD BI hp2
            go_wp2_with fail
            have SX : True ∧ True ∧ True ∧ True := ⟨trivial, trivial, trivial, trivial⟩
            refine wp_region_held_drew (S := fun _ => True ∧ True ∧ True ∧ True) (by kernel_rfl) SX (fun hHeld => ?_)
            (refine Lw.take1 (i := 0) (v := ?_) rfl (by kernel_rfl) (by kernel_rfl) (by kernel_rfl) (fun _ _ _ h => h) (Or.inl ⟨by rfl, ?_⟩) (by assumption) ?_; rotate_left 1; (focus (intro wS hSw; obtain ⟨hS1, hS2, hS3, hS4⟩ := hSw; go_simp <;> with_reducible rfl)); (try simp only [Act.put, List.setIfInBounds_toArray, List.set_cons_zero, List.set_cons_succ]))
            (refine Lw.take1 (i := 1) (v := ?_) rfl (by kernel_rfl) (by kernel_rfl) (by kernel_rfl) (fun _ _ _ h => h) (Or.inl ⟨by rfl, ?_⟩) (by assumption) ?_; rotate_left 1; (focus (intro wS hSw; obtain ⟨hS1, hS2, hS3, hS4⟩ := hSw; go_simp <;> with_reducible rfl)); (try simp only [Act.put, List.setIfInBounds_toArray, List.set_cons_zero, List.set_cons_succ]))
            (refine Lw.take1 (i := 2) (v := ?_) rfl (by kernel_rfl) (by kernel_rfl) (by kernel_rfl) (fun _ _ _ h => h) (Or.inl ⟨by rfl, ?_⟩) (by assumption) ?_; rotate_left 1; (focus (intro wS hSw; obtain ⟨hS1, hS2, hS3, hS4⟩ := hSw; go_simp <;> with_reducible rfl)); (try simp only [Act.put, List.setIfInBounds_toArray, List.set_cons_zero, List.set_cons_succ]))
            (refine Lw.take1 (i := 3) (v := ?_) rfl (by kernel_rfl) (by kernel_rfl) (by kernel_rfl) (fun _ _ _ h => h) (Or.inl ⟨by rfl, ?_⟩) (by assumption) ?_; rotate_left 1; (focus (intro wS hSw; obtain ⟨hS1, hS2, hS3, hS4⟩ := hSw; go_simp <;> with_reducible rfl)); (try simp only [Act.put, List.setIfInBounds_toArray, List.set_cons_zero, List.set_cons_succ]))
            (refine Lw.take1 (i := 4) (v := ?_) rfl (by kernel_rfl) (by kernel_rfl) (by kernel_rfl) (fun _ _ _ h => h) (Or.inl ⟨by rfl, ?_⟩) (by assumption) ?_; rotate_left 1; (focus (intro wS hSw; obtain ⟨hS1, hS2, hS3, hS4⟩ := hSw; go_simp <;> with_reducible rfl)); (try simp only [Act.put, List.setIfInBounds_toArray, List.set_cons_zero, List.set_cons_succ]))
            (refine Lw.take1 (i := 5) (v := ?_) rfl (by kernel_rfl) (by kernel_rfl) (by kernel_rfl) (fun _ _ _ h => h) (Or.inl ⟨by rfl, ?_⟩) (by assumption) ?_; rotate_left 1; (focus (intro wS hSw; obtain ⟨hS1, hS2, hS3, hS4⟩ := hSw; go_simp <;> with_reducible rfl)); (try simp only [Act.put, List.setIfInBounds_toArray, List.set_cons_zero, List.set_cons_succ]))
            (refine Lw.take1 (i := 6) (v := ?_) rfl (by kernel_rfl) (by kernel_rfl) (by kernel_rfl) (fun _ _ _ h => h) (Or.inl ⟨by rfl, ?_⟩) (by assumption) ?_; rotate_left 1; (focus (intro wS hSw; obtain ⟨hS1, hS2, hS3, hS4⟩ := hSw; go_simp <;> with_reducible rfl)); (try simp only [Act.put, List.setIfInBounds_toArray, List.set_cons_zero, List.set_cons_succ]))
            (refine Lw.take1 (i := 7) (v := ?_) rfl (by kernel_rfl) (by kernel_rfl) (by kernel_rfl) (fun _ _ _ h => h) (Or.inl ⟨by rfl, ?_⟩) (by assumption) ?_; rotate_left 1; (focus (intro wS hSw; obtain ⟨hS1, hS2, hS3, hS4⟩ := hSw; go_simp <;> with_reducible rfl)); (try simp only [Act.put, List.setIfInBounds_toArray, List.set_cons_zero, List.set_cons_succ]))
            (refine Lw.take1 (i := 9) (v := ?_) rfl (by kernel_rfl) (by kernel_rfl) (by kernel_rfl) (fun _ _ _ h => h) (Or.inl ⟨by rfl, ?_⟩) (by assumption) ?_; rotate_left 1; (focus (intro wS hSw; obtain ⟨hS1, hS2, hS3, hS4⟩ := hSw; go_simp <;> with_reducible rfl)); (try simp only [Act.put, List.setIfInBounds_toArray, List.set_cons_zero, List.set_cons_succ]))
            (refine Lw.take1 (i := 10) (v := ?_) rfl (by kernel_rfl) (by kernel_rfl) (by kernel_rfl) (fun _ _ _ h => h) (Or.inl ⟨by rfl, ?_⟩) (by assumption) ?_; rotate_left 1; (focus (intro wS hSw; obtain ⟨hS1, hS2, hS3, hS4⟩ := hSw; go_simp <;> with_reducible rfl)); (try simp only [Act.put, List.setIfInBounds_toArray, List.set_cons_zero, List.set_cons_succ]))
            (refine Lw.take1 (i := 11) (v := ?_) rfl (by kernel_rfl) (by kernel_rfl) (by kernel_rfl) (fun _ _ _ h => h) (Or.inl ⟨by rfl, ?_⟩) (by assumption) ?_; rotate_left 1; (focus (intro wS hSw; obtain ⟨hS1, hS2, hS3, hS4⟩ := hSw; go_simp <;> with_reducible rfl)); (try simp only [Act.put, List.setIfInBounds_toArray, List.set_cons_zero, List.set_cons_succ]))
            refine wpAnyH_ready (rs := [8, 12]) (by kernel_rfl) (by simp) ?_
            refine Lw.cons1 (i := 8) rfl (fun K hK => ?_) (Lw.cons1 (i := 12) rfl (fun K hK => ?_) AllReadyH.nil)
            · (go_simp; refine hK.out _ _ ?_ (fun hHeld => ?_); (focus exact SX); clear hK K; (try simp only [Act.put, List.setIfInBounds_toArray, List.set_cons_zero, List.set_cons_succ]))
              refine wpAnyH_ready (rs := [12]) (by kernel_rfl) (by simp) ?_
              refine Lw.cons1 (i := 12) rfl (fun K hK => ?_) AllReadyH.nil
              (go_simp; refine hK.out _ _ ?_ (fun hHeld => ?_); (focus exact SX); clear hK K; (try simp only [Act.put, List.setIfInBounds_toArray, List.set_cons_zero, List.set_cons_succ]))
              (refine wpAnyH_ready (rs := [13]) (by kernel_rfl) (by simp) ?_; refine Lw.cons1 (i := 13) rfl (fun K hK => ?_) AllReadyH.nil; go_simp; go_at_call 35; (with_reducible refine (CL.out _).mono ?_); rintro e w' ⟨rfl, rfl⟩; refine hK.out _ _ ?_ (fun hHeld => ?_); (focus exact SX); clear hK K; (try simp only [Act.put, List.setIfInBounds_toArray, List.set_cons_zero, List.set_cons_succ]))
              (refine Lw.take1 (i := 14) (v := ?_) rfl (by kernel_rfl) (by kernel_rfl) (by kernel_rfl) (fun _ _ _ h => h) (Or.inl ⟨by rfl, ?_⟩) (by assumption) ?_; rotate_left 1; (focus (intro wS hSw; obtain ⟨hS1, hS2, hS3, hS4⟩ := hSw; go_simp <;> with_reducible rfl)); (try simp only [Act.put, List.setIfInBounds_toArray, List.set_cons_zero, List.set_cons_succ]))
              (refine Lw.take1 (i := 15) (v := ?_) rfl (by kernel_rfl) (by kernel_rfl) (by kernel_rfl) (fun _ _ _ h => h) (Or.inl ⟨by rfl, ?_⟩) (by assumption) ?_; rotate_left 1; (focus (intro wS hSw; obtain ⟨hS1, hS2, hS3, hS4⟩ := hSw; go_simp <;> with_reducible rfl)); (try simp only [Act.put, List.setIfInBounds_toArray, List.set_cons_zero, List.set_cons_succ]))
              (refine Lw.take1 (i := 16) (v := ?_) rfl (by kernel_rfl) (by kernel_rfl) (by kernel_rfl) (fun _ _ _ h => h) (Or.inl ⟨by rfl, ?_⟩) (by assumption) ?_; rotate_left 1; (focus (intro wS hSw; obtain ⟨hS1, hS2, hS3, hS4⟩ := hSw; go_simp <;> with_reducible rfl)); (try simp only [Act.put, List.setIfInBounds_toArray, List.set_cons_zero, List.set_cons_succ]))
              (refine Lw.take1 (i := 17) (v := ?_) rfl (by kernel_rfl) (by kernel_rfl) (by kernel_rfl) (fun _ _ _ h => h) (Or.inl ⟨by rfl, ?_⟩) (by assumption) ?_; rotate_left 1; (focus (intro wS hSw; obtain ⟨hS1, hS2, hS3, hS4⟩ := hSw; go_simp <;> with_reducible rfl)); (try simp only [Act.put, List.setIfInBounds_toArray, List.set_cons_zero, List.set_cons_succ]))
              (refine wpAnyH_ready (rs := [18]) (by kernel_rfl) (by simp) ?_; refine Lw.cons1 (i := 18) rfl (fun K hK => ?_) AllReadyH.nil; go_simp; refine hK.out _ _ ?_ (fun hHeld => ?_); (focus exact SX); clear hK K; (try simp only [Act.put, List.setIfInBounds_toArray, List.set_cons_zero, List.set_cons_succ]))
              (refine Lw.take1 (i := 19) (v := ?_) rfl (by kernel_rfl) (by kernel_rfl) (by kernel_rfl) (fun _ _ _ h => h) (Or.inl ⟨by rfl, ?_⟩) (by assumption) ?_; rotate_left 1; (focus (intro wS hSw; obtain ⟨hS1, hS2, hS3, hS4⟩ := hSw; go_simp <;> with_reducible rfl)); (try simp only [Act.put, List.setIfInBounds_toArray, List.set_cons_zero, List.set_cons_succ]))
              (refine wpAnyH_ready (rs := [20]) (by kernel_rfl) (by simp) ?_; refine Lw.cons1 (i := 20) rfl (fun K hK => ?_) AllReadyH.nil; go_simp; refine hK.out _ _ ?_ (fun hHeld => ?_); (focus exact SX); clear hK K; (try simp only [Act.put, List.setIfInBounds_toArray, List.set_cons_zero, List.set_cons_succ]))
              refine wpAnyH_done (by kernel_rfl) ?_ _
              go_wp2
              go_roundw
              case rel => exact ⟨i + 1, by go_num, by omega, by rw [← NX.out]; have := OW2.out; rw [Lw.intsV, ← List.map_set, ← List.map_set] at this; exact this, by first | exact (Below.drew (hB.setCell (Nat.le_refl b) _)).setCell (Nat.le_refl b) _ | exact ((Below.drew hB).setCell (Nat.le_refl b) _).setCell (Nat.le_refl b) _ | exact Below.drew ((hB.setCell (Nat.le_refl b) _).setCell (Nat.le_refl b) _)⟩
              case measure => simp [intOf]; omega
            · (go_simp; refine hK.out _ _ ?_ (fun hHeld => ?_); (focus exact SX); clear hK K; (try simp only [Act.put, List.setIfInBounds_toArray, List.set_cons_zero, List.set_cons_succ]))
              refine wpAnyH_ready (rs := [8]) (by kernel_rfl) (by simp) ?_
              refine Lw.cons1 (i := 8) rfl (fun K hK => ?_) AllReadyH.nil
              (go_simp; refine hK.out _ _ ?_ (fun hHeld => ?_); (focus exact SX); clear hK K; (try simp only [Act.put, List.setIfInBounds_toArray, List.set_cons_zero, List.set_cons_succ]))
              (refine wpAnyH_ready (rs := [13]) (by kernel_rfl) (by simp) ?_; refine Lw.cons1 (i := 13) rfl (fun K hK => ?_) AllReadyH.nil; go_simp; go_at_call 35; (with_reducible refine (CL.out _).mono ?_); rintro e w' ⟨rfl, rfl⟩; refine hK.out _ _ ?_ (fun hHeld => ?_); (focus exact SX); clear hK K; (try simp only [Act.put, List.setIfInBounds_toArray, List.set_cons_zero, List.set_cons_succ]))
              (refine Lw.take1 (i := 14) (v := ?_) rfl (by kernel_rfl) (by kernel_rfl) (by kernel_rfl) (fun _ _ _ h => h) (Or.inl ⟨by rfl, ?_⟩) (by assumption) ?_; rotate_left 1; (focus (intro wS hSw; obtain ⟨hS1, hS2, hS3, hS4⟩ := hSw; go_simp <;> with_reducible rfl)); (try simp only [Act.put, List.setIfInBounds_toArray, List.set_cons_zero, List.set_cons_succ]))
              (refine Lw.take1 (i := 15) (v := ?_) rfl (by kernel_rfl) (by kernel_rfl) (by kernel_rfl) (fun _ _ _ h => h) (Or.inl ⟨by rfl, ?_⟩) (by assumption) ?_; rotate_left 1; (focus (intro wS hSw; obtain ⟨hS1, hS2, hS3, hS4⟩ := hSw; go_simp <;> with_reducible rfl)); (try simp only [Act.put, List.setIfInBounds_toArray, List.set_cons_zero, List.set_cons_succ]))
              (refine Lw.take1 (i := 16) (v := ?_) rfl (by kernel_rfl) (by kernel_rfl) (by kernel_rfl) (fun _ _ _ h => h) (Or.inl ⟨by rfl, ?_⟩) (by assumption) ?_; rotate_left 1; (focus (intro wS hSw; obtain ⟨hS1, hS2, hS3, hS4⟩ := hSw; go_simp <;> with_reducible rfl)); (try simp only [Act.put, List.setIfInBounds_toArray, List.set_cons_zero, List.set_cons_succ]))
              (refine Lw.take1 (i := 17) (v := ?_) rfl (by kernel_rfl) (by kernel_rfl) (by kernel_rfl) (fun _ _ _ h => h) (Or.inl ⟨by rfl, ?_⟩) (by assumption) ?_; rotate_left 1; (focus (intro wS hSw; obtain ⟨hS1, hS2, hS3, hS4⟩ := hSw; go_simp <;> with_reducible rfl)); (try simp only [Act.put, List.setIfInBounds_toArray, List.set_cons_zero, List.set_cons_succ]))
              (refine wpAnyH_ready (rs := [18]) (by kernel_rfl) (by simp) ?_; refine Lw.cons1 (i := 18) rfl (fun K hK => ?_) AllReadyH.nil; go_simp; refine hK.out _ _ ?_ (fun hHeld => ?_); (focus exact SX); clear hK K; (try simp only [Act.put, List.setIfInBounds_toArray, List.set_cons_zero, List.set_cons_succ]))
              (refine Lw.take1 (i := 19) (v := ?_) rfl (by kernel_rfl) (by kernel_rfl) (by kernel_rfl) (fun _ _ _ h => h) (Or.inl ⟨by rfl, ?_⟩) (by assumption) ?_; rotate_left 1; (focus (intro wS hSw; obtain ⟨hS1, hS2, hS3, hS4⟩ := hSw; go_simp <;> with_reducible rfl)); (try simp only [Act.put, List.setIfInBounds_toArray, List.set_cons_zero, List.set_cons_succ]))
              (refine wpAnyH_ready (rs := [20]) (by kernel_rfl) (by simp) ?_; refine Lw.cons1 (i := 20) rfl (fun K hK => ?_) AllReadyH.nil; go_simp; refine hK.out _ _ ?_ (fun hHeld => ?_); (focus exact SX); clear hK K; (try simp only [Act.put, List.setIfInBounds_toArray, List.set_cons_zero, List.set_cons_succ]))
              refine wpAnyH_done (by kernel_rfl) ?_ _
              go_wp2
              go_roundw
              case rel => exact ⟨i + 1, by go_num, by omega, by rw [← NX.out]; have := OW2.out; rw [Lw.intsV, ← List.map_set, ← List.map_set] at this; exact this, by first | exact (Below.drew (hB.setCell (Nat.le_refl b) _)).setCell (Nat.le_refl b) _ | exact ((Below.drew hB).setCell (Nat.le_refl b) _).setCell (Nat.le_refl b) _ | exact Below.drew ((hB.setCell (Nat.le_refl b) _).setCell (Nat.le_refl b) _)⟩
              case measure => simp [intOf]; omega
        · have hiN : i = N := by omega
          subst hiN
          rw [Lw.flyM_end] at own
          have OWN := Lib.hid own
          clear own
          go_wp2_with fail
          go_roundw
          case rel => exact ⟨j + 1, by go_num, by omega, OWN.out, hB⟩
          case measure => simp [intOf]; omega
    · have hjn : j = n := by omega
      subst hjn
      have OWN := Lib.hid own
      clear own
      go_wp2_with fail
      refine ⟨rfl, .tuple #[], results_none rfl _ _ _, OWN.out, hB, _, rfl⟩

end Go.Proofs.Yteeicpfjmahmeaa
