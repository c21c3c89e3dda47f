/- The reference's left: the walk. -/
import Derived.Test.YtjhjppaabmbbbaaPlq
import Derived.Test.YtjhjppaabmbbbaaRegS
namespace Lw
open Go Go.RowKit
theorem leftS_plusK {p : Int} {b : List Int} {li : Int} {R : List Int} {i u : Nat} (hu : i + 1 - b.length = u) (hb : b.length ≤ i + 1) (k : Int) (hk : R.getD i 0 * li % p = k) : leftS p b li R i = plusK p R b (-k) u R.length b.length := by
  unfold leftS plusK
  apply List.map_congr_left
  intro x _
  unfold plusF
  rw [hu, hk]
  by_cases h : u ≤ x ∧ x ≤ i
  · rw [if_pos h, if_pos (by omega)]; congr 1; grind
  · rw [if_neg h, if_neg (by omega)]
theorem leftN_mem {p : Int} (hp : 0 < p) {a b : List Int} {li : Int} (ha : ∀ x ∈ a, 0 ≤ x ∧ x < p) : ∀ t, ∀ x ∈ leftN p a b li t, 0 ≤ x ∧ x < p
  | 0 => ha
  | t + 1 => by
    intro x hx
    obtain ⟨i, _, rfl⟩ := List.mem_map.1 hx
    split
    · exact ⟨Int.emod_nonneg _ (by omega), Int.emod_lt_of_pos _ hp⟩
    · exact getD_bd hp (leftN_mem hp ha t) i
theorem plusK_self {p : Int} {b : List Int} {κ : Int} {u : Nat} {R : List Int} : plusK p R b κ u R.length 0 = R := by
  rw [plusK_zero (Nat.le_refl _)]; simp
theorem drewN_own' {w : Go.World} {base e size n : Nat} {v : Go.Value} {xs : List Go.Value} (h : w.ownsRow base e size v n xs) (d : Nat) : (w.drewN d).ownsRow base e size v n xs := h
end Lw
set_option linter.unusedVariables false
set_option linter.unusedSimpArgs false
namespace Go.Proofs.Ytjhjppaabmbbbaa
open Go.RowKit
set_option maxRecDepth 100000 in
set_option maxHeartbeats 4000000 in
theorem ref_left (p : Int) (A B : Option Addr) (n c m d : Nat) (a b : List Int) (w : World) (RA : Lw.Rd w 1 A n (Lw.intsV .i64 a)) (RB : Lw.Rd w 1 B m (Lw.intsV .i64 b))
    (ha : ∀ x ∈ a, 0 ≤ x ∧ x < p) (hb : ∀ x ∈ b, 0 ≤ x ∧ x < p) (p1 : 2 ≤ p) (p2 : p ≤ 251) (hp : Lw.primeB p = true) (hn : n ≤ 4096) (hm : m ≤ 4096) (m1 : 1 ≤ m) (hz : ¬ b.getD (b.length - 1) 0 = 0) :
    Calls Try.prog 97 #[.int .i64 p, .slice A n c, .slice B m d] w (Lw.RetL (Lw.trimL (Lw.leftN p a b (Lw.invR (b.getD (b.length - 1) 0) p) (a.length + 1 - b.length))) w) := by
  have la : a.length = n := by have := RA.1; simpa [Lw.intsV] using this
  have lb : b.length = m := by have := RB.1; simpa [Lw.intsV] using this
  obtain ⟨t0, ht0⟩ : ∃ t, m = t + 1 := ⟨m - 1, by omega⟩
  have htl : t0 < b.length := by omega
  have hbt : b.length - 1 = t0 := by omega
  have gb := Lw.getD_bd (by omega : 0 < p) hb (b.length - 1)
  obtain ⟨_, i2, i3⟩ := Lw.inv_prime hp (by omega) (by omega : 0 < b.getD (b.length - 1) 0) gb.2
  have IV := Lib.hid (fun w => ref_inverse (b.getD (b.length - 1) 0) p w hp (by omega) (by omega) gb.2)
  obtain ⟨bd, rfl, hbd, hbcell⟩ := RB.at1 (by omega : t0 < m) (Lw.intsV_get htl)
  have hval : b[t0] = b.getD (b.length - 1) 0 := by rw [hbt]; exact (Lw.getD_at htl).symm
  rw [hval] at hbcell
  obtain ⟨be, hbe⟩ : ∃ z, b.getD (b.length - 1) 0 = z := ⟨_, rfl⟩
  rw [hbe] at hbcell i2 i3 IV
  rw [hbe]
  obtain ⟨li, hli⟩ : ∃ z, Lw.invR be p = z := ⟨_, rfl⟩
  rw [hli] at i2 i3 IV
  rw [hli, la, lb]
  have LN := Lib.hid (fun t => Lw.leftN_length (p := p) (a := a) (b := b) (li := li) t)
  have BR := Lib.hid (fun t => Lw.getD_bd (by omega : 0 < p) (Lw.leftN_mem (p := p) (by omega) (b := b) (li := li) ha t))
  have own0 : ∀ w : World, (w.alloc (.cells #[] 2)).ownsRow w.heap.size 2 1 (.slice (some ⟨w.heap.size, 0, none⟩) 0 0) 0 [] := fun w => Lw.own_lit w rfl rfl (by omega) (Nat.le_refl _)
  have O0 : Hid (Lw.leftN p a b li 0 = a) := rfl
  have RA := Lib.hid RA
  have RB := Lib.hid RB
  have LA := Lib.hid la
  have LB := Lib.hid lb
  have HB := Lib.hid hb
  subst ht0
  have hbcell := Lib.hid hbcell
  clear ha hb la lb hval hbe hli hbt hz gb htl hp
  have p0 : ¬ p = 0 := by omega
  go_enter Try.func97, Try.ntmps97
  go_wp2_with (at_builtin; refine Lw.wpList_app elPly rfl _ _ rfl rfl (own0 _) rfl (RA.out.alloc _) (Lw.intsV_one _ _) (by omega) (Lw.balloc (Below.refl _ _) _) (Nat.le_refl _) (by simp) ?_; intro v2 w2 own2 hb2 _ _; rw [Nat.zero_add, List.nil_append] at own2; obtain ⟨C, g, rfl, hg, _, _⟩ := Lw.ownsForm own2)
  have own2 : w2.ownsRow w.heap.size 2 1 (.slice C n g) n (Lw.intsV .i64 (Lw.leftN p a b li 0)) := by rw [O0.out]; exact own2
  have OWN2 := Lib.hid own2
  clear own2
  go_loopw [8, 9, 10] (fun i k j wr => ∃ t : Nat, i = .int .i64 ((n : Int) - 1 - (t : Int)) ∧ t ≤ n + 1 - (t0 + 1) ∧ wr.ownsRow w.heap.size 2 1 (.slice C n g) n (Lw.intsV .i64 (Lw.leftN p a b li t)) ∧ Below w.heap.size w wr) (fun i _ _ _ => (intOf i + 1).toNat)
  case atStart => exact ⟨0, by simp, by omega, OWN2.out, by simpa using hb2⟩
  case round =>
    clear OWN2 hb2
    obtain ⟨t, rfl, ht, own, hB⟩ := hrel
    by_cases hlt : t < n + 1 - (t0 + 1)
    · obtain ⟨i, hi⟩ : ∃ i, n - 1 - t = i := ⟨_, rfl⟩
      have hi2 : (n : Int) - 1 - (t : Int) = (i : Int) := by omega
      have htt : (t0 : Int) ≤ (i : Int) := by omega
      rw [hi2]
      obtain ⟨R, hR⟩ : ∃ R, Lw.leftN p a b li t = R := ⟨_, rfl⟩
      have lR := LN.out t
      rw [hR, LA.out] at lR
      rw [hR] at own
      have bR : ∀ x, 0 ≤ R.getD x 0 ∧ R.getD x 0 < p := by rw [← hR]; exact BR.out t
      have XA := Lib.hid (fun D => ref_at C n g R (wr.drewN D) (Lw.Rd.of_own (Lw.drewN_own' own D)) i (by omega) (by omega))
      obtain ⟨tt, htv⟩ : ∃ z, R.getD i 0 = z := ⟨_, rfl⟩
      have tb := bR i
      rw [htv] at XA tb
      obtain ⟨tb1, tb2⟩ := tb
      obtain ⟨q1, q2⟩ := Lw.mul_ab (κ := tt) (x := li) (by omega) (by omega) i2 (by omega)
      have q3 : 0 ≤ tt * li := Int.mul_nonneg tb1 i2
      have e1 : IntKind.i64.wrap (tt * li) = tt * li := by rw [IntKind.wrap_i64]; omega
      have e2 : (tt * li).tmod p = tt * li % p := Int.tmod_eq_emod_of_nonneg q3
      have hbc := (hB.cell (by rw [Lw.add_block]; exact hbd)).trans hbcell.out
      have OWN := Lib.hid own
      clear own
      go_wp2_with fail
      go_quiet ((first | (go_at_call 129; exact Lw.quiet (XA.out _)) | (go_at_call 83; exact Lw.quiet (IV.out _))))
      go_wp2_with fail
      obtain ⟨kk, hkk⟩ : ∃ z, tt * li % p = z := ⟨_, rfl⟩
      rw [hkk]
      obtain ⟨kb1, kb2⟩ : 0 ≤ kk ∧ kk < p := by rw [← hkk]; exact ⟨Int.emod_nonneg _ p0, Int.emod_lt_of_pos _ (by omega)⟩
      obtain ⟨u, hu⟩ : ∃ u, i - t0 = u := ⟨_, rfl⟩
      have hin : i < n := by omega
      have hti : t0 ≤ i := by omega
      have NX := Lib.hid (fun jj => Lw.plusK_next (p := p) (a := R) (b := b) (κ := -kk) (u := u) (N := n) (k := jj))
      have GT := Lib.hid (fun jj => Lw.plusK_get (p := p) (a := R) (b := b) (κ := -kk) (u := u) (N := n) (k := jj))
      have LS : Hid (Lw.leftN p a b li (t + 1) = Lw.plusK p R b (-kk) u n (t0 + 1)) := by
        have h1 : Lw.leftN p a b li (t + 1) = Lw.leftS p b li R i := by show Lw.leftS p b li (Lw.leftN p a b li t) (a.length - 1 - t) = _; rw [hR, LA.out, hi]
        unfold Hid
        rw [h1, Lw.leftS_plusK (u := u) (by rw [LB.out]; omega) (by rw [LB.out]; omega) kk (by rw [htv]; exact hkk), lR, LB.out]
      obtain ⟨g0, rfl⟩ : ∃ g0, C = some ⟨g0, 0, none⟩ := by
        rcases OWN.out.2 with ⟨h0, h0'⟩ | ⟨g0, cap, cur, hv, _⟩
        · omega
        · injection hv with e1; exact ⟨g0, e1⟩
      have own2 : wr.ownsRow w.heap.size 2 1 (.slice (some ⟨g0, 0, none⟩) n g) n (Lw.intsV .i64 (Lw.plusK p R b (-kk) u n 0)) := by
        have := Lw.plusK_self (p := p) (b := b) (κ := -kk) (u := u) (R := R)
        rw [lR] at this
        rw [this]; exact OWN.out
      have OWN2 := Lib.hid own2
      clear own2 OWN XA
      go_loopw [10] (fun j w3 => ∃ jj : Nat, j = .int .i64 (jj : Int) ∧ jj ≤ t0 + 1 ∧ w3.ownsRow w.heap.size 2 1 (.slice (some ⟨g0, 0, none⟩) n g) n (Lw.intsV .i64 (Lw.plusK p R b (-kk) u n jj)) ∧ Below w.heap.size w w3) (fun j _ => t0 + 1 - (intOf j).toNat)
      case atStart => exact ⟨0, rfl, by omega, OWN2.out, by first | exact Lw.bdrewN hB _ | exact Below.drew hB⟩
      case round =>
        clear OWN2
        obtain ⟨jj, rfl, hj, own, hB3⟩ := hrel
        by_cases hjl : jj < t0 + 1
        · have hbl : jj < b.length := by rw [LB.out]; exact hjl
          obtain ⟨be2, e', _, bcell⟩ := (RB.out.below (Nat.le_refl _) hB3).at1 hjl (Lw.intsV_get hbl)
          injection e' with e'
          subst e'
          obtain ⟨x1, x2⟩ := HB.out _ (List.getElem_mem hbl)
          have huj : u + jj < n := by omega
          have N1 := NX.out jj huj
          have G1 := GT.out jj huj
          rw [Lw.getD_at hbl] at N1
          obtain ⟨x, hx⟩ : ∃ z, b[jj] = z := ⟨_, rfl⟩
          rw [hx] at N1 bcell x1 x2
          obtain ⟨y1, y2⟩ := bR (u + jj)
          obtain ⟨s, hs⟩ : ∃ s, u + jj = s := ⟨_, rfl⟩
          rw [hs] at N1 G1 y1 y2 huj
          obtain ⟨y, hy⟩ : ∃ z, R.getD s 0 = z := ⟨_, rfl⟩
          rw [hy] at N1 G1 y1 y2
          obtain ⟨c0, f0, hg0, hgl⟩ := Lw.own_cell (i := s) own (by rw [Lw.intsV, List.getElem?_map, G1]; rfl)
          have OW3 := Lib.hid (Lw.own_set (v := .int .i64 ((y + -kk * x) % p)) own huj)
          have N1 := Lib.hid N1
          obtain ⟨r1, r2⟩ := Lw.mul_ab (κ := kk) (x := x) (by omega) (by omega) x1 (by omega)
          have e3 : IntKind.i64.wrap (kk * x) = kk * x := by rw [IntKind.wrap_i64]; omega
          have e4 : IntKind.i64.wrap (y - kk * x) = y - kk * x := by rw [IntKind.wrap_i64]; omega
          have MD := Lib.hid (fun w => ref_Mod (y - kk * x) p w (by omega) (by omega))
          have YE : Hid ((y - kk * x) % p = (y + -kk * x) % p) := by unfold Hid; rw [Int.neg_mul, Int.sub_eq_add_neg]
          have wA : IntKind.i64.wrap ((i : Int) - ((t0 : Int) + 1)) = (u : Int) - 1 := by rw [IntKind.wrap_i64]; omega
          have wB : IntKind.i64.wrap ((u : Int) - 1 + 1) = (u : Int) := by rw [IntKind.wrap_i64]; omega
          have wB' : IntKind.i64.wrap (u : Int) = (u : Int) := by rw [IntKind.wrap_i64]; omega
          have wC : IntKind.i64.wrap ((u : Int) + (jj : Int)) = (s : Int) := by rw [IntKind.wrap_i64]; omega
          have s0 : (0 : Int) ≤ (s : Int) := by omega
          have hsn : (s : Int) < (n : Int) := by omega
          have hjb : (jj : Int) < (t0 : Int) + 1 := by omega
          clear own G1 hx hy hs
          go_wp2_with fail
          have hbd2 : (bd.add jj).block < w.heap.size := by rw [Lw.add_block]; exact hbd
          have SX : wr.drew.cell? (bd.add jj) = some (.int .i64 x) ∧ True ∧ True ∧ True := ⟨bcell, trivial, trivial, trivial⟩
          have SY : (wr.drew.setCell ⟨g0, s, none⟩ (.int .i64 ((y + -kk * x) % p))).cell? (bd.add jj) = some (.int .i64 x) ∧ True ∧ True ∧ True :=
            ⟨by rw [World.cell?_setCell_far _ _ _ _ (by show g0 ≠ (bd.add jj).block; omega)]; exact bcell, trivial, trivial, trivial⟩
          refine wp_region_held_drew (S := fun w' => w'.cell? (bd.add jj) = some (.int .i64 x) ∧ True ∧ True ∧ True) (by kernel_rfl) SX (fun hHeld => ?_)
          (refine Lw.take1 (i := 0) (v := ?_) rfl (by kernel_rfl) (by kernel_rfl) (by kernel_rfl) (fun _ _ _ h => h) (Or.inl ⟨by rfl, ?_⟩) (by assumption) ?_; rotate_left 1; (focus (intro wS hSw; obtain ⟨hS1, hS2, hS3, hS4⟩ := hSw; go_simp <;> with_reducible rfl)); (try simp only [Act.put, List.setIfInBounds_toArray, List.set_cons_zero, List.set_cons_succ]))
          (refine Lw.take1 (i := 1) (v := ?_) rfl (by kernel_rfl) (by kernel_rfl) (by kernel_rfl) (fun _ _ _ h => h) (Or.inl ⟨by rfl, ?_⟩) (by assumption) ?_; rotate_left 1; (focus (intro wS hSw; obtain ⟨hS1, hS2, hS3, hS4⟩ := hSw; go_simp <;> with_reducible rfl)); (try simp only [Act.put, List.setIfInBounds_toArray, List.set_cons_zero, List.set_cons_succ]))
          (refine Lw.take1 (i := 2) (v := ?_) rfl (by kernel_rfl) (by kernel_rfl) (by kernel_rfl) (fun _ _ _ h => h) (Or.inl ⟨by rfl, ?_⟩) (by assumption) ?_; rotate_left 1; (focus (intro wS hSw; obtain ⟨hS1, hS2, hS3, hS4⟩ := hSw; go_simp <;> with_reducible rfl)); (try simp only [Act.put, List.setIfInBounds_toArray, List.set_cons_zero, List.set_cons_succ]))
          (refine Lw.take1 (i := 3) (v := ?_) rfl (by kernel_rfl) (by kernel_rfl) (by kernel_rfl) (fun _ _ _ h => h) (Or.inl ⟨by rfl, ?_⟩) (by assumption) ?_; rotate_left 1; (focus (intro wS hSw; obtain ⟨hS1, hS2, hS3, hS4⟩ := hSw; go_simp <;> with_reducible rfl)); (try simp only [Act.put, List.setIfInBounds_toArray, List.set_cons_zero, List.set_cons_succ]))
          (refine Lw.take1 (i := 4) (v := ?_) rfl (by kernel_rfl) (by kernel_rfl) (by kernel_rfl) (fun _ _ _ h => h) (Or.inl ⟨by rfl, ?_⟩) (by assumption) ?_; rotate_left 1; (focus (intro wS hSw; obtain ⟨hS1, hS2, hS3, hS4⟩ := hSw; go_simp <;> with_reducible rfl)); (try simp only [Act.put, List.setIfInBounds_toArray, List.set_cons_zero, List.set_cons_succ]))
          (refine Lw.take1 (i := 5) (v := ?_) rfl (by kernel_rfl) (by kernel_rfl) (by kernel_rfl) (fun _ _ _ h => h) (Or.inl ⟨by rfl, ?_⟩) (by assumption) ?_; rotate_left 1; (focus (intro wS hSw; obtain ⟨hS1, hS2, hS3, hS4⟩ := hSw; go_simp <;> with_reducible rfl)); (try simp only [Act.put, List.setIfInBounds_toArray, List.set_cons_zero, List.set_cons_succ]))
          (refine Lw.take1 (i := 6) (v := ?_) rfl (by kernel_rfl) (by kernel_rfl) (by kernel_rfl) (fun _ _ _ h => h) (Or.inl ⟨by rfl, ?_⟩) (by assumption) ?_; rotate_left 1; (focus (intro wS hSw; obtain ⟨hS1, hS2, hS3, hS4⟩ := hSw; go_simp <;> with_reducible rfl)); (try simp only [Act.put, List.setIfInBounds_toArray, List.set_cons_zero, List.set_cons_succ]))
          (refine Lw.take1 (i := 7) (v := ?_) rfl (by kernel_rfl) (by kernel_rfl) (by kernel_rfl) (fun _ _ _ h => h) (Or.inl ⟨by rfl, ?_⟩) (by assumption) ?_; rotate_left 1; (focus (intro wS hSw; obtain ⟨hS1, hS2, hS3, hS4⟩ := hSw; go_simp <;> with_reducible rfl)); (try simp only [Act.put, List.setIfInBounds_toArray, List.set_cons_zero, List.set_cons_succ]))
          (refine Lw.take1 (i := 8) (v := ?_) rfl (by kernel_rfl) (by kernel_rfl) (by kernel_rfl) (fun _ _ _ h => h) (Or.inl ⟨by rfl, ?_⟩) (by assumption) ?_; rotate_left 1; (focus (intro wS hSw; obtain ⟨hS1, hS2, hS3, hS4⟩ := hSw; go_simp <;> with_reducible rfl)); (try simp only [Act.put, List.setIfInBounds_toArray, List.set_cons_zero, List.set_cons_succ]))
          (refine Lw.take1 (i := 9) (v := ?_) rfl (by kernel_rfl) (by kernel_rfl) (by kernel_rfl) (fun _ _ _ h => h) (Or.inl ⟨by rfl, ?_⟩) (by assumption) ?_; rotate_left 1; (focus (intro wS hSw; obtain ⟨hS1, hS2, hS3, hS4⟩ := hSw; go_simp <;> with_reducible rfl)); (try simp only [Act.put, List.setIfInBounds_toArray, List.set_cons_zero, List.set_cons_succ]))
          (refine Lw.take1 (i := 10) (v := ?_) rfl (by kernel_rfl) (by kernel_rfl) (by kernel_rfl) (fun _ _ _ h => h) (Or.inl ⟨by rfl, ?_⟩) (by assumption) ?_; rotate_left 1; (focus (intro wS hSw; obtain ⟨hS1, hS2, hS3, hS4⟩ := hSw; go_simp <;> with_reducible rfl)); (try simp only [Act.put, List.setIfInBounds_toArray, List.set_cons_zero, List.set_cons_succ]))
          (refine Lw.take1 (i := 11) (v := ?_) rfl (by kernel_rfl) (by kernel_rfl) (by kernel_rfl) (fun _ _ _ h => h) (Or.inl ⟨by rfl, ?_⟩) (by assumption) ?_; rotate_left 1; (focus (intro wS hSw; obtain ⟨hS1, hS2, hS3, hS4⟩ := hSw; go_simp <;> with_reducible rfl)); (try simp only [Act.put, List.setIfInBounds_toArray, List.set_cons_zero, List.set_cons_succ]))
          (refine Lw.take1 (i := 12) (v := ?_) rfl (by kernel_rfl) (by kernel_rfl) (by kernel_rfl) (fun _ _ _ h => h) (Or.inl ⟨by rfl, ?_⟩) (by assumption) ?_; rotate_left 1; (focus (intro wS hSw; obtain ⟨hS1, hS2, hS3, hS4⟩ := hSw; go_simp <;> with_reducible rfl)); (try simp only [Act.put, List.setIfInBounds_toArray, List.set_cons_zero, List.set_cons_succ]))
          (refine Lw.take1 (i := 13) (v := ?_) rfl (by kernel_rfl) (by kernel_rfl) (by kernel_rfl) (fun _ _ _ h => h) (Or.inl ⟨by rfl, ?_⟩) (by assumption) ?_; rotate_left 1; (focus (intro wS hSw; obtain ⟨hS1, hS2, hS3, hS4⟩ := hSw; go_simp <;> with_reducible rfl)); (try simp only [Act.put, List.setIfInBounds_toArray, List.set_cons_zero, List.set_cons_succ]))
          (refine Lw.take1 (i := 14) (v := ?_) rfl (by kernel_rfl) (by kernel_rfl) (by kernel_rfl) (fun _ _ _ h => h) (Or.inl ⟨by rfl, ?_⟩) (by assumption) ?_; rotate_left 1; (focus (intro wS hSw; obtain ⟨hS1, hS2, hS3, hS4⟩ := hSw; go_simp <;> with_reducible rfl)); (try simp only [Act.put, List.setIfInBounds_toArray, List.set_cons_zero, List.set_cons_succ]))
          (refine Lw.take1 (i := 15) (v := ?_) rfl (by kernel_rfl) (by kernel_rfl) (by kernel_rfl) (fun _ _ _ h => h) (Or.inl ⟨by rfl, ?_⟩) (by assumption) ?_; rotate_left 1; (focus (intro wS hSw; obtain ⟨hS1, hS2, hS3, hS4⟩ := hSw; go_simp <;> with_reducible rfl)); (try simp only [Act.put, List.setIfInBounds_toArray, List.set_cons_zero, List.set_cons_succ]))
          (refine Lw.take1 (i := 16) (v := ?_) rfl (by kernel_rfl) (by kernel_rfl) (by kernel_rfl) (fun _ _ _ h => h) (Or.inl ⟨by rfl, ?_⟩) (by assumption) ?_; rotate_left 1; (focus (intro wS hSw; obtain ⟨hS1, hS2, hS3, hS4⟩ := hSw; go_simp <;> with_reducible rfl)); (try simp only [Act.put, List.setIfInBounds_toArray, List.set_cons_zero, List.set_cons_succ]))
          (refine Lw.take1 (i := 18) (v := ?_) rfl (by kernel_rfl) (by kernel_rfl) (by kernel_rfl) (fun _ _ _ h => h) (Or.inl ⟨by rfl, ?_⟩) (by assumption) ?_; rotate_left 1; (focus (intro wS hSw; obtain ⟨hS1, hS2, hS3, hS4⟩ := hSw; go_simp <;> with_reducible rfl)); (try simp only [Act.put, List.setIfInBounds_toArray, List.set_cons_zero, List.set_cons_succ]))
          (refine Lw.take1 (i := 19) (v := ?_) rfl (by kernel_rfl) (by kernel_rfl) (by kernel_rfl) (fun _ _ _ h => h) (Or.inl ⟨by rfl, ?_⟩) (by assumption) ?_; rotate_left 1; (focus (intro wS hSw; obtain ⟨hS1, hS2, hS3, hS4⟩ := hSw; go_simp <;> with_reducible rfl)); (try simp only [Act.put, List.setIfInBounds_toArray, List.set_cons_zero, List.set_cons_succ]))
          (refine Lw.take1 (i := 20) (v := ?_) rfl (by kernel_rfl) (by kernel_rfl) (by kernel_rfl) (fun _ _ _ h => h) (Or.inl ⟨by rfl, ?_⟩) (by assumption) ?_; rotate_left 1; (focus (intro wS hSw; obtain ⟨hS1, hS2, hS3, hS4⟩ := hSw; go_simp <;> with_reducible rfl)); (try simp only [Act.put, List.setIfInBounds_toArray, List.set_cons_zero, List.set_cons_succ]))
          (refine Lw.take1 (i := 21) (v := ?_) rfl (by kernel_rfl) (by kernel_rfl) (by kernel_rfl) (fun _ _ _ h => h) (Or.inl ⟨by rfl, ?_⟩) (by assumption) ?_; rotate_left 1; (focus (intro wS hSw; obtain ⟨hS1, hS2, hS3, hS4⟩ := hSw; go_simp <;> with_reducible rfl)); (try simp only [Act.put, List.setIfInBounds_toArray, List.set_cons_zero, List.set_cons_succ]))
          (refine Lw.take1 (i := 22) (v := ?_) rfl (by kernel_rfl) (by kernel_rfl) (by kernel_rfl) (fun _ _ _ h => h) (Or.inl ⟨by rfl, ?_⟩) (by assumption) ?_; rotate_left 1; (focus (intro wS hSw; obtain ⟨hS1, hS2, hS3, hS4⟩ := hSw; go_simp <;> with_reducible rfl)); (try simp only [Act.put, List.setIfInBounds_toArray, List.set_cons_zero, List.set_cons_succ]))
          (refine Lw.take1 (i := 23) (v := ?_) rfl (by kernel_rfl) (by kernel_rfl) (by kernel_rfl) (fun _ _ _ h => h) (Or.inl ⟨by rfl, ?_⟩) (by assumption) ?_; rotate_left 1; (focus (intro wS hSw; obtain ⟨hS1, hS2, hS3, hS4⟩ := hSw; go_simp <;> with_reducible rfl)); (try simp only [Act.put, List.setIfInBounds_toArray, List.set_cons_zero, List.set_cons_succ]))
          (refine Lw.take1 (i := 25) (v := ?_) rfl (by kernel_rfl) (by kernel_rfl) (by kernel_rfl) (fun _ _ _ h => h) (Or.inl ⟨by rfl, ?_⟩) (by assumption) ?_; rotate_left 1; (focus (intro wS hSw; obtain ⟨hS1, hS2, hS3, hS4⟩ := hSw; go_simp <;> with_reducible rfl)); (try simp only [Act.put, List.setIfInBounds_toArray, List.set_cons_zero, List.set_cons_succ]))
          refine wpAnyH_ready (rs := [17]) (by kernel_rfl) (by simp) ?_
          refine Lw.cons1 (i := 17) rfl (fun K hK => ?_) AllReadyH.nil
          (go_simp; refine hK.out _ _ ?_ (fun hHeld => ?_); (focus exact SX); clear hK K; (try simp only [Act.put, List.setIfInBounds_toArray, List.set_cons_zero, List.set_cons_succ]))
          (refine Lw.take1 (i := 24) (v := ?_) rfl (by kernel_rfl) (by kernel_rfl) (by kernel_rfl) (fun _ _ _ h => h) (Or.inl ⟨by rfl, ?_⟩) (by assumption) ?_; rotate_left 1; (focus (intro wS hSw; obtain ⟨hS1, hS2, hS3, hS4⟩ := hSw; go_simp <;> with_reducible rfl)); (try simp only [Act.put, List.setIfInBounds_toArray, List.set_cons_zero, List.set_cons_succ]))
          (refine wpAnyH_ready (rs := [26]) (by kernel_rfl) (by simp) ?_; refine Lw.cons1 (i := 26) rfl (fun K hK => ?_) AllReadyH.nil; go_simp; go_at_call 84; (with_reducible refine (MD.out _).mono ?_); rintro e w' ⟨rfl, rfl⟩; refine hK.out _ _ ?_ (fun hHeld => ?_); (focus exact SX); clear hK K; (try simp only [Act.put, List.setIfInBounds_toArray, List.set_cons_zero, List.set_cons_succ]))
          (refine Lw.take1 (i := 27) (v := ?_) rfl (by kernel_rfl) (by kernel_rfl) (by kernel_rfl) (fun _ _ _ h => h) (Or.inl ⟨by rfl, ?_⟩) (by assumption) ?_; rotate_left 1; (focus (intro wS hSw; obtain ⟨hS1, hS2, hS3, hS4⟩ := hSw; go_simp <;> with_reducible rfl)); (try simp only [Act.put, List.setIfInBounds_toArray, List.set_cons_zero, List.set_cons_succ]))
          rw [YE.out]
          (refine wpAnyH_ready (rs := [28]) (by kernel_rfl) (by simp) ?_; refine Lw.cons1 (i := 28) rfl (fun K hK => ?_) AllReadyH.nil; go_simp; refine hK.out _ _ ?_ (fun hHeld => ?_); (focus exact SY); clear hK K; (try simp only [Act.put, List.setIfInBounds_toArray, List.set_cons_zero, List.set_cons_succ]))
          refine wpAnyH_done (by kernel_rfl) ?_ _
          go_wp2
          go_roundw
          case rel => exact ⟨jj + 1, by go_num, by omega, by rw [N1.out]; have := OW3.out; rw [Lw.intsV, ← List.map_set] at this; exact this, Lw.bset (Below.drew hB3) hg0 _⟩
          case measure => simp [intOf]; omega
        · have hjj : jj = t0 + 1 := by omega
          subst hjj
          rw [← LS.out] at own
          have OWN4 := Lib.hid own
          clear own
          go_wp2
          go_roundw
          case rel => exact ⟨t + 1, by go_num, by omega, OWN4.out, hB3⟩
          case measure => (first | (simp [intOf]; done) | (simp [intOf]; omega))
    · have htn : t = n + 1 - (t0 + 1) := by omega
      subst htn
      obtain ⟨z, hz⟩ : ∃ z, (n : Int) - 1 - ((n + 1 - (t0 + 1) : Nat) : Int) = z := ⟨_, rfl⟩
      have h1 : ¬ (t0 : Int) ≤ z := by omega
      rw [hz]
      have TR := Lib.hid (ref_trimmed C n g (Lw.leftN p a b li (n + 1 - (t0 + 1))) wr (Lw.Rd.of_own own) hg (by omega))
      clear own hz
      go_wp2_with (go_at_call 86; (with_reducible refine TR.out.mono ?_); rintro e w' ⟨C', m', c', rfl, R', hc', hb'⟩)
      go_ret
      exact ⟨C', m', c', rfl, R', hc', Lw.bt hB hb'⟩
end Go.Proofs.Ytjhjppaabmbbbaa
