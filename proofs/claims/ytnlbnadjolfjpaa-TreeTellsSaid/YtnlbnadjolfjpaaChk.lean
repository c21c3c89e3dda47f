/- slices.Chunk by two: the iterator. -/
import Derived.Test.YtnlbnadjolfjpaaBkw
import Derived.Test.YtnlbnadjolfjpaaRegS
import Derived.Test.YtnlbnadjolfjpaaRne
namespace Lw
open Go Go.RowKit
/-- the first m pieces of a row of len: where each begins, and how long it is -/
def chk (len : Nat) : Nat → List (Nat × Nat)
  | 0 => []
  | m + 1 => chk len m ++ [(2 * m, min 2 (len - 2 * m))]
/-- a piece of one or two of a row -/
def PcOk (len : Nat) (x : Nat × Nat) : Prop := x.1 + x.2 ≤ len ∧ (x.2 = 1 ∨ x.2 = 2)
abbrev Pc (len : Nat) := { x : Nat × Nat // PcOk len x }
theorem chk_length (len : Nat) : ∀ m, (chk len m).length = m
  | 0 => rfl
  | m + 1 => by unfold chk; rw [List.length_append, chk_length len m]; rfl
end Lw
namespace Go.Proofs.Ytnlbnadjolfjpaa
open Go.RowKit Go.Shelf
attribute [local go_sem] Oper.semAt_some
set_option maxRecDepth 100000 in
set_option maxHeartbeats 2000000 in
theorem chunk_run (Bs Bn len cap : Nat) (ad : Addr) (hlen : len ≤ 1048576) (hcap : len ≤ cap) (n l : Nat) (hn : 1 ≤ n) (J Jx : List (Nat × Nat) → World → Prop)
    (hY : ∀ pre x W, J pre W → Lw.PcOk len x → pre.length < len → YieldAt Fence.wide (n - 1) Try.prog l #[.slice (some (ad.add x.1)) x.2 x.2] W fun e W' =>
      (e = .returned (.bool true) ∧ J (pre ++ [x]) W' ∧ Lw.KB Bs Bn W W') ∨ (e = .returned (.bool false) ∧ Jx (pre ++ [x]) W'))
    (W : World) (hBs : W.cell? ⟨Bs, 0, none⟩ = some (.slice (some ad) len cap)) (hBn : W.cell? ⟨Bn, 0, none⟩ = some (.int .i64 2)) (h0 : J [] W) (hJd : ∀ pre W, J pre W → J pre W.drew) :
    CallsIn Fence.wide n Try.prog 92 #[.func (.yield l) #[] #[], .pointer (some ⟨Bs, 0, none⟩), .pointer (some ⟨Bn, 0, none⟩)] W fun e W' => (∃ v, e = .returned v) ∧
      (J (Lw.chk len ((len + 1) / 2)) W' ∨ (∃ pre, (∃ m, m ≤ len ∧ pre = Lw.chk len m) ∧ Jx pre W')) := by
  refine callsIn_of_wp Try.func92 rfl trivial ?_ rfl
  simp only [Try.ntmps92, List.size_toArray, List.length_cons, List.length_nil, Nat.reduceAdd, Nat.reduceSub, Array.replicate_succ, Array.replicate_zero, List.push_toArray, List.append_toArray, List.nil_append, List.cons_append]
  gi_wp2
  gi_loopw [4, 5] (fun i _ wr => ∃ m : Nat, m ≤ (len + 1) / 2 ∧ i = .int .i64 ((2 * m : Nat) : Int) ∧ J (Lw.chk len m) wr ∧ Lw.KB Bs Bn W wr) (fun i _ _ => len + 2 - (intOf i).toNat)
  case atStart => exact ⟨0, Nat.zero_le _, rfl, h0, Lw.KB.refl _ _ _⟩
  case round =>
    obtain ⟨m, hm, rfl, hJs, hk⟩ := hrel
    have hBs2 := (hk.cells ⟨Bs, 0, none⟩ (.inl rfl)).trans hBs
    have hBn2 := (hk.cells ⟨Bn, 0, none⟩ (.inr rfl)).trans hBn
    by_cases hlt : 2 * m < len
    · have hlt' : ((2 * m : Nat) : Int) < (len : Int) := by omega
      obtain ⟨i, hi⟩ : ∃ i, 2 * m = i := ⟨_, rfl⟩
      rw [hi] at hlt hlt' ⊢
      have YJ := hY _ (2 * m, min 2 (len - 2 * m)) wr.drew (hJd _ _ hJs) ⟨by simp only; omega, by simp only; omega⟩ (by rw [Lw.chk_length]; omega)
      dsimp only at YJ
      rw [hi] at YJ
      have i0 : (0 : Int) ≤ (i : Int) := by omega
      have i1 : (i : Int) ≤ (len : Int) := by omega
      have i2 : (len : Int) ≤ (cap : Int) := by omega
      by_cases h2 : i + 2 ≤ len
      · have he : min 2 (len - i) = 2 := by omega
        rw [he] at YJ
        obtain ⟨fn, tmps, assign, body, hy, hR⟩ := YJ
        have h2' : ¬ ((len - i : Nat) : Int) < 2 := by omega
        have hBs3 : wr.drew.cell? ⟨Bs, 0, none⟩ = some (.slice (some ad) len cap) := hBs2
        have hBn3 : wr.drew.cell? ⟨Bn, 0, none⟩ = some (.int .i64 2) := hBn2
        have b1 : (i : Int) + 2 ≤ (cap : Int) := by omega
        have b2 : (i : Int) ≤ (i : Int) + 2 := by omega
        have b3 : (0 : Int) ≤ (i : Int) + 2 := by omega
        have b4 : ((i : Int) + 2).toNat = i + 2 := by omega
        gi_wp2
        refine wpIn_wide.2 (wp_region_held_drew (S := fun w' => w'.cell? ⟨Bs, 0, none⟩ = some (.slice (some ad) len cap) ∧ w'.cell? ⟨Bn, 0, none⟩ = some (.int .i64 2) ∧ True ∧ True) (by kernel_rfl) (by exact ⟨hBs2, hBn2, trivial, trivial⟩) (fun hHeld => ?_))
        (refine Lw.take1 (i := 0) (v := ?_) rfl (by kernel_rfl) (by kernel_rfl) (by kernel_rfl) (fun _ _ _ h => h) (Or.inl ⟨by rfl, ?_⟩) (by assumption) ?_; rotate_left 1; (focus (intro wS hSw; obtain ⟨hS1, hS2, hS3, hS4⟩ := hSw; go_simp <;> with_reducible rfl)); (try simp only [Act.put, List.setIfInBounds_toArray, List.set_cons_zero, List.set_cons_succ]))
        (refine Lw.take1 (i := 1) (v := ?_) rfl (by kernel_rfl) (by kernel_rfl) (by kernel_rfl) (fun _ _ _ h => h) (Or.inl ⟨by rfl, ?_⟩) (by assumption) ?_; rotate_left 1; (focus (intro wS hSw; obtain ⟨hS1, hS2, hS3, hS4⟩ := hSw; go_simp <;> with_reducible rfl)); (try simp only [Act.put, List.setIfInBounds_toArray, List.set_cons_zero, List.set_cons_succ]))
        (refine Lw.take1 (i := 2) (v := ?_) rfl (by kernel_rfl) (by kernel_rfl) (by kernel_rfl) (fun _ _ _ h => h) (Or.inl ⟨by rfl, ?_⟩) (by assumption) ?_; rotate_left 1; (focus (intro wS hSw; obtain ⟨hS1, hS2, hS3, hS4⟩ := hSw; go_simp <;> with_reducible rfl)); (try simp only [Act.put, List.setIfInBounds_toArray, List.set_cons_zero, List.set_cons_succ]))
        (refine Lw.take1 (i := 3) (v := ?_) rfl (by kernel_rfl) (by kernel_rfl) (by kernel_rfl) (fun _ _ _ h => h) (Or.inl ⟨by rfl, ?_⟩) (by assumption) ?_; rotate_left 1; (focus (intro wS hSw; obtain ⟨hS1, hS2, hS3, hS4⟩ := hSw; go_simp <;> with_reducible rfl)); (try simp only [Act.put, List.setIfInBounds_toArray, List.set_cons_zero, List.set_cons_succ]))
        (refine Lw.take1 (i := 4) (v := ?_) rfl (by kernel_rfl) (by kernel_rfl) (by kernel_rfl) (fun _ _ _ h => h) (Or.inl ⟨by rfl, ?_⟩) (by assumption) ?_; rotate_left 1; (focus (intro wS hSw; obtain ⟨hS1, hS2, hS3, hS4⟩ := hSw; go_simp <;> with_reducible rfl)); (try simp only [Act.put, List.setIfInBounds_toArray, List.set_cons_zero, List.set_cons_succ]))
        (refine Lw.take1 (i := 5) (v := ?_) rfl (by kernel_rfl) (by kernel_rfl) (by kernel_rfl) (fun _ _ _ h => h) (Or.inl ⟨by rfl, ?_⟩) (by assumption) ?_; rotate_left 1; (focus (intro wS hSw; obtain ⟨hS1, hS2, hS3, hS4⟩ := hSw; go_simp <;> with_reducible rfl)); (try simp only [Act.put, List.setIfInBounds_toArray, List.set_cons_zero, List.set_cons_succ]))
        (refine Lw.take1 (i := 6) (v := ?_) rfl (by kernel_rfl) (by kernel_rfl) (by kernel_rfl) (fun _ _ _ h => h) (Or.inl ⟨by rfl, ?_⟩) (by assumption) ?_; rotate_left 1; (focus (intro wS hSw; obtain ⟨hS1, hS2, hS3, hS4⟩ := hSw; go_simp <;> with_reducible rfl)); (try simp only [Act.put, List.setIfInBounds_toArray, List.set_cons_zero, List.set_cons_succ]))
        refine wpAnyH_done (by kernel_rfl) ?_ _
        clear hHeld
        gi_wp2
        refine hR.mono ?_
        rintro e W3 (⟨rfl, hJ3, hk3⟩ | ⟨rfl, hJx3⟩)
        · have hk2 := hk.trans (Lw.KB.trans (Lw.KB.refl _ _ _) hk3)
          have hBn4 := (hk3.cells ⟨Bn, 0, none⟩ (.inr rfl)).trans hBn3
          gi_wp2
          go_roundw
          case rel => exact ⟨m + 1, by omega, by go_num, by show J (Lw.chk len m ++ [(2 * m, min 2 (len - 2 * m))]) W3; rw [hi, he]; exact hJ3, hk2⟩
          case measure => simp [intOf] <;> omega
        · gi_wp2
          refine bodyPost_ret (results_none rfl _ _ _) rfl ?_
          exact ⟨⟨_, rfl⟩, .inr ⟨_, ⟨m + 1, by omega, by show _ = Lw.chk len m ++ [(2 * m, min 2 (len - 2 * m))]; rw [hi, he]⟩, hJx3⟩⟩
      · have he : min 2 (len - i) = 1 := by omega
        rw [he] at YJ
        obtain ⟨fn, tmps, assign, body, hy, hR⟩ := YJ
        have h2' : ((len - i : Nat) : Int) < 2 := by omega
        have hl1 : ((len - i : Nat) : Int) = 1 := by omega
        have hBs3 : wr.drew.cell? ⟨Bs, 0, none⟩ = some (.slice (some ad) len cap) := hBs2
        have hBn3 : wr.drew.cell? ⟨Bn, 0, none⟩ = some (.int .i64 2) := hBn2
        have b1 : (i : Int) + 1 ≤ (cap : Int) := by omega
        have b2 : (i : Int) ≤ (i : Int) + 1 := by omega
        have b3 : (0 : Int) ≤ (i : Int) + 1 := by omega
        have b4 : ((i : Int) + 1).toNat = i + 1 := by omega
        gi_wp2
        refine wpIn_wide.2 (wp_region_held_drew (S := fun w' => w'.cell? ⟨Bs, 0, none⟩ = some (.slice (some ad) len cap) ∧ w'.cell? ⟨Bn, 0, none⟩ = some (.int .i64 2) ∧ True ∧ True) (by kernel_rfl) (by exact ⟨hBs2, hBn2, trivial, trivial⟩) (fun hHeld => ?_))
        (refine Lw.take1 (i := 0) (v := ?_) rfl (by kernel_rfl) (by kernel_rfl) (by kernel_rfl) (fun _ _ _ h => h) (Or.inl ⟨by rfl, ?_⟩) (by assumption) ?_; rotate_left 1; (focus (intro wS hSw; obtain ⟨hS1, hS2, hS3, hS4⟩ := hSw; go_simp <;> with_reducible rfl)); (try simp only [Act.put, List.setIfInBounds_toArray, List.set_cons_zero, List.set_cons_succ]))
        (refine Lw.take1 (i := 1) (v := ?_) rfl (by kernel_rfl) (by kernel_rfl) (by kernel_rfl) (fun _ _ _ h => h) (Or.inl ⟨by rfl, ?_⟩) (by assumption) ?_; rotate_left 1; (focus (intro wS hSw; obtain ⟨hS1, hS2, hS3, hS4⟩ := hSw; go_simp <;> with_reducible rfl)); (try simp only [Act.put, List.setIfInBounds_toArray, List.set_cons_zero, List.set_cons_succ]))
        (refine Lw.take1 (i := 2) (v := ?_) rfl (by kernel_rfl) (by kernel_rfl) (by kernel_rfl) (fun _ _ _ h => h) (Or.inl ⟨by rfl, ?_⟩) (by assumption) ?_; rotate_left 1; (focus (intro wS hSw; obtain ⟨hS1, hS2, hS3, hS4⟩ := hSw; go_simp <;> with_reducible rfl)); (try simp only [Act.put, List.setIfInBounds_toArray, List.set_cons_zero, List.set_cons_succ]))
        (refine Lw.take1 (i := 3) (v := ?_) rfl (by kernel_rfl) (by kernel_rfl) (by kernel_rfl) (fun _ _ _ h => h) (Or.inl ⟨by rfl, ?_⟩) (by assumption) ?_; rotate_left 1; (focus (intro wS hSw; obtain ⟨hS1, hS2, hS3, hS4⟩ := hSw; go_simp <;> with_reducible rfl)); (try simp only [Act.put, List.setIfInBounds_toArray, List.set_cons_zero, List.set_cons_succ]))
        (refine Lw.take1 (i := 4) (v := ?_) rfl (by kernel_rfl) (by kernel_rfl) (by kernel_rfl) (fun _ _ _ h => h) (Or.inl ⟨by rfl, ?_⟩) (by assumption) ?_; rotate_left 1; (focus (intro wS hSw; obtain ⟨hS1, hS2, hS3, hS4⟩ := hSw; go_simp <;> with_reducible rfl)); (try simp only [Act.put, List.setIfInBounds_toArray, List.set_cons_zero, List.set_cons_succ]))
        (refine Lw.take1 (i := 5) (v := ?_) rfl (by kernel_rfl) (by kernel_rfl) (by kernel_rfl) (fun _ _ _ h => h) (Or.inl ⟨by rfl, ?_⟩) (by assumption) ?_; rotate_left 1; (focus (intro wS hSw; obtain ⟨hS1, hS2, hS3, hS4⟩ := hSw; go_simp <;> with_reducible rfl)); (try simp only [Act.put, List.setIfInBounds_toArray, List.set_cons_zero, List.set_cons_succ]))
        (refine Lw.take1 (i := 6) (v := ?_) rfl (by kernel_rfl) (by kernel_rfl) (by kernel_rfl) (fun _ _ _ h => h) (Or.inl ⟨by rfl, ?_⟩) (by assumption) ?_; rotate_left 1; (focus (intro wS hSw; obtain ⟨hS1, hS2, hS3, hS4⟩ := hSw; go_simp <;> with_reducible rfl)); (try simp only [Act.put, List.setIfInBounds_toArray, List.set_cons_zero, List.set_cons_succ]))
        refine wpAnyH_done (by kernel_rfl) ?_ _
        clear hHeld
        gi_wp2
        refine hR.mono ?_
        rintro e W3 (⟨rfl, hJ3, hk3⟩ | ⟨rfl, hJx3⟩)
        · have hk2 := hk.trans (Lw.KB.trans (Lw.KB.refl _ _ _) hk3)
          have hBn4 := (hk3.cells ⟨Bn, 0, none⟩ (.inr rfl)).trans hBn3
          gi_wp2
          go_roundw
          case rel => exact ⟨m + 1, by omega, by go_num, by show J (Lw.chk len m ++ [(2 * m, min 2 (len - 2 * m))]) W3; rw [hi, he]; exact hJ3, hk2⟩
          case measure => simp [intOf] <;> omega
        · gi_wp2
          refine bodyPost_ret (results_none rfl _ _ _) rfl ?_
          exact ⟨⟨_, rfl⟩, .inr ⟨_, ⟨m + 1, by omega, by show _ = Lw.chk len m ++ [(2 * m, min 2 (len - 2 * m))]; rw [hi, he]⟩, hJx3⟩⟩
    · have hlt' : ¬ ((2 * m : Nat) : Int) < (len : Int) := by omega
      have hmm : m = (len + 1) / 2 := by omega
      gi_wp2
      go_end0
      exact ⟨⟨_, rfl⟩, .inl (hmm ▸ hJs)⟩
theorem chunk_stops (Bs Bn len cap : Nat) (ad : Addr) (hlen : len ≤ 1048576) (hcap : len ≤ cap) (n : Nat) (hn : 1 ≤ n) (w : World) (hBs : Bs < w.heap.size) (hBn : Bn < w.heap.size)
    (hs : w.cell? ⟨Bs, 0, none⟩ = some (.slice (some ad) len cap)) (hm : w.cell? ⟨Bn, 0, none⟩ = some (.int .i64 2)) :
    SeqStopsK Fence.wide n Try.prog 92 #[.pointer (some ⟨Bs, 0, none⟩), .pointer (some ⟨Bn, 0, none⟩)] (fun x : Lw.Pc len => #[Value.slice (some (ad.add x.1.1)) x.1.2 x.1.2]) (Lw.KB Bs Bn) (fun ys => ys.map Subtype.val = Lw.chk len ((len + 1) / 2))
      (fun pre => ∃ m, m ≤ len ∧ pre.map Subtype.val = Lw.chk len m) len w := fun l J Jx W hW hJ _ hY h0 => by
  have hs' := (hW.cell (p := ⟨Bs, 0, none⟩) hBs).trans hs
  have hm' := (hW.cell (p := ⟨Bn, 0, none⟩) hBn).trans hm
  refine (chunk_run Bs Bn len cap ad hlen hcap n l hn (fun pre W => ∃ pre' : List (Lw.Pc len), pre'.map Subtype.val = pre ∧ J pre' W) (fun pre W => ∃ pre' : List (Lw.Pc len), pre'.map Subtype.val = pre ∧ Jx pre' W) ?_ W hs' hm' ⟨[], rfl, h0⟩ (fun pre W1 h => ?_)).mono fun e W' ⟨he, h⟩ => ⟨he, ?_⟩
  · rintro pre x W1 ⟨pre', rfl, h⟩ ok hlt
    obtain ⟨fn, tmps, assign, body, hy, hR⟩ := hY pre' ⟨x, ok⟩ W1 h (by simpa using hlt)
    refine ⟨fn, tmps, assign, body, hy, hR.mono ?_⟩
    rintro e W2 (⟨rfl, h1, h2⟩ | ⟨rfl, h1⟩)
    · exact .inl ⟨rfl, ⟨_, by simp, h1⟩, h2⟩
    · exact .inr ⟨rfl, ⟨_, by simp, h1⟩⟩
  · obtain ⟨pre', e1, h⟩ := h
    exact ⟨pre', e1, hJ pre' W1 W1.drew none h ⟨rfl, rfl, rfl, Nat.le_refl _, fun _ _ _ => rfl⟩ (fun k hk => by cases hk)⟩
  · rcases h with ⟨ys, e1, h⟩ | ⟨pre, ⟨m, hm, rfl⟩, pre', e1, h⟩
    · exact .inl ⟨_, e1, h⟩
    · exact .inr ⟨pre', ⟨m, hm, e1⟩, h⟩
theorem chunk_two (A : Option Addr) (len cap : Nat) (w : World) :
    Calls Try.prog 83 #[.slice A len cap, .int .i64 2] w fun e w' => e = .returned (.func (.func 92) #[] #[.pointer (some ⟨w.heap.size, 0, none⟩), .pointer (some ⟨w.heap.size + 1, 0, none⟩)]) ∧ (w.alloc (.cells #[.slice A len cap] 41)).alloc (.cells #[.int .i64 2] 3) = w' := by
  go_enter Try.func83, Try.ntmps83
  go_wp2
  go_ret
  exact ⟨rfl, rfl⟩
end Go.Proofs.Ytnlbnadjolfjpaa
