/- tree.rows: the rows above the leafs, and what is done with each. -/
import Derived.Test.YtnlbnadjolfjpaaTru
namespace Lw
open Go Go.RowKit
/-- a leaf's node -/
def lfS (r : TRow) : Int := hsum (0 :: r.zs)
/-- the rows of nodes -/
def ndR (T : List TRow) : Nat → List Int
  | 0 => T.map lfS
  | k + 1 => upL (ndR T k)
def mny (n : Nat) : Nat → Nat
  | 0 => n
  | k + 1 => (mny n k + 1) / 2
theorem ndR_length (T : List TRow) : ∀ k, (ndR T k).length = mny T.length k
  | 0 => by simp [ndR, mny]
  | k + 1 => by unfold ndR mny; rw [upL_length, ndR_length T k]
theorem ndR_bd (T : List TRow) : ∀ k, ∀ z ∈ ndR T k, 0 ≤ z ∧ z < 65536
  | 0 => fun z hz => by obtain ⟨r, _, rfl⟩ := List.mem_map.1 hz; exact hsum_bd _
  | k + 1 => upL_bd (ndR_bd T k)
theorem mny_up (n : Nat) : ∀ k, mny ((n + 1) / 2) k = mny n (k + 1)
  | 0 => rfl
  | k + 1 => by show (mny ((n + 1) / 2) k + 1) / 2 = (mny n (k + 1) + 1) / 2; rw [mny_up n k]
/-- which row has one node -/
def hgt (n : Nat) : Nat := if n ≤ 1 then 0 else hgt ((n + 1) / 2) + 1
termination_by n
decreasing_by omega
theorem hgt_eq : ∀ {j n : Nat}, mny n j ≤ 1 → (∀ i < j, 1 < mny n i) → hgt n = j
  | 0, n, h, _ => by have h : n ≤ 1 := h; unfold hgt; rw [if_pos h]
  | j + 1, n, h, k => by
    have h1 := k 0 (by omega)
    have h1 : 1 < n := h1
    unfold hgt
    rw [if_neg (by omega), hgt_eq (j := j) (by rw [mny_up]; exact h) (fun i hi => by rw [mny_up]; exact k (i + 1) (by omega))]
theorem rd_blk {W W' : World} {g n : Nat} {xs : List Value} (h : Rd W 1 (some ⟨g, 0, none⟩) n xs) (hb : W'.heap[g]? = W.heap[g]?) : Rd W' 1 (some ⟨g, 0, none⟩) n xs := by
  refine ⟨h.1, fun hn => ?_⟩
  obtain ⟨ad, e, hl, hc⟩ := h.2 hn
  refine ⟨ad, e, ?_, fun j u hu => ?_⟩
  · injection e with e
    subst e
    have h2 : g < W.heap.size := hl
    rw [Array.getElem?_eq_getElem h2] at hb
    exact (Array.getElem?_eq_some_iff.1 hb).1
  · rw [cell_of_blk (W := W) (W' := W') _ (by rw [add_block]; injection e with e; subst e; exact hb)]
    exact hc j u hu
end Lw
set_option linter.unusedVariables false
set_option linter.unusedSimpArgs false
namespace Go.Proofs.Ytnlbnadjolfjpaa
open Go.RowKit
def lenOfSl : Value → Nat
  | .slice _ n _ => n
  | _ => 0
set_option maxRecDepth 100000 in
set_option maxHeartbeats 4000000 in
theorem rows_root (A : Option Addr) (n c : Nat) (T : List Lw.TRow) (w : World) (RD : Lw.Rd w 1 A n (T.map Lw.TRow.v)) (hT : ∀ r ∈ T, Lw.TxtOk w r ∧ r.n ≤ 4096) (h0 : 0 < n) (hn : n ≤ 64) (env : Array Value) (J : Nat → Nat → World → Prop)
    (hJ : ∀ k av W W' av', J k av W → Below W.heap.size W W' → W.heap.size ≤ av' → J k av' W') (hJ0 : ∀ W av, Below w.heap.size w W → w.heap.size ≤ av → J 0 av W)
    (hV : ∀ k av W m d, J k av W → av < W.heap.size → Lw.Rd W 1 (some ⟨av, 0, none⟩) m (Lw.intsV .u32 (Lw.ndR T k)) → 1 < m → m ≤ 64 → m ≤ d → Calls Try.prog 39 (#[.slice (some ⟨av, 0, none⟩) m d] ++ env) W fun e W' => (∃ v, e = .returned v) ∧ J (k + 1) av W' ∧ W'.heap[av]? = W.heap[av]?) :
    Calls Try.prog 38 #[.slice A n c, .func (.func 39) #[] env] w fun e W => e = .returned (.int .u32 ((Lw.ndR T (Lw.hgt n)).getD 0 0)) ∧ ∃ av, J (Lw.hgt n) av W := by
  have LT := Lib.hid (show T.length = n by have := RD.1; simpa using this)
  have RD := Lib.hid RD
  have HT := Lib.hid hT
  have HV := Lib.hid hV
  have HJ := Lib.hid hJ
  have HJ0 := Lib.hid hJ0
  clear hT hV hJ hJ0
  go_enter Try.func38, Try.ntmps38
  go_wp2
  go_loopw [5, 7, 10] (fun v _ i wr => ∃ k : Nat, i = .int .i64 (k : Int) ∧ k ≤ n ∧ Below w.heap.size w wr ∧ wr.ownsRow w.heap.size 33 1 v k (Lw.intsV .u32 ((T.take k).map Lw.lfS))) (fun _ _ i _ => n - (intOf i).toNat)
  case atStart => exact ⟨0, rfl, by omega, Below.refl _ _, World.ownsRow_nil _ _ _ _⟩
  case round =>
    obtain ⟨k, rfl, k1, hB, own⟩ := hrel
    by_cases hlt : k < n
    · have hlt' : (k : Int) < (n : Int) := by omega
      have hl : k < T.length := by rw [LT.out]; exact hlt
      obtain ⟨ad, rfl, had, hcell⟩ := RD.out.at1 (x := T[k].v) hlt (by rw [List.getElem?_map, List.getElem?_eq_getElem hl]; rfl)
      obtain ⟨ok, hr2⟩ := HT.out _ (List.getElem_mem hl)
      have TK := Lib.hid (show Lw.intsV .u32 ((T.take (k + 1)).map Lw.lfS) = Lw.intsV .u32 ((T.take k).map Lw.lfS) ++ Lw.intsV .u32 [Lw.lfS T[k]] by rw [List.take_succ_eq_append_getElem hl, List.map_append, Lw.intsV_app]; exact rfl)
      obtain ⟨r, hr⟩ : ∃ r, T[k] = r := ⟨_, rfl⟩
      rw [hr] at hcell ok hr2 TK
      obtain ⟨rA, rn, rc, rz⟩ := r
      obtain ⟨ok1, ok2, ok3⟩ := ok
      simp only [Lw.TRow.v] at hcell hr2 ok1 ok2 ok3
      have hcw := (hB.cell (p := ad.add k) (by rw [Lw.add_block]; exact had)).trans hcell
      have LF := Lib.hid (tree_leafText rA rn rc rz wr (ok1.1.below (Nat.le_refl _) hB) (by omega))
      have HO := Lib.hid (fun A c w R => hash_Of A (1 + rn) c (0 :: rz) w R (Lw.leafT_byt ok2) (by omega))
      have LS : Hid (Lw.lfS ⟨rA, rn, rc, rz⟩ = Lw.hsum (0 :: rz)) := rfl
      rw [LS.out] at TK
      obtain ⟨h, hh⟩ : ∃ h, Lw.hsum (0 :: rz) = h := ⟨_, rfl⟩
      rw [hh] at HO TK
      have OWN := Lib.hid own
      have hsz := hB.size
      clear own ok1 ok2 ok3 hr hh hcell
      go_wp2_with fail
      refine LF.out.mono ?_
      rintro e w1 ⟨A1, c1, rfl, own1, hb1⟩
      have RT := Lib.hid (Lw.Rd.of_own own1)
      have hs1 := hb1.size
      have hB1 := Lw.bt hB hb1
      clear own1
      go_wp2_with fail
      refine (HO.out _ _ _ RT.out).mono ?_
      rintro e w2 ⟨rfl, hb2⟩
      have hs2 := hb2.size
      have hB2 := Lw.bt hB1 hb2
      have O2 := Lib.hid (Lw.ownsBelow (Lw.ownsBelow OWN.out (Nat.le_refl _) hb1) (Nat.le_refl _) hb2)
      go_wp2_with (at_builtin; refine Lw.wpList_app elU32 rfl _ _ rfl rfl (O2.out.alloc _) rfl (Lw.Rd.lit (Lw.blk_new' rfl _ _) rfl rfl) (Lw.intsV_one _ [h]) (by omega) (Lw.balloc hB2 _) (Nat.le_refl _) (by simp; omega) ?_; intro v3 w3 own3 hb3 hg3 _)
      go_roundw
      case rel => exact ⟨k + 1, by go_num, by omega, hb3, by rw [TK.out]; exact own3⟩
      case measure => simp [intOf]; omega
    · have hlt' : ¬ (k : Int) < (n : Int) := by omega
      obtain rfl : k = n := by omega
      have hk : T.take k = T := List.take_of_length_le (by rw [LT.out]; omega)
      rw [hk] at own
      obtain ⟨A0, c0, rfl, hc0, _, hA0⟩ := Lw.ownsForm own
      have R0 := Lw.Rd.of_own own
      obtain ⟨g0, rfl, hg0, hg1⟩ : ∃ g, A0 = some ⟨g, 0, none⟩ ∧ w.heap.size ≤ g ∧ g < wr.heap.size := by
        rcases hA0 with rfl | h
        · obtain ⟨_, h2, _⟩ := R0.2 h0; cases h2
        · exact h
      have J0 := Lib.hid (HJ0.out wr g0 hB hg0)
      have R0 := Lib.hid (show Lw.Rd wr 1 (some ⟨g0, 0, none⟩) k (Lw.intsV .u32 (Lw.ndR T 0)) from R0)
      clear own hk LT
      go_wp2
      go_loopw [5] (fun v wr => ∃ (j g m d : Nat), (v = .slice (some ⟨g, 0, none⟩) m d ∧ 1 ≤ m ∧ m ≤ 64 ∧ m ≤ d ∧ g < wr.heap.size) ∧ Hid (m = Lw.mny k j ∧ ∀ i < j, 1 < Lw.mny k i) ∧ Hid (Lw.Rd wr 1 (some ⟨g, 0, none⟩) m (Lw.intsV .u32 (Lw.ndR T j))) ∧ Hid (J j g wr)) (fun v _ => lenOfSl v)
      case atStart => exact ⟨0, g0, k, c0, ⟨rfl, by omega, hn, hc0, hg1⟩, ⟨rfl, fun i hi => by omega⟩, R0, J0⟩
      case round =>
        obtain ⟨j, g, m, d, ⟨rfl, m1, m2, m3, m4⟩, HM, RJ, JJ⟩ := hrel
        by_cases h1 : 1 < m
        · have h1' : (1 : Int) < (m : Int) := by omega
          have VS := Lib.hid (HV.out j g wr m d JJ.out m4 RJ.out h1 m2 m3)
          go_wp2_with fail
          refine VS.out.mono ?_
          rintro e w1 ⟨⟨v1, rfl⟩, J1, hbl⟩
          have R1 := Lw.rd_blk RJ.out hbl
          have J1 := Lib.hid J1
          have UP := Lib.hid (tree_up _ m d _ w1 R1 (Lw.ndR_bd T j) (by omega) (by omega) m3)
          clear R1 hbl
          go_wp2_with fail
          refine UP.out.mono ?_
          rintro e w2 ⟨A2, c2, rfl, own2, hb2⟩
          obtain ⟨A2', c2', he, hc2, _, hA2⟩ := Lw.ownsForm own2
          injection he with he1 he2 he3
          subst he1 he3
          have R2 := Lw.Rd.of_own own2
          obtain ⟨g2, rfl, hg2, hg3⟩ : ∃ g, A2 = some ⟨g, 0, none⟩ ∧ w1.heap.size ≤ g ∧ g < w2.heap.size := by
            rcases hA2 with rfl | h
            · obtain ⟨_, h2, _⟩ := R2.2 (by omega); cases h2
            · exact h
          have J2 := Lib.hid (HJ.out _ _ _ _ g2 J1.out hb2 hg2)
          go_wp2
          go_roundw
          case rel => exact ⟨j + 1, g2, (m + 1) / 2, c2, ⟨rfl, by omega, by omega, hc2, hg3⟩, ⟨by rw [HM.out.1]; rfl, fun i hi => by rcases Nat.lt_succ_iff_lt_or_eq.1 hi with h | rfl; exact HM.out.2 i h; rw [← HM.out.1]; exact h1⟩, R2, J2⟩
          case measure => simp [lenOfSl]; omega
        · have h1' : ¬ (1 : Int) < (m : Int) := by omega
          obtain rfl : m = 1 := by omega
          have HG : Hid (Lw.hgt k = j) := Lw.hgt_eq (by rw [← HM.out.1]; exact Nat.le_refl _) HM.out.2
          obtain ⟨x, hx⟩ : ∃ x, Lw.ndR T j = [x] := by
            have := RJ.out.1
            simp [Lw.intsV] at this
            exact List.length_eq_one_iff.1 this
          have RX := RJ.out
          rw [hx] at RX
          obtain ⟨ad', e', _, hc'⟩ := RX.at1 (x := .int .u32 x) (k := 0) (by omega) rfl
          injection e' with e'
          subst e'
          have hc2 : wr.cell? ⟨g, 0, none⟩ = some (.int .u32 x) := hc'
          have EX : Hid ((Lw.ndR T j).getD 0 0 = x) := by rw [hx]; exact rfl
          clear hc' RX hx
          go_wp2
          go_ret
          exact ⟨by rw [HG.out]; show _ = Ending.returned (.int .u32 ((Lw.ndR T j).getD 0 0)); rw [EX.out]; exact rfl, g, by rw [HG.out]; exact JJ.out⟩

end Go.Proofs.Ytnlbnadjolfjpaa
