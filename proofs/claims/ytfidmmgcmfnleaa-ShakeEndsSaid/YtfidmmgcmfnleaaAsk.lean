/- Contracts of group.wrong and of the reference's GroupAsk: what is wrong with a group, with powers, with members. -/
import Derived.Test.YtfidmmgcmfnleaaGref
import Derived.Test.YtfidmmgcmfnleaaSl
namespace Lw
def psB (Q : Int) (ps : List Int) : Bool := ps.all fun a => decide (0 ≤ a ∧ a < Q)
def msB (P Q : Int) (ms : List Int) : Bool := ms.all fun x => memB P Q x
/-- what is wrong: 0, 2, 3 or 4 -/
def askE (P Q G H : Int) (ps ms : List Int) : Int := if groupE P Q G H = 0 then (if psB Q ps = true then (if msB P Q ms = true then 0 else 4) else 2) else groupE P Q G H
theorem askE_group {P Q G H : Int} (ps ms : List Int) (h : ¬ groupE P Q G H = 0) : askE P Q G H ps ms = groupE P Q G H := if_neg h
theorem askE_two {P Q G H : Int} {ps : List Int} (ms : List Int) (h : groupE P Q G H = 0) (h1 : psB Q ps = false) : askE P Q G H ps ms = 2 := by unfold askE; rw [if_pos h, if_neg (by rw [h1]; simp)]
theorem askE_four {P Q G H : Int} {ps ms : List Int} (h : groupE P Q G H = 0) (h1 : psB Q ps = true) (h2 : msB P Q ms = false) : askE P Q G H ps ms = 4 := by unfold askE; rw [if_pos h, if_pos h1, if_neg (by rw [h2]; simp)]
theorem askE_zero {P Q G H : Int} {ps ms : List Int} (h : groupE P Q G H = 0) (h1 : psB Q ps = true) (h2 : msB P Q ms = true) : askE P Q G H ps ms = 0 := by unfold askE; rw [if_pos h, if_pos h1, if_pos h2]
theorem groupE_ok {P Q G H : Int} (h : groupE P Q G H = 0) : GRange P Q G H ∧ GArg P Q G H := by
  unfold groupE at h
  by_cases h1 : GRange P Q G H
  · rw [if_pos h1] at h
    by_cases h2 : GArg P Q G H
    · exact ⟨h1, h2⟩
    · rw [if_neg h2] at h; cases h
  · rw [if_neg h1] at h; cases h
theorem askE_ok {P Q G H : Int} {ps ms : List Int} (h : askE P Q G H ps ms = 0) : groupE P Q G H = 0 ∧ psB Q ps = true ∧ msB P Q ms = true := by
  unfold askE at h
  by_cases h0 : groupE P Q G H = 0
  · rw [if_pos h0] at h
    by_cases h1 : psB Q ps = true
    · rw [if_pos h1] at h
      by_cases h2 : msB P Q ms = true
      · exact ⟨h0, h1, h2⟩
      · rw [if_neg h2] at h; cases h
    · rw [if_neg h1] at h; cases h
  · rw [if_neg h0] at h; exact absurd h h0
theorem psB_cons {Q a : Int} {ps : List Int} (h : psB Q (a :: ps) = true) : 0 ≤ a ∧ a < Q ∧ psB Q ps = true := by
  unfold psB at *; simp at h; exact ⟨h.1.1, h.1.2, by simpa using h.2⟩
theorem msB_cons {P Q x : Int} {ms : List Int} (h : msB P Q (x :: ms) = true) : memB P Q x = true ∧ msB P Q ms = true := by
  unfold msB at *; simp at h; exact ⟨h.1, by simpa using h.2⟩
theorem memB_bd {P Q x : Int} (h : memB P Q x = true) : 1 ≤ x ∧ x < P ∧ pw x Q P = 1 := by
  unfold memB at h; simp at h; exact ⟨h.1.1, h.1.2, h.2⟩
/-- the generators are members -/
theorem memB_G {P Q G H : Int} (h : groupE P Q G H = 0) : memB P Q G = true ∧ memB P Q H = true := by
  obtain ⟨⟨h1, h2, h3, h4, h5, h6, h7, h8⟩, g1, g2, g3, g4, g5⟩ := groupE_ok h
  rw [memB_in ⟨by omega, h6⟩, memB_in ⟨by omega, h8⟩, g4, g5]; simp
theorem askE_G (P Q G H : Int) (ps ms : List Int) : askE P Q G H ps (G :: ms) = askE P Q G H ps ms := by
  unfold askE
  by_cases h : groupE P Q G H = 0
  · have : msB P Q (G :: ms) = msB P Q ms := by unfold msB; rw [List.all_cons, (memB_G h).1, Bool.true_and]
    rw [this]
  · rw [if_neg h, if_neg h]
theorem askE_H (P Q G H : Int) (ps ms : List Int) : askE P Q G H ps (H :: ms) = askE P Q G H ps ms := by
  unfold askE
  by_cases h : groupE P Q G H = 0
  · have : msB P Q (H :: ms) = msB P Q ms := by unfold msB; rw [List.all_cons, (memB_G h).2, Bool.true_and]
    rw [this]
  · rw [if_neg h, if_neg h]
theorem groupE_bd (P Q G H : Int) : 0 ≤ groupE P Q G H ∧ groupE P Q G H ≤ 3 := by unfold groupE; split <;> (try split) <;> omega
theorem all_no {α : Type} {f : α → Bool} {l : List α} {k : Nat} (hk : k < l.length) (h : f l[k] = false) : l.all f = false := by
  rw [List.all_eq_false]; exact ⟨l[k], List.getElem_mem hk, by simp [h]⟩
theorem all_upto {α : Type} {f : α → Bool} {l : List α} (h : (l.take l.length).all f = true) : l.all f = true := by rwa [List.take_length] at h
theorem all_next {α : Type} {f : α → Bool} {l : List α} {k : Nat} (hk : k < l.length) (h : (l.take k).all f = true) (h1 : f l[k] = true) : (l.take (k + 1)).all f = true := by
  rw [List.take_succ_eq_append_getElem hk, List.all_append, h]; simp [h1]
end Lw
set_option linter.unusedVariables false
set_option linter.unusedSimpArgs false
namespace Go.Proofs.Ytfidmmgcmfnleaa
open Go.RowKit
theorem group_Check (P Q G H : Int) (w : World) :
    Calls Try.prog 44 #[.agg #[.int .i64 P, .int .i64 Q, .int .i64 G, .int .i64 H]] w fun e w' => e = .returned (.int .i64 (Lw.groupE P Q G H)) ∧ Below w.heap.size w w' := by
  by_cases h : Lw.GRange P Q G H
  · exact group_Check_in P Q G H w h
  · rw [← Lw.groupE_two h]; exact group_Check_bad P Q G H w h
theorem ref_GroupCheck (P Q G H : Int) (w : World) :
    Calls Try.prog 34 #[.agg #[.int .i64 P, .int .i64 Q, .int .i64 G, .int .i64 H]] w fun e w' => e = .returned (.int .i64 (Lw.groupE P Q G H)) ∧ Below w.heap.size w w' := by
  by_cases h : Lw.GRange P Q G H
  · exact ref_GroupCheck_in P Q G H w h
  · rw [← Lw.groupE_two h]; exact ref_GroupCheck_bad P Q G H w h
theorem ref_Member (P Q G H x : Int) (w : World) (h1 : 3 ≤ P) (h2 : P ≤ 1048576) (h3 : 0 ≤ Q) (h4 : Q ≤ 1048576) :
    Calls Try.prog 11 #[.agg #[.int .i64 P, .int .i64 Q, .int .i64 G, .int .i64 H], .int .i64 x] w fun e w' => e = .returned (.bool (Lw.memB P Q x)) ∧ Below w.heap.size w w' := by
  by_cases h : 1 ≤ x ∧ x < P
  · have E := Lib.hid (Lw.memB_in (Q := Q) h)
    obtain ⟨h5, h6⟩ := h
    go_enter Try.func11, Try.ntmps11
    go_wp2_with (go_at_call 14; refine (ref_Pow _ _ _ _ _ (Nat.le_refl _) (by omega) (by omega) (by omega) (by omega)).mono ?_; rintro e w' ⟨rfl, rfl⟩)
    go_ret
    rw [E.out]; exact ⟨rfl, by go_grown⟩
  · have E := Lib.hid (Lw.memB_no (Q := Q) h)
    have hc : x < 1 ∨ (1 ≤ x ∧ P ≤ x) := by omega
    clear h
    rcases hc with h | ⟨h, h'⟩
    all_goals
      go_enter Try.func11, Try.ntmps11
      go_wp2_with fail
      go_ret
      rw [E.out]; exact ⟨rfl, by go_grown⟩
set_option maxHeartbeats 2000000 in
theorem group_wrong (P Q G H : Int) (A1 A2 : Option Addr) (n1 n2 c1 c2 : Nat) (ps ms : List Int) (w : World) (R1 : Lw.Rd w 1 A1 n1 (Lw.intsV .i64 ps)) (R2 : Lw.Rd w 1 A2 n2 (Lw.intsV .i64 ms)) (m1 : n1 ≤ maxLen) (m2 : n2 ≤ maxLen) :
    Calls Try.prog 55 #[.agg #[.int .i64 P, .int .i64 Q, .int .i64 G, .int .i64 H], .slice A1 n1 c1, .slice A2 n2 c2] w fun e w' => e = .returned (.int .i64 (Lw.askE P Q G H ps ms)) ∧ Below w.heap.size w w' := by
  unfold maxLen at m1 m2
  have R1 := Lib.hid R1
  have R2 := Lib.hid R2
  have l1 : ps.length = n1 := by have := R1.out.1; simpa [Lw.intsV] using this
  have l2 : ms.length = n2 := by have := R2.out.1; simpa [Lw.intsV] using this
  have L1 := Lib.hid l1
  have L2 := Lib.hid l2
  clear l1 l2
  by_cases hg : Lw.groupE P Q G H = 0
  · obtain ⟨g1, g2⟩ := Lw.groupE_ok hg
    obtain ⟨h1, h2, h3, h4, h5, h6, h7, h8⟩ := g1
    have HG := Lib.hid hg
    clear g2
    obtain ⟨gE, hgE⟩ : ∃ gE, Lw.groupE P Q G H = gE := ⟨_, rfl⟩
    have C := fun (w : World) => group_Check P Q G H w
    rw [hg] at C
    have C := Lib.hid C
    clear hg hgE
    go_enter Try.func55, Try.ntmps55
    go_wp2_with (go_at_call 44; refine (C.out _).mono ?_; rintro e w1 ⟨rfl, hb1⟩; obtain ⟨hc1, hf1⟩ := Lw.bcell hb1; have hz1 : w.heap.size < w1.heap.size := by have := hb1.size; simp at this; omega)
    go_loop [9, 19] (fun x i => ∃ k : Nat, i = .int .i64 (k : Int) ∧ k ≤ n1 ∧ Hid (((ps.take k).all fun a => decide (0 ≤ a ∧ a < Q)) = true)) (fun _ i => n1 - (intOf i).toNat)
    case atStart => exact ⟨0, rfl, by omega, rfl⟩
    case round =>
      obtain ⟨k, rfl, k1, T⟩ := hrel
      by_cases hlt : k < n1
      · have hl : k < ps.length := by have := L1.out; omega
        obtain ⟨ad, rfl, had, hcell⟩ := R1.out.at1 hlt (Lw.intsV_get hl)
        obtain ⟨x, hx⟩ : ∃ x, ps[k] = x := ⟨_, rfl⟩
        rw [hx] at hcell
        have hcell2 := (hb1.cell (p := ad.add k) (by rw [Lw.add_block]; simp; omega)).trans ((((Below.refl w.heap.size w).alloc (Nat.le_refl _) (.cells #[.int .i64 P, .int .i64 Q, .int .i64 G, .int .i64 H] 23)).cell (p := ad.add k) (by rw [Lw.add_block]; omega)).trans hcell)
        by_cases hr : 0 ≤ x ∧ x < Q
        · have N := Lib.hid (Lw.all_next hl T.out (by rw [hx]; exact decide_eq_true hr))
          obtain ⟨r1, r2⟩ := hr
          clear hx hcell
          go_wp2
          go_round
          case rel => exact ⟨k + 1, by go_num, by omega, N⟩
          case measure => simp [intOf]; omega
        · have E := Lib.hid (Lw.askE_two ms HG.out (Lw.all_no hl (by rw [hx]; exact decide_eq_false hr)))
          have hr2 : x < 0 ∨ (0 ≤ x ∧ Q ≤ x) := by omega
          clear hx hr hcell
          rcases hr2 with r1 | ⟨r1, r2⟩
          all_goals
            go_wp2
            go_ret
            rw [E.out]
            exact ⟨rfl, Lw.bt (by go_grown) hb1⟩
      · have hk : k = ps.length := by have := L1.out; omega
        have PS : Hid (Lw.psB Q ps = true) := by have := T.out; rw [hk] at this; exact Lw.all_upto this
        clear T hk
        go_wp2
        go_loopw [11, 34] (fun x i wr => ∃ k : Nat, i = .int .i64 (k : Int) ∧ k ≤ n2 ∧ Hid (((ms.take k).all fun a => Lw.memB P Q a) = true) ∧ Below w1.heap.size w1 wr) (fun _ i _ => n2 - (intOf i).toNat)
        case atStart => exact ⟨0, rfl, by omega, rfl, Below.refl _ _⟩
        case round =>
          obtain ⟨k, rfl, k1, T, hBr⟩ := hrel
          obtain ⟨hcr, hfr⟩ := Lw.bcell hBr
          have hszr := hBr.size
          by_cases hlt : k < n2
          · have hl : k < ms.length := by have := L2.out; omega
            obtain ⟨ad, rfl, had, hcell⟩ := R2.out.at1 hlt (Lw.intsV_get hl)
            obtain ⟨x, hx⟩ : ∃ x, ms[k] = x := ⟨_, rfl⟩
            rw [hx] at hcell
            have hcell2 := (hBr.cell (p := ad.add k) (by rw [Lw.add_block]; omega)).trans ((hb1.cell (p := ad.add k) (by rw [Lw.add_block]; simp; omega)).trans ((((Below.refl w.heap.size w).alloc (Nat.le_refl _) (.cells #[.int .i64 P, .int .i64 Q, .int .i64 G, .int .i64 H] 23)).cell (p := ad.add k) (by rw [Lw.add_block]; omega)).trans hcell))
            by_cases hr : Lw.memB P Q x = true
            · have N := Lib.hid (Lw.all_next hl T.out (by rw [hx]; exact hr))
              clear hx hcell
              go_wp2_with (go_at_call 41; refine (group_Member _ _ _ _ _ _ (by omega) (by omega) (by omega) (by omega)).mono ?_; rintro e w2 ⟨rfl, hb2⟩)
              go_roundw
              case rel => exact ⟨k + 1, by go_num, by omega, N, Lw.bt hBr hb2⟩
              case measure => simp [intOf]; omega
            · have hr' : Lw.memB P Q x = false := by simpa using hr
              have E := Lib.hid (Lw.askE_four HG.out PS.out (Lw.all_no hl (by rw [hx]; exact hr')))
              clear hx hr hcell
              go_wp2_with (go_at_call 41; refine (group_Member _ _ _ _ _ _ (by omega) (by omega) (by omega) (by omega)).mono ?_; rintro e w2 ⟨rfl, hb2⟩)
              go_ret
              rw [E.out]
              exact ⟨rfl, Lw.bt (Lw.bt (Lw.bt (by go_grown) hb1) hBr) hb2⟩
          · have hk : k = ms.length := by have := L2.out; omega
            have MS : Hid (Lw.msB P Q ms = true) := by have := T.out; rw [hk] at this; exact Lw.all_upto this
            have E := Lib.hid (Lw.askE_zero HG.out PS.out MS.out)
            clear T hk
            go_wp2
            go_ret
            rw [E.out]
            exact ⟨rfl, Lw.bt (Lw.bt (by go_grown) hb1) hBr⟩
  · have E := Lib.hid (Lw.askE_group ps ms hg)
    have hg1 : (Lw.groupE P Q G H != 0) = true := by simpa using hg
    clear hg
    go_enter Try.func55, Try.ntmps55
    go_wp2_with (go_at_call 44; refine (group_Check _ _ _ _ _).mono ?_; rintro e w1 ⟨rfl, hb1⟩)
    go_ret
    rw [E.out]
    exact ⟨rfl, Lw.bt (by go_grown) hb1⟩
set_option maxHeartbeats 2000000 in
theorem ref_GroupAsk (P Q G H : Int) (A1 A2 : Option Addr) (n1 n2 c1 c2 : Nat) (ps ms : List Int) (w : World) (R1 : Lw.Rd w 1 A1 n1 (Lw.intsV .i64 ps)) (R2 : Lw.Rd w 1 A2 n2 (Lw.intsV .i64 ms)) (m1 : n1 ≤ maxLen) (m2 : n2 ≤ maxLen) :
    Calls Try.prog 16 #[.agg #[.int .i64 P, .int .i64 Q, .int .i64 G, .int .i64 H], .slice A1 n1 c1, .slice A2 n2 c2] w fun e w' => e = .returned (.int .i64 (Lw.askE P Q G H ps ms)) ∧ Below w.heap.size w w' := by
  unfold maxLen at m1 m2
  have R1 := Lib.hid R1
  have R2 := Lib.hid R2
  have l1 : ps.length = n1 := by have := R1.out.1; simpa [Lw.intsV] using this
  have l2 : ms.length = n2 := by have := R2.out.1; simpa [Lw.intsV] using this
  have L1 := Lib.hid l1
  have L2 := Lib.hid l2
  clear l1 l2
  by_cases hg : Lw.groupE P Q G H = 0
  · obtain ⟨g1, g2⟩ := Lw.groupE_ok hg
    obtain ⟨h1, h2, h3, h4, h5, h6, h7, h8⟩ := g1
    have HG := Lib.hid hg
    clear g2
    obtain ⟨gE, hgE⟩ : ∃ gE, Lw.groupE P Q G H = gE := ⟨_, rfl⟩
    have C := fun (w : World) => ref_GroupCheck P Q G H w
    rw [hg] at C
    have C := Lib.hid C
    clear hg hgE
    go_enter Try.func16, Try.ntmps16
    go_wp2_with (go_at_call 34; refine (C.out _).mono ?_; rintro e w1 ⟨rfl, hb1⟩; obtain ⟨hc1, hf1⟩ := Lw.bcell hb1; have hz1 : w.heap.size < w1.heap.size := by have := hb1.size; simp at this; omega)
    go_loop [9, 19] (fun x i => ∃ k : Nat, i = .int .i64 (k : Int) ∧ k ≤ n1 ∧ Hid (((ps.take k).all fun a => decide (0 ≤ a ∧ a < Q)) = true)) (fun _ i => n1 - (intOf i).toNat)
    case atStart => exact ⟨0, rfl, by omega, rfl⟩
    case round =>
      obtain ⟨k, rfl, k1, T⟩ := hrel
      by_cases hlt : k < n1
      · have hl : k < ps.length := by have := L1.out; omega
        obtain ⟨ad, rfl, had, hcell⟩ := R1.out.at1 hlt (Lw.intsV_get hl)
        obtain ⟨x, hx⟩ : ∃ x, ps[k] = x := ⟨_, rfl⟩
        rw [hx] at hcell
        have hcell2 := (hb1.cell (p := ad.add k) (by rw [Lw.add_block]; simp; omega)).trans ((((Below.refl w.heap.size w).alloc (Nat.le_refl _) (.cells #[.int .i64 P, .int .i64 Q, .int .i64 G, .int .i64 H] 23)).cell (p := ad.add k) (by rw [Lw.add_block]; omega)).trans hcell)
        by_cases hr : 0 ≤ x ∧ x < Q
        · have N := Lib.hid (Lw.all_next hl T.out (by rw [hx]; exact decide_eq_true hr))
          obtain ⟨r1, r2⟩ := hr
          clear hx hcell
          go_wp2
          go_round
          case rel => exact ⟨k + 1, by go_num, by omega, N⟩
          case measure => simp [intOf]; omega
        · have E := Lib.hid (Lw.askE_two ms HG.out (Lw.all_no hl (by rw [hx]; exact decide_eq_false hr)))
          have hr2 : x < 0 ∨ (0 ≤ x ∧ Q ≤ x) := by omega
          clear hx hr hcell
          rcases hr2 with r1 | ⟨r1, r2⟩
          all_goals
            go_wp2
            go_ret
            rw [E.out]
            exact ⟨rfl, Lw.bt (by go_grown) hb1⟩
      · have hk : k = ps.length := by have := L1.out; omega
        have PS : Hid (Lw.psB Q ps = true) := by have := T.out; rw [hk] at this; exact Lw.all_upto this
        clear T hk
        go_wp2
        go_loopw [11, 34] (fun x i wr => ∃ k : Nat, i = .int .i64 (k : Int) ∧ k ≤ n2 ∧ Hid (((ms.take k).all fun a => Lw.memB P Q a) = true) ∧ Below w1.heap.size w1 wr) (fun _ i _ => n2 - (intOf i).toNat)
        case atStart => exact ⟨0, rfl, by omega, rfl, Below.refl _ _⟩
        case round =>
          obtain ⟨k, rfl, k1, T, hBr⟩ := hrel
          obtain ⟨hcr, hfr⟩ := Lw.bcell hBr
          have hszr := hBr.size
          by_cases hlt : k < n2
          · have hl : k < ms.length := by have := L2.out; omega
            obtain ⟨ad, rfl, had, hcell⟩ := R2.out.at1 hlt (Lw.intsV_get hl)
            obtain ⟨x, hx⟩ : ∃ x, ms[k] = x := ⟨_, rfl⟩
            rw [hx] at hcell
            have hcell2 := (hBr.cell (p := ad.add k) (by rw [Lw.add_block]; omega)).trans ((hb1.cell (p := ad.add k) (by rw [Lw.add_block]; simp; omega)).trans ((((Below.refl w.heap.size w).alloc (Nat.le_refl _) (.cells #[.int .i64 P, .int .i64 Q, .int .i64 G, .int .i64 H] 23)).cell (p := ad.add k) (by rw [Lw.add_block]; omega)).trans hcell))
            by_cases hr : Lw.memB P Q x = true
            · have N := Lib.hid (Lw.all_next hl T.out (by rw [hx]; exact hr))
              clear hx hcell
              go_wp2_with (go_at_call 11; refine (ref_Member _ _ _ _ _ _ (by omega) (by omega) (by omega) (by omega)).mono ?_; rintro e w2 ⟨rfl, hb2⟩)
              go_roundw
              case rel => exact ⟨k + 1, by go_num, by omega, N, Lw.bt hBr hb2⟩
              case measure => simp [intOf]; omega
            · have hr' : Lw.memB P Q x = false := by simpa using hr
              have E := Lib.hid (Lw.askE_four HG.out PS.out (Lw.all_no hl (by rw [hx]; exact hr')))
              clear hx hr hcell
              go_wp2_with (go_at_call 11; refine (ref_Member _ _ _ _ _ _ (by omega) (by omega) (by omega) (by omega)).mono ?_; rintro e w2 ⟨rfl, hb2⟩)
              go_ret
              rw [E.out]
              exact ⟨rfl, Lw.bt (Lw.bt (Lw.bt (by go_grown) hb1) hBr) hb2⟩
          · have hk : k = ms.length := by have := L2.out; omega
            have MS : Hid (Lw.msB P Q ms = true) := by have := T.out; rw [hk] at this; exact Lw.all_upto this
            have E := Lib.hid (Lw.askE_zero HG.out PS.out MS.out)
            clear T hk
            go_wp2
            go_ret
            rw [E.out]
            exact ⟨rfl, Lw.bt (Lw.bt (by go_grown) hb1) hBr⟩
  · have E := Lib.hid (Lw.askE_group ps ms hg)
    have hg1 : (Lw.groupE P Q G H != 0) = true := by simpa using hg
    clear hg
    go_enter Try.func16, Try.ntmps16
    go_wp2_with (go_at_call 34; refine (ref_GroupCheck _ _ _ _ _).mono ?_; rintro e w1 ⟨rfl, hb1⟩)
    go_ret
    rw [E.out]
    exact ⟨rfl, Lw.bt (by go_grown) hb1⟩
theorem group_wrong' (P Q G H E : Int) (ps ms : List Int) (hE : Lw.askE P Q G H ps ms = E) (A1 A2 : Option Addr) (n1 n2 c1 c2 : Nat) (w : World) (R1 : Lw.Rd w 1 A1 n1 (Lw.intsV .i64 ps)) (R2 : Lw.Rd w 1 A2 n2 (Lw.intsV .i64 ms)) (m1 : n1 ≤ maxLen) (m2 : n2 ≤ maxLen) :
    Calls Try.prog 55 #[.agg #[.int .i64 P, .int .i64 Q, .int .i64 G, .int .i64 H], .slice A1 n1 c1, .slice A2 n2 c2] w fun e w' => e = .returned (.int .i64 E) ∧ Below w.heap.size w w' := hE ▸ group_wrong P Q G H A1 A2 n1 n2 c1 c2 ps ms w R1 R2 m1 m2
theorem ref_GroupAsk' (P Q G H E : Int) (ps ms : List Int) (hE : Lw.askE P Q G H ps ms = E) (A1 A2 : Option Addr) (n1 n2 c1 c2 : Nat) (w : World) (R1 : Lw.Rd w 1 A1 n1 (Lw.intsV .i64 ps)) (R2 : Lw.Rd w 1 A2 n2 (Lw.intsV .i64 ms)) (m1 : n1 ≤ maxLen) (m2 : n2 ≤ maxLen) :
    Calls Try.prog 16 #[.agg #[.int .i64 P, .int .i64 Q, .int .i64 G, .int .i64 H], .slice A1 n1 c1, .slice A2 n2 c2] w fun e w' => e = .returned (.int .i64 E) ∧ Below w.heap.size w w' := hE ▸ ref_GroupAsk P Q G H A1 A2 n1 n2 c1 c2 ps ms w R1 R2 m1 m2
end Go.Proofs.Ytfidmmgcmfnleaa
