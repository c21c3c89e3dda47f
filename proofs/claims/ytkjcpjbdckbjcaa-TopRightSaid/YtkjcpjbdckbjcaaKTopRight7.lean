/-
  Contracts of group.wrong and of the reference's GroupAsk: what is wrong with a group, with powers, with members.
  What a text asks: talk.asks and the reference's TextAsks.
  Contracts of group.Shared and group.Public.
  Contracts of package commit, and of the statements' helper bound.
  Contracts of commit.over, commit.Other and commit.Break.
  Contracts of package shake's helpers: texts, sums, what is asked of a group one by one.
  Contracts of (*asked).shared, shake.Answer, the reference's Shake.
-/
import Derived.Test.YtkjcpjbdckbjcaaKTopRight6
import Derived.Test.YtkjcpjbdckbjcaaKTopRight1
import Derived.Test.YtkjcpjbdckbjcaaKTopRight0
import Derived.Deep.RegionWith
import Derived.IntWalk
namespace Lw
def psB (Q : Int) (ps : List Int) : Bool := ps.all fun a => decide (0 ≤ a ∧ a < Q)
def msB (P Q : Int) (ms : List Int) : Bool := ms.all fun x => memB P Q x
/-- what is wrong: 0, 2, 3 or 4 -/
def askE (P Q G H : Int) (ps ms : List Int) : Int := if groupE P Q G H = 0 then (if psB Q ps = true then (if msB P Q ms = true then 0 else 4) else 2) else groupE P Q G H
theorem askE_group {P Q G H : Int} (ps ms : List Int) (h : ¬ groupE P Q G H = 0) : askE P Q G H ps ms = groupE P Q G H := if_neg h
theorem askE_two {P Q G H : Int} {ps : List Int} (ms : List Int) (h : groupE P Q G H = 0) (h1 : psB Q ps = false) : askE P Q G H ps ms = 2 := by unfold askE; rw [if_pos h, if_neg (by rw [h1]; simp)]
theorem askE_four {P Q G H : Int} {ps ms : List Int} (h : groupE P Q G H = 0) (h1 : psB Q ps = true) (h2 : msB P Q ms = false) : askE P Q G H ps ms = 4 := by unfold askE; rw [if_pos h, if_pos h1, if_neg (by rw [h2]; simp)]
theorem askE_zero {P Q G H : Int} {ps ms : List Int} (h : groupE P Q G H = 0) (h1 : psB Q ps = true) (h2 : msB P Q ms = true) : askE P Q G H ps ms = 0 := by unfold askE; rw [if_pos h, if_pos h1, if_pos h2]
theorem groupE_ok {P Q G H : Int} (h : groupE P Q G H = 0) : GRange P Q G H ∧ GArg P Q G H := by
  unfold groupE at h
  by_cases h1 : GRange P Q G H
  · rw [if_pos h1] at h
    by_cases h2 : GArg P Q G H
    · exact ⟨h1, h2⟩
    · rw [if_neg h2] at h; cases h
  · rw [if_neg h1] at h; cases h
theorem askE_ok {P Q G H : Int} {ps ms : List Int} (h : askE P Q G H ps ms = 0) : groupE P Q G H = 0 ∧ psB Q ps = true ∧ msB P Q ms = true := by
  unfold askE at h
  by_cases h0 : groupE P Q G H = 0
  · rw [if_pos h0] at h
    by_cases h1 : psB Q ps = true
    · rw [if_pos h1] at h
      by_cases h2 : msB P Q ms = true
      · exact ⟨h0, h1, h2⟩
      · rw [if_neg h2] at h; cases h
    · rw [if_neg h1] at h; cases h
  · rw [if_neg h0] at h; exact absurd h h0
theorem psB_cons {Q a : Int} {ps : List Int} (h : psB Q (a :: ps) = true) : 0 ≤ a ∧ a < Q ∧ psB Q ps = true := by
  unfold psB at *; simp at h; exact ⟨h.1.1, h.1.2, by simpa using h.2⟩
theorem msB_cons {P Q x : Int} {ms : List Int} (h : msB P Q (x :: ms) = true) : memB P Q x = true ∧ msB P Q ms = true := by
  unfold msB at *; simp at h; exact ⟨h.1, by simpa using h.2⟩
theorem memB_bd {P Q x : Int} (h : memB P Q x = true) : 1 ≤ x ∧ x < P ∧ pw x Q P = 1 := by
  unfold memB at h; simp at h; exact ⟨h.1.1, h.1.2, h.2⟩
/-- the generators are members -/
theorem memB_G {P Q G H : Int} (h : groupE P Q G H = 0) : memB P Q G = true ∧ memB P Q H = true := by
  obtain ⟨⟨h1, h2, h3, h4, h5, h6, h7, h8⟩, g1, g2, g3, g4, g5⟩ := groupE_ok h
  rw [memB_in ⟨by omega, h6⟩, memB_in ⟨by omega, h8⟩, g4, g5]; simp
theorem askE_G (P Q G H : Int) (ps ms : List Int) : askE P Q G H ps (G :: ms) = askE P Q G H ps ms := by
  unfold askE
  by_cases h : groupE P Q G H = 0
  · have : msB P Q (G :: ms) = msB P Q ms := by unfold msB; rw [List.all_cons, (memB_G h).1, Bool.true_and]
    rw [this]
  · rw [if_neg h, if_neg h]
theorem askE_H (P Q G H : Int) (ps ms : List Int) : askE P Q G H ps (H :: ms) = askE P Q G H ps ms := by
  unfold askE
  by_cases h : groupE P Q G H = 0
  · have : msB P Q (H :: ms) = msB P Q ms := by unfold msB; rw [List.all_cons, (memB_G h).2, Bool.true_and]
    rw [this]
  · rw [if_neg h, if_neg h]
theorem groupE_bd (P Q G H : Int) : 0 ≤ groupE P Q G H ∧ groupE P Q G H ≤ 3 := by unfold groupE; split <;> (try split) <;> omega
theorem all_no {α : Type} {f : α → Bool} {l : List α} {k : Nat} (hk : k < l.length) (h : f l[k] = false) : l.all f = false := by
  rw [List.all_eq_false]; exact ⟨l[k], List.getElem_mem hk, by simp [h]⟩
theorem all_upto {α : Type} {f : α → Bool} {l : List α} (h : (l.take l.length).all f = true) : l.all f = true := by rwa [List.take_length] at h
theorem all_next {α : Type} {f : α → Bool} {l : List α} {k : Nat} (hk : k < l.length) (h : (l.take k).all f = true) (h1 : f l[k] = true) : (l.take (k + 1)).all f = true := by
  rw [List.take_succ_eq_append_getElem hk, List.all_append, h]; simp [h1]
end Lw
set_option linter.unusedVariables false
set_option linter.unusedSimpArgs false
namespace Go.Proofs.Ytkjcpjbdckbjcaa
open Go.RowKit
theorem group_Check (P Q G H : Int) (w : World) :
    Calls Try.prog 12 #[.agg #[.int .i64 P, .int .i64 Q, .int .i64 G, .int .i64 H]] w fun e w' => e = .returned (.int .i64 (Lw.groupE P Q G H)) ∧ Below w.heap.size w w' := by
  by_cases h : Lw.GRange P Q G H
  · exact group_Check_in P Q G H w h
  · rw [← Lw.groupE_two h]; exact group_Check_bad P Q G H w h
theorem ref_GroupCheck (P Q G H : Int) (w : World) :
    Calls Try.prog 9 #[.agg #[.int .i64 P, .int .i64 Q, .int .i64 G, .int .i64 H]] w fun e w' => e = .returned (.int .i64 (Lw.groupE P Q G H)) ∧ Below w.heap.size w w' := by
  by_cases h : Lw.GRange P Q G H
  · exact ref_GroupCheck_in P Q G H w h
  · rw [← Lw.groupE_two h]; exact ref_GroupCheck_bad P Q G H w h
theorem ref_Member (P Q G H x : Int) (w : World) (h1 : 3 ≤ P) (h2 : P ≤ 1048576) (h3 : 0 ≤ Q) (h4 : Q ≤ 1048576) :
    Calls Try.prog 40 #[.agg #[.int .i64 P, .int .i64 Q, .int .i64 G, .int .i64 H], .int .i64 x] w fun e w' => e = .returned (.bool (Lw.memB P Q x)) ∧ Below w.heap.size w w' := by
  by_cases h : 1 ≤ x ∧ x < P
  · have E := Lib.hid (Lw.memB_in (Q := Q) h)
    obtain ⟨h5, h6⟩ := h
    go_enter Try.func40, Try.ntmps40
    go_wp2_with (go_at_call 20; refine (ref_Pow _ _ _ _ _ (Nat.le_refl _) (by omega) (by omega) (by omega) (by omega)).mono ?_; rintro e w' ⟨rfl, rfl⟩)
    go_ret
    rw [E.out]; exact ⟨rfl, by go_grown⟩
  · have E := Lib.hid (Lw.memB_no (Q := Q) h)
    have hc : x < 1 ∨ (1 ≤ x ∧ P ≤ x) := by omega
    clear h
    rcases hc with h | ⟨h, h'⟩
    all_goals
      go_enter Try.func40, Try.ntmps40
      go_wp2_with fail
      go_ret
      rw [E.out]; exact ⟨rfl, by go_grown⟩
set_option maxHeartbeats 2000000 in
theorem group_wrong (P Q G H : Int) (A1 A2 : Option Addr) (n1 n2 c1 c2 : Nat) (ps ms : List Int) (w : World) (R1 : Lw.Rd w 1 A1 n1 (Lw.intsV .i64 ps)) (R2 : Lw.Rd w 1 A2 n2 (Lw.intsV .i64 ms)) (m1 : n1 ≤ maxLen) (m2 : n2 ≤ maxLen) :
    Calls Try.prog 66 #[.agg #[.int .i64 P, .int .i64 Q, .int .i64 G, .int .i64 H], .slice A1 n1 c1, .slice A2 n2 c2] w fun e w' => e = .returned (.int .i64 (Lw.askE P Q G H ps ms)) ∧ Below w.heap.size w w' := by
  unfold maxLen at m1 m2
  have R1 := Lib.hid R1
  have R2 := Lib.hid R2
  have l1 : ps.length = n1 := by have := R1.out.1; simpa [Lw.intsV] using this
  have l2 : ms.length = n2 := by have := R2.out.1; simpa [Lw.intsV] using this
  have L1 := Lib.hid l1
  have L2 := Lib.hid l2
  clear l1 l2
  by_cases hg : Lw.groupE P Q G H = 0
  · obtain ⟨g1, g2⟩ := Lw.groupE_ok hg
    obtain ⟨h1, h2, h3, h4, h5, h6, h7, h8⟩ := g1
    have HG := Lib.hid hg
    clear g2
    obtain ⟨gE, hgE⟩ : ∃ gE, Lw.groupE P Q G H = gE := ⟨_, rfl⟩
    have C := fun (w : World) => group_Check P Q G H w
    rw [hg] at C
    have C := Lib.hid C
    clear hg hgE
    go_enter Try.func66, Try.ntmps66
    go_wp2_with (go_at_call 12; refine (C.out _).mono ?_; rintro e w1 ⟨rfl, hb1⟩; obtain ⟨hc1, hf1⟩ := Lw.bcell hb1; have hz1 : w.heap.size < w1.heap.size := by have := hb1.size; simp at this; omega)
    go_loop [9, 19] (fun x i => ∃ k : Nat, i = .int .i64 (k : Int) ∧ k ≤ n1 ∧ Hid (((ps.take k).all fun a => decide (0 ≤ a ∧ a < Q)) = true)) (fun _ i => n1 - (intOf i).toNat)
    case atStart => exact ⟨0, rfl, by omega, rfl⟩
    case round =>
      obtain ⟨k, rfl, k1, T⟩ := hrel
      by_cases hlt : k < n1
      · have hl : k < ps.length := by have := L1.out; omega
        obtain ⟨ad, rfl, had, hcell⟩ := R1.out.at1 hlt (Lw.intsV_get hl)
        obtain ⟨x, hx⟩ : ∃ x, ps[k] = x := ⟨_, rfl⟩
        rw [hx] at hcell
        have hcell2 := (hb1.cell (p := ad.add k) (by rw [Lw.add_block]; simp; omega)).trans ((((Below.refl w.heap.size w).alloc (Nat.le_refl _) (.cells #[.int .i64 P, .int .i64 Q, .int .i64 G, .int .i64 H] 23)).cell (p := ad.add k) (by rw [Lw.add_block]; omega)).trans hcell)
        by_cases hr : 0 ≤ x ∧ x < Q
        · have N := Lib.hid (Lw.all_next hl T.out (by rw [hx]; exact decide_eq_true hr))
          obtain ⟨r1, r2⟩ := hr
          clear hx hcell
          go_wp2
          go_round
          case rel => exact ⟨k + 1, by go_num, by omega, N⟩
          case measure => simp [intOf]; omega
        · have E := Lib.hid (Lw.askE_two ms HG.out (Lw.all_no hl (by rw [hx]; exact decide_eq_false hr)))
          have hr2 : x < 0 ∨ (0 ≤ x ∧ Q ≤ x) := by omega
          clear hx hr hcell
          rcases hr2 with r1 | ⟨r1, r2⟩
          all_goals
            go_wp2
            go_ret
            rw [E.out]
            exact ⟨rfl, Lw.bt (by go_grown) hb1⟩
      · have hk : k = ps.length := by have := L1.out; omega
        have PS : Hid (Lw.psB Q ps = true) := by have := T.out; rw [hk] at this; exact Lw.all_upto this
        clear T hk
        go_wp2
        go_loopw [11, 34] (fun x i wr => ∃ k : Nat, i = .int .i64 (k : Int) ∧ k ≤ n2 ∧ Hid (((ms.take k).all fun a => Lw.memB P Q a) = true) ∧ Below w1.heap.size w1 wr) (fun _ i _ => n2 - (intOf i).toNat)
        case atStart => exact ⟨0, rfl, by omega, rfl, Below.refl _ _⟩
        case round =>
          obtain ⟨k, rfl, k1, T, hBr⟩ := hrel
          obtain ⟨hcr, hfr⟩ := Lw.bcell hBr
          have hszr := hBr.size
          by_cases hlt : k < n2
          · have hl : k < ms.length := by have := L2.out; omega
            obtain ⟨ad, rfl, had, hcell⟩ := R2.out.at1 hlt (Lw.intsV_get hl)
            obtain ⟨x, hx⟩ : ∃ x, ms[k] = x := ⟨_, rfl⟩
            rw [hx] at hcell
            have hcell2 := (hBr.cell (p := ad.add k) (by rw [Lw.add_block]; omega)).trans ((hb1.cell (p := ad.add k) (by rw [Lw.add_block]; simp; omega)).trans ((((Below.refl w.heap.size w).alloc (Nat.le_refl _) (.cells #[.int .i64 P, .int .i64 Q, .int .i64 G, .int .i64 H] 23)).cell (p := ad.add k) (by rw [Lw.add_block]; omega)).trans hcell))
            by_cases hr : Lw.memB P Q x = true
            · have N := Lib.hid (Lw.all_next hl T.out (by rw [hx]; exact hr))
              clear hx hcell
              go_wp2_with (go_at_call 28; refine (group_Member _ _ _ _ _ _ (by omega) (by omega) (by omega) (by omega)).mono ?_; rintro e w2 ⟨rfl, hb2⟩)
              go_roundw
              case rel => exact ⟨k + 1, by go_num, by omega, N, Lw.bt hBr hb2⟩
              case measure => simp [intOf]; omega
            · have hr' : Lw.memB P Q x = false := by simpa using hr
              have E := Lib.hid (Lw.askE_four HG.out PS.out (Lw.all_no hl (by rw [hx]; exact hr')))
              clear hx hr hcell
              go_wp2_with (go_at_call 28; refine (group_Member _ _ _ _ _ _ (by omega) (by omega) (by omega) (by omega)).mono ?_; rintro e w2 ⟨rfl, hb2⟩)
              go_ret
              rw [E.out]
              exact ⟨rfl, Lw.bt (Lw.bt (Lw.bt (by go_grown) hb1) hBr) hb2⟩
          · have hk : k = ms.length := by have := L2.out; omega
            have MS : Hid (Lw.msB P Q ms = true) := by have := T.out; rw [hk] at this; exact Lw.all_upto this
            have E := Lib.hid (Lw.askE_zero HG.out PS.out MS.out)
            clear T hk
            go_wp2
            go_ret
            rw [E.out]
            exact ⟨rfl, Lw.bt (Lw.bt (by go_grown) hb1) hBr⟩
  · have E := Lib.hid (Lw.askE_group ps ms hg)
    have hg1 : (Lw.groupE P Q G H != 0) = true := by simpa using hg
    clear hg
    go_enter Try.func66, Try.ntmps66
    go_wp2_with (go_at_call 12; refine (group_Check _ _ _ _ _).mono ?_; rintro e w1 ⟨rfl, hb1⟩)
    go_ret
    rw [E.out]
    exact ⟨rfl, Lw.bt (by go_grown) hb1⟩
set_option maxHeartbeats 2000000 in
theorem ref_GroupAsk (P Q G H : Int) (A1 A2 : Option Addr) (n1 n2 c1 c2 : Nat) (ps ms : List Int) (w : World) (R1 : Lw.Rd w 1 A1 n1 (Lw.intsV .i64 ps)) (R2 : Lw.Rd w 1 A2 n2 (Lw.intsV .i64 ms)) (m1 : n1 ≤ maxLen) (m2 : n2 ≤ maxLen) :
    Calls Try.prog 18 #[.agg #[.int .i64 P, .int .i64 Q, .int .i64 G, .int .i64 H], .slice A1 n1 c1, .slice A2 n2 c2] w fun e w' => e = .returned (.int .i64 (Lw.askE P Q G H ps ms)) ∧ Below w.heap.size w w' := by
  unfold maxLen at m1 m2
  have R1 := Lib.hid R1
  have R2 := Lib.hid R2
  have l1 : ps.length = n1 := by have := R1.out.1; simpa [Lw.intsV] using this
  have l2 : ms.length = n2 := by have := R2.out.1; simpa [Lw.intsV] using this
  have L1 := Lib.hid l1
  have L2 := Lib.hid l2
  clear l1 l2
  by_cases hg : Lw.groupE P Q G H = 0
  · obtain ⟨g1, g2⟩ := Lw.groupE_ok hg
    obtain ⟨h1, h2, h3, h4, h5, h6, h7, h8⟩ := g1
    have HG := Lib.hid hg
    clear g2
    obtain ⟨gE, hgE⟩ : ∃ gE, Lw.groupE P Q G H = gE := ⟨_, rfl⟩
    have C := fun (w : World) => ref_GroupCheck P Q G H w
    rw [hg] at C
    have C := Lib.hid C
    clear hg hgE
    go_enter Try.func18, Try.ntmps18
    go_wp2_with (go_at_call 9; refine (C.out _).mono ?_; rintro e w1 ⟨rfl, hb1⟩; obtain ⟨hc1, hf1⟩ := Lw.bcell hb1; have hz1 : w.heap.size < w1.heap.size := by have := hb1.size; simp at this; omega)
    go_loop [9, 19] (fun x i => ∃ k : Nat, i = .int .i64 (k : Int) ∧ k ≤ n1 ∧ Hid (((ps.take k).all fun a => decide (0 ≤ a ∧ a < Q)) = true)) (fun _ i => n1 - (intOf i).toNat)
    case atStart => exact ⟨0, rfl, by omega, rfl⟩
    case round =>
      obtain ⟨k, rfl, k1, T⟩ := hrel
      by_cases hlt : k < n1
      · have hl : k < ps.length := by have := L1.out; omega
        obtain ⟨ad, rfl, had, hcell⟩ := R1.out.at1 hlt (Lw.intsV_get hl)
        obtain ⟨x, hx⟩ : ∃ x, ps[k] = x := ⟨_, rfl⟩
        rw [hx] at hcell
        have hcell2 := (hb1.cell (p := ad.add k) (by rw [Lw.add_block]; simp; omega)).trans ((((Below.refl w.heap.size w).alloc (Nat.le_refl _) (.cells #[.int .i64 P, .int .i64 Q, .int .i64 G, .int .i64 H] 23)).cell (p := ad.add k) (by rw [Lw.add_block]; omega)).trans hcell)
        by_cases hr : 0 ≤ x ∧ x < Q
        · have N := Lib.hid (Lw.all_next hl T.out (by rw [hx]; exact decide_eq_true hr))
          obtain ⟨r1, r2⟩ := hr
          clear hx hcell
          go_wp2
          go_round
          case rel => exact ⟨k + 1, by go_num, by omega, N⟩
          case measure => simp [intOf]; omega
        · have E := Lib.hid (Lw.askE_two ms HG.out (Lw.all_no hl (by rw [hx]; exact decide_eq_false hr)))
          have hr2 : x < 0 ∨ (0 ≤ x ∧ Q ≤ x) := by omega
          clear hx hr hcell
          rcases hr2 with r1 | ⟨r1, r2⟩
          all_goals
            go_wp2
            go_ret
            rw [E.out]
            exact ⟨rfl, Lw.bt (by go_grown) hb1⟩
      · have hk : k = ps.length := by have := L1.out; omega
        have PS : Hid (Lw.psB Q ps = true) := by have := T.out; rw [hk] at this; exact Lw.all_upto this
        clear T hk
        go_wp2
        go_loopw [11, 34] (fun x i wr => ∃ k : Nat, i = .int .i64 (k : Int) ∧ k ≤ n2 ∧ Hid (((ms.take k).all fun a => Lw.memB P Q a) = true) ∧ Below w1.heap.size w1 wr) (fun _ i _ => n2 - (intOf i).toNat)
        case atStart => exact ⟨0, rfl, by omega, rfl, Below.refl _ _⟩
        case round =>
          obtain ⟨k, rfl, k1, T, hBr⟩ := hrel
          obtain ⟨hcr, hfr⟩ := Lw.bcell hBr
          have hszr := hBr.size
          by_cases hlt : k < n2
          · have hl : k < ms.length := by have := L2.out; omega
            obtain ⟨ad, rfl, had, hcell⟩ := R2.out.at1 hlt (Lw.intsV_get hl)
            obtain ⟨x, hx⟩ : ∃ x, ms[k] = x := ⟨_, rfl⟩
            rw [hx] at hcell
            have hcell2 := (hBr.cell (p := ad.add k) (by rw [Lw.add_block]; omega)).trans ((hb1.cell (p := ad.add k) (by rw [Lw.add_block]; simp; omega)).trans ((((Below.refl w.heap.size w).alloc (Nat.le_refl _) (.cells #[.int .i64 P, .int .i64 Q, .int .i64 G, .int .i64 H] 23)).cell (p := ad.add k) (by rw [Lw.add_block]; omega)).trans hcell))
            by_cases hr : Lw.memB P Q x = true
            · have N := Lib.hid (Lw.all_next hl T.out (by rw [hx]; exact hr))
              clear hx hcell
              go_wp2_with (go_at_call 40; refine (ref_Member _ _ _ _ _ _ (by omega) (by omega) (by omega) (by omega)).mono ?_; rintro e w2 ⟨rfl, hb2⟩)
              go_roundw
              case rel => exact ⟨k + 1, by go_num, by omega, N, Lw.bt hBr hb2⟩
              case measure => simp [intOf]; omega
            · have hr' : Lw.memB P Q x = false := by simpa using hr
              have E := Lib.hid (Lw.askE_four HG.out PS.out (Lw.all_no hl (by rw [hx]; exact hr')))
              clear hx hr hcell
              go_wp2_with (go_at_call 40; refine (ref_Member _ _ _ _ _ _ (by omega) (by omega) (by omega) (by omega)).mono ?_; rintro e w2 ⟨rfl, hb2⟩)
              go_ret
              rw [E.out]
              exact ⟨rfl, Lw.bt (Lw.bt (Lw.bt (by go_grown) hb1) hBr) hb2⟩
          · have hk : k = ms.length := by have := L2.out; omega
            have MS : Hid (Lw.msB P Q ms = true) := by have := T.out; rw [hk] at this; exact Lw.all_upto this
            have E := Lib.hid (Lw.askE_zero HG.out PS.out MS.out)
            clear T hk
            go_wp2
            go_ret
            rw [E.out]
            exact ⟨rfl, Lw.bt (Lw.bt (by go_grown) hb1) hBr⟩
  · have E := Lib.hid (Lw.askE_group ps ms hg)
    have hg1 : (Lw.groupE P Q G H != 0) = true := by simpa using hg
    clear hg
    go_enter Try.func18, Try.ntmps18
    go_wp2_with (go_at_call 9; refine (ref_GroupCheck _ _ _ _ _).mono ?_; rintro e w1 ⟨rfl, hb1⟩)
    go_ret
    rw [E.out]
    exact ⟨rfl, Lw.bt (by go_grown) hb1⟩
theorem group_wrong' (P Q G H E : Int) (ps ms : List Int) (hE : Lw.askE P Q G H ps ms = E) (A1 A2 : Option Addr) (n1 n2 c1 c2 : Nat) (w : World) (R1 : Lw.Rd w 1 A1 n1 (Lw.intsV .i64 ps)) (R2 : Lw.Rd w 1 A2 n2 (Lw.intsV .i64 ms)) (m1 : n1 ≤ maxLen) (m2 : n2 ≤ maxLen) :
    Calls Try.prog 66 #[.agg #[.int .i64 P, .int .i64 Q, .int .i64 G, .int .i64 H], .slice A1 n1 c1, .slice A2 n2 c2] w fun e w' => e = .returned (.int .i64 E) ∧ Below w.heap.size w w' := hE ▸ group_wrong P Q G H A1 A2 n1 n2 c1 c2 ps ms w R1 R2 m1 m2
theorem ref_GroupAsk' (P Q G H E : Int) (ps ms : List Int) (hE : Lw.askE P Q G H ps ms = E) (A1 A2 : Option Addr) (n1 n2 c1 c2 : Nat) (w : World) (R1 : Lw.Rd w 1 A1 n1 (Lw.intsV .i64 ps)) (R2 : Lw.Rd w 1 A2 n2 (Lw.intsV .i64 ms)) (m1 : n1 ≤ maxLen) (m2 : n2 ≤ maxLen) :
    Calls Try.prog 18 #[.agg #[.int .i64 P, .int .i64 Q, .int .i64 G, .int .i64 H], .slice A1 n1 c1, .slice A2 n2 c2] w fun e w' => e = .returned (.int .i64 E) ∧ Below w.heap.size w w' := hE ▸ ref_GroupAsk P Q G H A1 A2 n1 n2 c1 c2 ps ms w R1 R2 m1 m2
end Go.Proofs.Ytkjcpjbdckbjcaa
namespace Lw
/-- the bytes that are summed: first, public, the text -/
def askT (y F : Int) (bs : List Int) : List Int := littleL F 4 ++ littleL y 4 ++ bs
theorem askT_byt {y F : Int} {bs : List Int} (h : Byt bs) : Byt (askT y F bs) := ((littleL_byt _ _).app (littleL_byt _ _)).app h
def asksI (Q y F : Int) (bs : List Int) : Int := hsum (askT y F bs) % Q
end Lw
set_option linter.unusedVariables false
set_option linter.unusedSimpArgs false
namespace Go.Proofs.Ytkjcpjbdckbjcaa
open Go.RowKit
end Go.Proofs.Ytkjcpjbdckbjcaa
set_option linter.unusedVariables false
set_option linter.unusedSimpArgs false
namespace Go.Proofs.Ytkjcpjbdckbjcaa
open Go.RowKit
set_option maxHeartbeats 1000000 in
theorem group_Shared_bad (P Q G H a x E : Int) (w : World) (hE : Lw.askE P Q G H [a] [x] = E) (hn : (E != 0) = true) :
    Calls Try.prog 51 #[.agg #[.int .i64 P, .int .i64 Q, .int .i64 G, .int .i64 H], .int .i64 a, .int .i64 x] w fun e w' => e = .returned (.tuple #[.int .i64 0, .int .i64 E]) ∧ Below w.heap.size w w' := by
  have HE := Lib.hid hE
  clear hE
  go_enter Try.func51, Try.ntmps51
  go_wp2_with (go_at_call 66; refine (group_wrong' P Q G H _ [a] [x] HE.out _ _ _ _ _ _ _ (by first | exact Lw.Rd.nil _ _ _ | exact Lw.Rd.lit (Lw.blk_new' (by simp) _ _) rfl rfl | exact Lw.Rd.lit (Lw.blk_alloc (Lw.blk_new' (by simp) _ _) _) rfl rfl) (by first | exact Lw.Rd.nil _ _ _ | exact Lw.Rd.lit (Lw.blk_new' (by simp) _ _) rfl rfl | exact Lw.Rd.lit (Lw.blk_alloc (Lw.blk_new' (by simp) _ _) _) rfl rfl) (Lw.max_of (by omega)) (Lw.max_of (by omega))).mono ?_; rintro e w1 ⟨rfl, hb1⟩; obtain ⟨hc1, hf1⟩ := Lw.bcell hb1; have hz1 := hb1.size; (try simp at hz1); have hy1_00 : w.heap.size < w1.heap.size := (by omega); have hy1_01 : w.heap.size < w1.heap.size + 1 := (by omega); have hy1_02 : w.heap.size < w1.heap.size + 1 + 1 := (by omega))
  go_ret2
  exact ⟨rfl, by (repeat (first | exact Below.refl _ _ | refine Lw.bt ?_ (by assumption) | refine Lw.balloc ?_ _ | refine Lw.bdrewN ?_ _ | refine Below.drew ?_ | refine Lw.bset ?_ (by first | (simp; done) | (simp; omega) | omega) _))⟩
set_option maxHeartbeats 1000000 in
theorem group_Shared_ok (P Q G H a x : Int) (w : World) (hE : Lw.askE P Q G H [a] [x] = 0) :
    Calls Try.prog 51 #[.agg #[.int .i64 P, .int .i64 Q, .int .i64 G, .int .i64 H], .int .i64 a, .int .i64 x] w fun e w' => e = .returned (.tuple #[.int .i64 (Lw.pw x a P), .int .i64 0]) ∧ Below w.heap.size w w' := by
  obtain ⟨e1, e2, e3⟩ := Lw.askE_ok hE
  obtain ⟨⟨h1, h2, h3, h4, h5, h6, h7, h8⟩, _⟩ := Lw.groupE_ok e1
  obtain ⟨p1, p2, _⟩ := Lw.psB_cons e2
  have HE := Lib.hid hE
  clear hE e1 e2 e3
  go_enter Try.func51, Try.ntmps51
  go_wp2_with (first | (go_at_call 66; refine (group_wrong' P Q G H _ [a] [x] HE.out _ _ _ _ _ _ _ (by first | exact Lw.Rd.nil _ _ _ | exact Lw.Rd.lit (Lw.blk_new' (by simp) _ _) rfl rfl | exact Lw.Rd.lit (Lw.blk_alloc (Lw.blk_new' (by simp) _ _) _) rfl rfl) (by first | exact Lw.Rd.nil _ _ _ | exact Lw.Rd.lit (Lw.blk_new' (by simp) _ _) rfl rfl | exact Lw.Rd.lit (Lw.blk_alloc (Lw.blk_new' (by simp) _ _) _) rfl rfl) (Lw.max_of (by omega)) (Lw.max_of (by omega))).mono ?_; rintro e w1 ⟨rfl, hb1⟩; obtain ⟨hc1, hf1⟩ := Lw.bcell hb1; have hz1 := hb1.size; (try simp at hz1); have hy1_00 : w.heap.size < w1.heap.size := (by omega); have hy1_01 : w.heap.size < w1.heap.size + 1 := (by omega); have hy1_02 : w.heap.size < w1.heap.size + 1 + 1 := (by omega)) | (go_at_call 47; refine (power_Of _ _ _ _ (by omega) (by omega) (by omega) (by omega)).mono ?_; rintro e w' ⟨rfl, rfl⟩))
  go_ret2
  exact ⟨rfl, by (repeat (first | exact Below.refl _ _ | refine Lw.bt ?_ (by assumption) | refine Lw.balloc ?_ _ | refine Lw.bdrewN ?_ _ | refine Below.drew ?_ | refine Lw.bset ?_ (by first | (simp; done) | (simp; omega) | omega) _))⟩
theorem group_Public_bad (P Q G H a E : Int) (w : World) (hE : Lw.askE P Q G H [a] [] = E) (hn : (E != 0) = true) :
    Calls Try.prog 32 #[.agg #[.int .i64 P, .int .i64 Q, .int .i64 G, .int .i64 H], .int .i64 a] w fun e w' => e = .returned (.tuple #[.int .i64 0, .int .i64 E]) ∧ Below w.heap.size w w' := by
  have HE := Lib.hid ((Lw.askE_G P Q G H [a] []).trans hE)
  clear hE
  go_enter Try.func32, Try.ntmps32
  go_wp2_with (go_at_call 51; (with_reducible refine (group_Shared_bad P Q G H a G E _ HE.out hn).mono ?_); rintro e w1 ⟨rfl, hb1⟩; obtain ⟨hc1, hf1⟩ := Lw.bcell hb1; have hz1 := hb1.size; (try simp at hz1); have hy1_00 : w.heap.size < w1.heap.size := (by omega); have hy1_01 : w.heap.size < w1.heap.size + 1 := (by omega); have hy1_02 : w.heap.size < w1.heap.size + 1 + 1 := (by omega))
  go_ret2
  exact ⟨rfl, by (repeat (first | exact Below.refl _ _ | refine Lw.bt ?_ (by assumption) | refine Lw.balloc ?_ _ | refine Lw.bdrewN ?_ _ | refine Below.drew ?_ | refine Lw.bset ?_ (by first | (simp; done) | (simp; omega) | omega) _))⟩
theorem group_Public_ok (P Q G H a : Int) (w : World) (hE : Lw.askE P Q G H [a] [] = 0) :
    Calls Try.prog 32 #[.agg #[.int .i64 P, .int .i64 Q, .int .i64 G, .int .i64 H], .int .i64 a] w fun e w' => e = .returned (.tuple #[.int .i64 (Lw.pw G a P), .int .i64 0]) ∧ Below w.heap.size w w' := by
  have HE := Lib.hid ((Lw.askE_G P Q G H [a] []).trans hE)
  clear hE
  go_enter Try.func32, Try.ntmps32
  go_wp2_with (go_at_call 51; (with_reducible refine (group_Shared_ok P Q G H a G _ HE.out).mono ?_); rintro e w1 ⟨rfl, hb1⟩; obtain ⟨hc1, hf1⟩ := Lw.bcell hb1; have hz1 := hb1.size; (try simp at hz1); have hy1_00 : w.heap.size < w1.heap.size := (by omega); have hy1_01 : w.heap.size < w1.heap.size + 1 := (by omega); have hy1_02 : w.heap.size < w1.heap.size + 1 + 1 := (by omega))
  go_ret2
  exact ⟨rfl, by (repeat (first | exact Below.refl _ _ | refine Lw.bt ?_ (by assumption) | refine Lw.balloc ?_ _ | refine Lw.bdrewN ?_ _ | refine Below.drew ?_ | refine Lw.bset ?_ (by first | (simp; done) | (simp; omega) | omega) _))⟩
end Go.Proofs.Ytkjcpjbdckbjcaa
namespace Lw
theorem askE_app (P Q G H : Int) (ps qs : List Int) : askE P Q G H (ps ++ qs) [] = if askE P Q G H ps [] = 0 then askE P Q G H qs [] else askE P Q G H ps [] := by
  unfold askE
  have h : psB Q (ps ++ qs) = (psB Q ps && psB Q qs) := by unfold psB; rw [List.all_append]
  have hm : msB P Q [] = true := rfl
  rw [h, hm]
  by_cases h0 : groupE P Q G H = 0
  · simp only [h0, if_true]
    cases psB Q ps <;> cases psB Q qs <;> simp
  · simp only [h0, if_false]
theorem askE_app_ok {P Q G H : Int} {ps qs : List Int} (h : askE P Q G H (ps ++ qs) [] = 0) : askE P Q G H ps [] = 0 ∧ askE P Q G H qs [] = 0 := by
  rw [askE_app] at h
  by_cases h1 : askE P Q G H ps [] = 0
  · rw [if_pos h1] at h; exact ⟨h1, h⟩
  · rw [if_neg h1] at h; exact absurd h h1
theorem askE_app_bad {P Q G H E : Int} {ps qs : List Int} (h : askE P Q G H (ps ++ qs) [] = E) : (askE P Q G H ps [] = 0 ∧ askE P Q G H qs [] = E) ∨ (askE P Q G H ps [] = E ∧ ¬ E = 0) := by
  rw [askE_app] at h
  by_cases h1 : askE P Q G H ps [] = 0
  · rw [if_pos h1] at h; exact .inl ⟨h1, h⟩
  · rw [if_neg h1] at h; exact .inr ⟨h, by rw [← h]; exact h1⟩
def bnd (P Q G H m r : Int) : Int := pw G m P * pw H r P % P
/-- the facts of a group that may be -/
theorem grp_facts {P Q G H : Int} (h : groupE P Q G H = 0) : 3 ≤ P ∧ P ≤ 1048576 ∧ 2 ≤ Q ∧ Q < P ∧ 2 ≤ G ∧ G < P ∧ 2 ≤ H ∧ H < P ∧ Prime P.toNat ∧ Prime Q.toNat ∧ pw G Q P = 1 ∧ pw H Q P = 1 := by
  obtain ⟨⟨h1, h2, h3, h4, h5, h6, h7, h8⟩, g1, g2, g3, g4, g5⟩ := groupE_ok h
  refine ⟨h1, h2, h3, h4, h5, h6, h7, h8, ?_, ?_, g4, g5⟩
  · unfold primeB at g1; exact of_decide_eq_true g1
  · unfold primeB at g2; exact of_decide_eq_true g2
theorem pw_prod_bd {P x y : Int} (h1 : 0 < P) (h2 : P ≤ 1048576) (hx : 0 ≤ x ∧ x < P) (hy : 0 ≤ y ∧ y < P) : 0 ≤ x * y ∧ x * y ≤ 1099511627776 := by
  have := mul_bd' x y 1048576 hx.1 (by omega) hy.1 (by omega); omega
end Lw
set_option linter.unusedVariables false
set_option linter.unusedSimpArgs false
namespace Go.Proofs.Ytkjcpjbdckbjcaa
open Go.RowKit
end Go.Proofs.Ytkjcpjbdckbjcaa
namespace Lw
theorem inv_ok {b m : Int} (h1 : 1 ≤ m) (h2 : m ≤ 1048576) (h : gcdI (b % m) m = 1) : invR (b % m) m = invI (b % m) m ∧ invE (b % m) m = 0 ∧ 0 ≤ invI (b % m) m ∧ invI (b % m) m < m := by
  have hb := emod_bd b m (by omega)
  have := invE_zero (a := b % m) (m := m) (by omega) h
  obtain ⟨k1, k2, _⟩ := invI_spec (by omega) h
  exact ⟨this.2, this.1, k1, k2⟩
end Lw
set_option linter.unusedVariables false
set_option linter.unusedSimpArgs false
namespace Go.Proofs.Ytkjcpjbdckbjcaa
open Go.RowKit
end Go.Proofs.Ytkjcpjbdckbjcaa
namespace Lw
open Go Go.RowKit
def textL (xs : List Int) : List Int := xs.flatMap fun x => littleL x 4
theorem textL_snoc (xs : List Int) (x : Int) : textL (xs ++ [x]) = textL xs ++ littleL x 4 := by simp [textL]
theorem textL_take {xs : List Int} {k : Nat} (h : k < xs.length) : intsV .u8 (textL (xs.take (k + 1))) = intsV .u8 (textL (xs.take k)) ++ intsV .u8 (littleL xs[k] 4) := by
  rw [List.take_succ_eq_append_getElem h, textL_snoc, intsV_app]
theorem textL_byt (xs : List Int) : Byt (textL xs) := by
  intro b hb
  obtain ⟨x, _, hx⟩ := List.mem_flatMap.1 hb
  exact littleL_byt 4 x b hx
theorem textL_len (xs : List Int) : (textL xs).length = 4 * xs.length := by
  induction xs with
  | nil => rfl
  | cons x xs ih => simp only [textL, List.flatMap_cons, List.length_append, littleL_length, List.length_cons] at *; omega
theorem byt_cons {b : Int} {bs : List Int} (h0 : 0 ≤ b) (h1 : b < 256) (h : Byt bs) : Byt (b :: bs) := by
  intro x hx; rcases List.mem_cons.1 hx with rfl | hx
  · exact ⟨h0, h1⟩
  · exact h x hx
/-- a cell that is set to what it holds -/
theorem set_same {W : World} {b i : Nat} {cs : Array Value} {t : TypeId} {v : Value} (h : W.heap[b]? = some (.cells cs t (0, 0))) (hv : cs[i]? = some v) : W.setCell ⟨b, i, none⟩ v = W := by
  have hb : b < W.heap.size := blk_lt h
  have he : W.heap[b] = .cells cs t (0, 0) := by rw [Array.getElem?_eq_getElem hb] at h; injection h
  obtain ⟨hi, hv2⟩ := Array.getElem?_eq_some_iff.1 hv
  have e : W.heap.modify b (fun | .cells c elem frozen => .cells (if (none : Option Nat).isSome then c else c.setIfInBounds i v) elem frozen | o => o) = W.heap := by
    apply Array.ext
    · simp
    · intro j h1 h2
      rw [Array.getElem_modify]
      split
      · rename_i hj; subst hj
        rw [he]
        have : cs.setIfInBounds i v = cs := by
          apply Array.ext
          · simp
          · intro k h3 h4
            rw [Array.getElem_setIfInBounds]
            split
            · rename_i hk; subst hk; exact hv2.symm
            · rfl
        simp [this]
      · rfl
  unfold World.setCell
  exact congrArg (fun h => { W with heap := h }) e
end Lw
set_option linter.unusedVariables false
set_option linter.unusedSimpArgs false
namespace Go.Proofs.Ytkjcpjbdckbjcaa
open Go.RowKit
set_option maxHeartbeats 1000000 in
theorem shake_text (A : Option Addr) (n c : Nat) (xs : List Int) (w : World) (R : Lw.Rd w 1 A n (Lw.intsV .i64 xs)) (hx : ∀ x ∈ xs, 0 ≤ x ∧ x ≤ 1048576) (hm : n ≤ 64) :
    Calls Try.prog 50 #[.slice A n c] w (Lw.OwnRes 5 1 (Lw.intsV .u8 (Lw.textL xs)) (4 * n) w) := by
  have l1 : xs.length = n := by have := R.1; simpa [Lw.intsV] using this
  have L := Lib.hid l1
  have R := Lib.hid R
  clear l1
  go_enter Try.func50, Try.ntmps50
  go_wp2
  go_loopw [3, 5, 8] (fun b x i wr => ∃ k : Nat, i = .int .i64 (k : Int) ∧ k ≤ n ∧ wr.ownsRow w.heap.size 5 1 b (4 * k) (Lw.intsV .u8 (Lw.textL (xs.take k))) ∧ Below w.heap.size w wr) (fun _ _ i _ => n - (intOf i).toNat)
  case atStart => exact ⟨0, rfl, by omega, World.ownsRow_nil _ _ _ _, Below.refl _ _⟩
  case round =>
    obtain ⟨k, rfl, k1, own, hB⟩ := hrel
    have hsz := hB.size
    have OWN := Lib.hid own
    clear own
    by_cases hlt : k < n
    · have hl : k < xs.length := by have := L.out; omega
      obtain ⟨ad, rfl, had, hcell⟩ := (R.out.below (Nat.le_refl _) hB).at1 hlt (Lw.intsV_get hl)
      have T := Lib.hid (Lw.textL_take hl)
      obtain ⟨x, hx0⟩ : ∃ x, xs[k] = x := ⟨_, rfl⟩
      obtain ⟨x1, x2⟩ := hx x (hx0 ▸ List.getElem_mem hl)
      rw [hx0] at hcell T
      clear hx0
      go_wp2_with (first | (go_at_call 65; refine (hash_Little x 4 _ x1 (by omega) (by omega)).mono ?_; rintro e w1 ⟨A1, c1, rfl, own1, hb1⟩) | (at_builtin; refine Lw.wpList_app elByte rfl _ _ rfl rfl (Lw.ownsBelow OWN.out (Nat.le_refl _) hb1) rfl (Lw.Rd.of_own own1) (Lw.intsV_one _ _) (by omega) (Lw.bt hB hb1) (Nat.le_refl _) (by have := hb1.size; omega) ?_; intro v2 w2 own2 hb2 _ _))
      have O2 := Lib.hid own2
      clear own1 own2
      go_wp2
      go_roundw
      case rel => exact ⟨k + 1, by go_num, by omega, by rw [T.out]; exact O2.out, hb2⟩
      case measure => simp [intOf]; omega
    · have hk : k = n := by omega
      subst hk
      have T : Hid (xs.take k = xs) := by rw [← L.out]; exact List.take_length
      go_wp2
      go_ret
      have O := OWN.out
      rw [T.out] at O
      obtain ⟨B, c', rfl, _⟩ := Lw.ownsForm O
      exact ⟨B, c', rfl, O, hB⟩
theorem shake_text_five (A : Option Addr) (c : Nat) (xs : List Int) (w : World) (R : Lw.Rd w 1 A 5 (Lw.intsV .i64 xs)) (hx : ∀ x ∈ xs, 0 ≤ x ∧ x ≤ 1048576) :
    Calls Try.prog 50 #[.slice A 5 c] w (Lw.OwnRes 5 1 (Lw.intsV .u8 (Lw.textL xs)) 20 w) := shake_text A 5 c xs w R hx (by decide)

set_option maxHeartbeats 1000000 in
theorem ref_ShakeText (A : Option Addr) (n c : Nat) (xs : List Int) (w : World) (R : Lw.Rd w 1 A n (Lw.intsV .i64 xs)) (hx : ∀ x ∈ xs, 0 ≤ x ∧ x ≤ 1048576) (hm : n ≤ 64) :
    Calls Try.prog 42 #[.slice A n c] w (Lw.OwnRes 5 1 (Lw.intsV .u8 (Lw.textL xs)) (4 * n) w) := by
  have l1 : xs.length = n := by have := R.1; simpa [Lw.intsV] using this
  have L := Lib.hid l1
  have R := Lib.hid R
  clear l1
  go_enter Try.func42, Try.ntmps42
  go_wp2
  go_loopw [3, 5, 8] (fun b x i wr => ∃ k : Nat, i = .int .i64 (k : Int) ∧ k ≤ n ∧ wr.ownsRow w.heap.size 5 1 b (4 * k) (Lw.intsV .u8 (Lw.textL (xs.take k))) ∧ Below w.heap.size w wr) (fun _ _ i _ => n - (intOf i).toNat)
  case atStart => exact ⟨0, rfl, by omega, World.ownsRow_nil _ _ _ _, Below.refl _ _⟩
  case round =>
    obtain ⟨k, rfl, k1, own, hB⟩ := hrel
    have hsz := hB.size
    have OWN := Lib.hid own
    clear own
    by_cases hlt : k < n
    · have hl : k < xs.length := by have := L.out; omega
      obtain ⟨ad, rfl, had, hcell⟩ := (R.out.below (Nat.le_refl _) hB).at1 hlt (Lw.intsV_get hl)
      have T := Lib.hid (Lw.textL_take hl)
      obtain ⟨x, hx0⟩ : ∃ x, xs[k] = x := ⟨_, rfl⟩
      obtain ⟨x1, x2⟩ := hx x (hx0 ▸ List.getElem_mem hl)
      rw [hx0] at hcell T
      clear hx0
      go_wp2_with (first | (go_at_call 22; refine (ref_little x 4 _ x1 (by omega) (by omega)).mono ?_; rintro e w1 ⟨A1, c1, rfl, own1, hb1⟩) | (at_builtin; refine Lw.wpList_app elByte rfl _ _ rfl rfl (Lw.ownsBelow OWN.out (Nat.le_refl _) hb1) rfl (Lw.Rd.of_own own1) (Lw.intsV_one _ _) (by omega) (Lw.bt hB hb1) (Nat.le_refl _) (by have := hb1.size; omega) ?_; intro v2 w2 own2 hb2 _ _))
      have O2 := Lib.hid own2
      clear own1 own2
      go_wp2
      go_roundw
      case rel => exact ⟨k + 1, by go_num, by omega, by rw [T.out]; exact O2.out, hb2⟩
      case measure => simp [intOf]; omega
    · have hk : k = n := by omega
      subst hk
      have T : Hid (xs.take k = xs) := by rw [← L.out]; exact List.take_length
      go_wp2
      go_ret
      have O := OWN.out
      rw [T.out] at O
      obtain ⟨B, c', rfl, _⟩ := Lw.ownsForm O
      exact ⟨B, c', rfl, O, hB⟩
theorem ref_ShakeText_five (A : Option Addr) (c : Nat) (xs : List Int) (w : World) (R : Lw.Rd w 1 A 5 (Lw.intsV .i64 xs)) (hx : ∀ x ∈ xs, 0 ≤ x ∧ x ≤ 1048576) :
    Calls Try.prog 42 #[.slice A 5 c] w (Lw.OwnRes 5 1 (Lw.intsV .u8 (Lw.textL xs)) 20 w) := ref_ShakeText A 5 c xs w R hx (by decide)

set_option maxHeartbeats 1000000 in
theorem shake_sums (A : Option Addr) (n c : Nat) (bs : List Int) (w : World) (R : Lw.Rd w 1 A n (Lw.intsV .u8 bs)) (hy : Lw.Byt bs) (hm : n ≤ 4096) :
    Calls Try.prog 49 #[.slice A n c] w fun e w' => e = .returned (.tuple #[.int .i64 (Lw.hsum (1 :: bs)), .int .i64 (Lw.hsum (2 :: bs))]) ∧ Below w.heap.size w w' := by
  have R := Lib.hid R
  have C1 := Lib.hid (fun A c w R => hash_Of A (1 + n) c (1 :: bs) w R (Lw.byt_cons (by decide) (by decide) hy) (by omega))
  have C2 := Lib.hid (fun A c w R => hash_Of A (1 + n) c (2 :: bs) w R (Lw.byt_cons (by decide) (by decide) hy) (by omega))
  obtain ⟨s1, s2⟩ := Lw.hsum_bd (1 :: bs)
  obtain ⟨t1, t2⟩ := Lw.hsum_bd (2 :: bs)
  obtain ⟨s, hs⟩ : ∃ s, Lw.hsum (1 :: bs) = s := ⟨_, rfl⟩
  obtain ⟨t, ht⟩ : ∃ s, Lw.hsum (2 :: bs) = s := ⟨_, rfl⟩
  rw [hs] at C1 s1 s2 ⊢
  rw [ht] at C2 t1 t2 ⊢
  clear hs ht
  go_enter Try.func49, Try.ntmps49
  go_wp2_with (at_builtin; refine Lw.wpList_app elByte rfl (.tmp 4) (.tmp 5) rfl rfl (Lw.own_lit w (xs := [.int .u8 1]) rfl rfl (by decide) (Nat.le_refl _)) rfl (R.out.alloc _) (Lw.intsV_one _ _) (by omega) (Lw.balloc (Below.refl _ _) _) (Nat.le_refl _) (by simp) ?_; intro v1 w1 own1 hb1 _ _)
  obtain ⟨A1, c1, rfl, _⟩ := Lw.ownsForm own1
  refine (C1.out _ _ _ (Lw.Rd.of_own own1)).mono ?_
  rintro e w2 ⟨rfl, hb2⟩
  have hb12 := Lw.bt hb1 hb2
  clear own1
  go_wp2_with (at_builtin; refine Lw.wpList_app elByte rfl (.tmp 9) (.tmp 10) rfl rfl (Lw.own_lit w2 (xs := [.int .u8 2]) rfl rfl (by decide) (Nat.le_refl _)) rfl ((R.out.below (Nat.le_refl _) hb12).alloc _) (Lw.intsV_one _ _) (by omega) (Lw.balloc hb12 _) hb12.size (by simp) ?_; intro v3 w3 own3 hb3 _ _)
  obtain ⟨A3, c3, rfl, _⟩ := Lw.ownsForm own3
  refine (C2.out _ _ _ (Lw.Rd.of_own own3)).mono ?_
  rintro e w4 ⟨rfl, hb4⟩
  clear own3
  go_wp2_with fail
  go_ret2
  exact ⟨by simp, Lw.bt hb3 hb4⟩
end Go.Proofs.Ytkjcpjbdckbjcaa
set_option linter.unusedVariables false
set_option linter.unusedSimpArgs false
namespace Go.Proofs.Ytkjcpjbdckbjcaa
open Go.RowKit
theorem shake_shared_skip (P Q G H k x E : Int) (b : Nat) (w : World) (hb : w.heap[b]? = some (.cells #[.int .i64 P, .int .i64 Q, .int .i64 G, .int .i64 H, .int .i64 E] 89 (0, 0))) (hn : (E != 0) = true) :
    Calls Try.prog 48 #[.pointer (some ⟨b, 0, none⟩), .int .i64 k, .int .i64 x] w fun e w' => e = .returned (.int .i64 0) ∧ w = w' := by
  have c4 := Lw.blk_cell hb 4
  simp at c4
  clear hb
  go_enter Try.func48, Try.ntmps48
  go_wp2
  go_ret
  exact ⟨rfl, rfl⟩
theorem shake_shared_ok (P Q G H k x : Int) (b : Nat) (w : World) (hb : w.heap[b]? = some (.cells #[.int .i64 P, .int .i64 Q, .int .i64 G, .int .i64 H, .int .i64 0] 89 (0, 0))) (hE : Lw.askE P Q G H [k] [x] = 0) :
    Calls Try.prog 48 #[.pointer (some ⟨b, 0, none⟩), .int .i64 k, .int .i64 x] w fun e w' => e = .returned (.int .i64 (Lw.pw x k P)) ∧ Below w.heap.size w w' := by
  have c0 := Lw.blk_cell hb 0; have c1 := Lw.blk_cell hb 1; have c2 := Lw.blk_cell hb 2; have c3 := Lw.blk_cell hb 3; have c4 := Lw.blk_cell hb 4; have fr := fun i => Lw.blk_free hb i
  simp at c0 c1 c2 c3 c4
  have hlt := Lw.blk_lt hb
  have HB := Lib.hid hb
  have HE := Lib.hid hE
  clear hb hE
  go_enter Try.func48, Try.ntmps48
  go_wp2_with (go_at_call 51; (with_reducible refine (group_Shared_ok P Q G H k x _ HE.out).mono ?_); rintro e w1 ⟨rfl, hb1⟩; obtain ⟨hc1, hf1⟩ := Lw.bcell hb1)
  go_ret
  rw [Lw.set_same ((hb1.block b hlt).trans HB.out) rfl]
  exact ⟨rfl, hb1⟩
theorem shake_shared_bad (P Q G H k x E : Int) (b : Nat) (w : World) (hb : w.heap[b]? = some (.cells #[.int .i64 P, .int .i64 Q, .int .i64 G, .int .i64 H, .int .i64 0] 89 (0, 0))) (hE : Lw.askE P Q G H [k] [x] = E) (hn : (E != 0) = true) :
    Calls Try.prog 48 #[.pointer (some ⟨b, 0, none⟩), .int .i64 k, .int .i64 x] w fun e w' => e = .returned (.int .i64 0) ∧ w'.heap[b]? = some (.cells #[.int .i64 P, .int .i64 Q, .int .i64 G, .int .i64 H, .int .i64 E] 89 (0, 0)) ∧ Below b w w' := by
  have c0 := Lw.blk_cell hb 0; have c1 := Lw.blk_cell hb 1; have c2 := Lw.blk_cell hb 2; have c3 := Lw.blk_cell hb 3; have c4 := Lw.blk_cell hb 4; have fr := fun i => Lw.blk_free hb i
  simp at c0 c1 c2 c3 c4
  have hlt := Lw.blk_lt hb
  have HB := Lib.hid hb
  have HE := Lib.hid hE
  clear hb hE
  go_enter Try.func48, Try.ntmps48
  go_wp2_with (go_at_call 51; (with_reducible refine (group_Shared_bad P Q G H k x E _ HE.out hn).mono ?_); rintro e w1 ⟨rfl, hb1⟩; obtain ⟨hc1, hf1⟩ := Lw.bcell hb1)
  go_ret
  refine ⟨rfl, ?_, (hb1.mono (Nat.le_of_lt hlt) : Below b w w1).setCell (p := ⟨b, 4, none⟩) (Nat.le_refl _) _⟩
  have h1 := (hb1.block b hlt).trans HB.out
  simp [World.setCell, Array.getElem?_modify, h1]
end Go.Proofs.Ytkjcpjbdckbjcaa
