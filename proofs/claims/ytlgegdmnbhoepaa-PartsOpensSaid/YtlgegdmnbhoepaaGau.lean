/- parts.wrong, parts.Clear, the reference's GatesCheck and Clear. -/
import Derived.Test.YtlgegdmnbhoepaaGat
namespace Lw
open Go Go.RowKit
theorem clr_ppr {p : Int} {gs : List GateT} {ins : List Int} (h : ¬ pprE p = 0) : clrE p gs ins = pprE p := if_neg h
theorem clr_large {p : Int} {gs : List GateT} {ins : List Int} (h : pprE p = 0) (h2 : 60 < gs.length ∨ 60 < ins.length) : clrE p gs ins = 1 := by unfold clrE; rw [if_pos h, if_pos h2]
theorem clr_out {p : Int} {gs : List GateT} {ins : List Int} (h : pprE p = 0) (h2 : ¬ (60 < gs.length ∨ 60 < ins.length)) (h3 : outR p ins = true) : clrE p gs ins = 2 := by unfold clrE; rw [if_pos h, if_neg h2, if_pos h3]
theorem clr_gates {p : Int} {gs : List GateT} {ins : List Int} (h : pprE p = 0) (h2 : ¬ (60 < gs.length ∨ 60 < ins.length)) (h3 : outR p ins = false) : clrE p gs ins = gsE p ins.length gs gs.length := by unfold clrE; rw [if_pos h, if_neg h2, if_neg (by simp [h3])]
end Lw
set_option linter.unusedVariables false
set_option linter.unusedSimpArgs false
namespace Go.Proofs.Ytlgegdmnbhoepaa
open Go.RowKit
set_option maxRecDepth 100000 in
set_option maxHeartbeats 4000000 in
theorem parts_wrong (p : Int) (A : Option Addr) (n c : Nat) (gs : List Lw.GateT) (B : Option Addr) (m d : Nat) (ins : List Int) (w : World) (RA : Lw.Rd w 4 A n (Lw.gatesV gs)) (RB : Lw.Rd w 1 B m (Lw.intsV .i64 ins)) :
    Calls Try.prog 83 #[.int .i64 p, .slice A n c, .slice B m d] w fun e w' => e = .returned (.int .i64 (Lw.clrE p gs ins)) ∧ Below w.heap.size w w' := by
  have la : gs.length = n := by have := RA.1; rw [Lw.gatesV_length] at this; omega
  have lb : ins.length = m := by have := RB.1; simpa [Lw.intsV] using this
  have X := fun w => poly_Check p none 0 0 [] w (Lw.Rd.nil _ _ _)
  by_cases h1 : Lw.pprE p = 0
  · have X : ∀ w, Calls Try.prog 78 #[.int .i64 p, .slice none 0 0] w fun e w' => e = .returned (.int .i64 0) ∧ Below w.heap.size w w' := by
      intro w
      have := X w
      rw [show Lw.polyE p [] = 0 by rw [Lw.poly_in h1 (by decide)]; rfl] at this
      exact this
    replace X := Lib.hid X
    by_cases h2 : 60 < gs.length ∨ 60 < ins.length
    · have E := Lib.hid (Lw.clr_large h1 h2)
      rw [la, lb] at h2
      clear RA RB h1
      rcases (by omega : ((n : Int) < (m : Int) ∧ (60 : Int) < (m : Int)) ∨ (¬ (n : Int) < (m : Int) ∧ (60 : Int) < (n : Int))) with ⟨h3, h4⟩ | ⟨h3, h4⟩
      all_goals
        clear h2
        go_enter Try.func83, Try.ntmps83
        go_wp2_with (go_at_call 78; (with_reducible refine (X.out _).mono ?_); rintro e w1 ⟨rfl, hb1⟩)
        all_goals first | (exfalso; omega) | (go_ret; exact ⟨Lw.ret_int E.out.symm, hb1⟩)
    · have hn : n ≤ 60 := by omega
      have hm : m ≤ 60 := by omega
      have OU := Lib.hid (fun W (h : Below w.heap.size w W) => parts_out p B m d ins W (RB.below (Nat.le_refl w.heap.size) h) (by omega))
      have hnm : ((n : Int) < (m : Int)) ∨ ¬ ((n : Int) < (m : Int)) := by omega
      have b1 : ¬ (60 : Int) < (n : Int) := by omega
      have b2 : ¬ (60 : Int) < (m : Int) := by omega
      cases ho : Lw.outR p ins with
      | true =>
        have E := Lib.hid (Lw.clr_out h1 h2 ho)
        rw [ho] at OU
        clear RA RB h1 h2 ho
        rcases hnm with h3 | h3
        all_goals
          go_enter Try.func83, Try.ntmps83
          go_wp2_with (first | (go_at_call 78; (with_reducible refine (X.out _).mono ?_); rintro e w1 ⟨rfl, hb1⟩) | (go_at_call 80; (with_reducible refine (OU.out _ hb1).mono ?_); rintro e w2 ⟨rfl, hb2⟩))
          all_goals first | (exfalso; omega) | (go_ret; exact ⟨Lw.ret_int E.out.symm, Lw.bt hb1 hb2⟩)
      | false =>
        have E := Lib.hid (Lw.clr_gates h1 h2 ho)
        have NX := Lib.hid (fun k (h : k < gs.length) h2 => Lw.gsE_next (p := p) (m := ins.length) (gs := gs) (k := k) h h2)
        have BD := Lib.hid (fun k (h : k < gs.length) h2 h3 => Lw.gsE_bad (p := p) (m := ins.length) (gs := gs) (k := k) h h2 h3)
        have G0 : Hid (Lw.gsE p ins.length gs 0 = 0) := rfl
        rw [lb] at E NX BD G0
        rw [ho] at OU
        have RA := Lib.hid RA
        have LA := Lib.hid la
        clear RB h1 h2 ho
        generalize Lw.clrE p gs ins = V at *
        rcases hnm with h3 | h3
        all_goals
          go_enter Try.func83, Try.ntmps83
          go_wp2_with (first | (go_at_call 78; (with_reducible refine (X.out _).mono ?_); rintro e w1 ⟨rfl, hb1⟩) | (go_at_call 80; (with_reducible refine (OU.out _ hb1).mono ?_); rintro e w2 ⟨rfl, hb2⟩))
          all_goals first | (exfalso; omega) | skip
          have hB2 := Lw.bt hb1 hb2
          go_loopw [8, 9, 10, 27] (fun ii gg ee i wr => ∃ k : Nat, i = .int .i64 (k : Int) ∧ k ≤ n ∧ Hid (Lw.gsE p m gs k = 0) ∧ Below w.heap.size w wr) (fun _ _ _ i _ => n - (intOf i).toNat)
          case atStart => exact ⟨0, rfl, by omega, G0, hB2⟩
          case round =>
            obtain ⟨k, rfl, hk, H, hB⟩ := hrel
            by_cases hlt : k < n
            · have hkl : k < gs.length := by rw [LA.out]; exact hlt
              obtain ⟨g0, g1, g2, g3⟩ := Lw.gatesV_get hkl
              obtain ⟨ad, rfl, had, c0, c1, c2, c3⟩ := (RA.out.below (Nat.le_refl _) hB).at4 hlt g0 g1 g2 g3
              have NXk := NX.out k hkl H.out
              have BDk := BD.out k hkl H.out
              have PG := fun W => parts_gate p k m gs[k] W
              obtain ⟨⟨K, a, b, N⟩, hg⟩ : ∃ z, gs[k] = z := ⟨_, rfl⟩
              rw [hg] at c0 c1 c2 c3 NXk BDk PG
              simp only at c0 c1 c2 c3 PG
              replace PG := Lib.hid PG
              obtain ⟨ge, hge⟩ : ∃ z, Lw.gateE p k m ⟨K, a, b, N⟩ = z := ⟨_, rfl⟩
              rw [hge] at NXk BDk PG
              have NXk := Lib.hid NXk
              have hlt' : (k : Int) < (n : Int) := by omega
              clear g0 g1 g2 g3 hg hge hkl had
              by_cases g0 : ge = 0
              · subst g0
                clear BDk
                have z : ((0 : Int) != 0) = false := rfl
                go_wp2_with fail
                refine (PG.out _).mono ?_
                rintro e w4 ⟨rfl, hb4⟩
                have hB4 := Lw.bt (Lw.balloc hB _) hb4
                go_wp2_with fail
                go_roundw
                case rel => exact ⟨k + 1, by go_num, by omega, NXk, hB4⟩
                case measure => simp [intOf]; omega
              · have BB := Lib.hid (BDk g0)
                rw [LA.out] at BB E
                have z : (ge != 0) = true := by simpa using g0
                clear BDk NXk
                go_wp2_with fail
                refine (PG.out _).mono ?_
                rintro e w4 ⟨rfl, hb4⟩
                have hB4 := Lw.bt (Lw.balloc hB _) hb4
                go_wp2_with fail
                go_ret
                exact ⟨Lw.ret_int (by rw [E.out, BB.out]), hB4⟩
            · have hkn : k = n := by omega
              subst hkn
              have E2 : Hid (V = 0) := by have h1 := E.out; rw [LA.out] at h1; rw [h1]; exact H.out
              go_wp2_with fail
              go_ret
              exact ⟨Lw.ret_int E2.out.symm, hB⟩
  · have E := Lib.hid (Lw.clr_ppr (gs := gs) (ins := ins) h1)
    have X : ∀ w, Calls Try.prog 78 #[.int .i64 p, .slice none 0 0] w fun e w' => e = .returned (.int .i64 (Lw.pprE p)) ∧ Below w.heap.size w w' := by
      intro w
      have := X w
      rw [Lw.poly_p h1] at this
      exact this
    have z : (Lw.pprE p != 0) = true := by simpa using h1
    have z' : (Lw.pprE p == 0) = false := by simpa using h1
    generalize Lw.pprE p = e0 at *
    replace X := Lib.hid X
    clear RA RB h1
    go_enter Try.func83, Try.ntmps83
    go_wp2_with (go_at_call 78; (with_reducible refine (X.out _).mono ?_); rintro e w1 ⟨rfl, hb1⟩)
    go_ret
    exact ⟨Lw.ret_int E.out.symm, hb1⟩
end Go.Proofs.Ytlgegdmnbhoepaa
