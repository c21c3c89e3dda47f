/- The law FieldInverts: what makes 1 of an element, or the code. -/
import Derived.Test.YtjhjppaabmbbbaaFpw
import Derived.Test.YtjhjppaabmbbbaaRow
set_option linter.unusedVariables false
namespace Go.Proofs.Ytjhjppaabmbbbaa.LW
open Go.RowKit
set_option maxHeartbeats 1000000 in
theorem FieldInverts (p : Int) (A : Option Addr) (n c : Nat) (xs : List Int) (a : Int) (w : World) (wp : (Lit.int .i64 p).wf = true) (h : Lw.IsRow .i64 w A n c xs) (wa : (Lit.int .i64 a).wf = true) :
    Calls Try.prog 13 #[.int .i64 p, .slice A n c, .int .i64 a] w fun e w' => e = .returned (.bool true) ∧ Below w.heap.size w w' := by
  obtain ⟨RA, _, _, _, _⟩ := h.rd
  generalize xs.take n = f at RA
  clear h wp wa
  have la : f.length = n := by have := RA.1; simpa [Lw.intsV] using this
  have EA := fun b W (h : Below w.heap.size w W) => law_element p A n c f b W (RA.below (Nat.le_refl w.heap.size) h)
  by_cases h : Lw.fldE p f = 0
  · have F := Lw.fld_of h
    by_cases h2 : Lw.elB (p ^ (n - 1)) [a] = true
    · obtain ⟨a0, a1⟩ := Lw.elB_one.1 h2
      have e1 := Lw.elm_in (a := a) h a0 (by rw [la]; exact a1)
      by_cases ha : a = 0
      · subst ha
        have X := Lib.hid (field_Inv_zero p A n c f w RA h h2)
        have EE := EA 0
        rw [e1] at EE
        replace EE := Lib.hid EE
        clear h h2 e1 RA la a0 a1 F EA
        go_enter Try.func13, Try.ntmps13
        go_wp2_with fail
        refine X.out.mono ?_
        rintro e w1 ⟨rfl, hb1⟩
        go_wp2_with fail
        refine (EE.out _ hb1).mono ?_
        rintro e w2 ⟨rfl, hb2⟩
        go_wp2_with fail
        go_ret
        exact ⟨by simp, Lw.bt hb1 hb2⟩
      · have a2 : a < p ^ (f.length - 1) := by rw [la]; exact a1
        obtain ⟨x, hx⟩ : ∃ x : Lw.Mem0 p f, x.1 = a := ⟨⟨a, by omega, a2⟩, rfl⟩
        have s1 := F.size1
        have s2 := F.size
        have hN := Lw.fN_pos F
        have hn : Lw.fN p f = (p ^ (n - 1)).toNat - 1 := by unfold Lw.fN; rw [la]
        rw [la] at s1 s2
        have X := field_Inv_ok p A n c f F x w RA h (by rw [hx]; exact h2) hn (by omega) s2
        rw [hx] at X
        have IN : (Lw.fAb F).mul x ((Lw.fAb F).pow x (Lw.fN p f - 1)) = (Lw.fAb F).one := by
          have h1 := Lw.f_fermat F x
          have h3 : (Lw.fAb F).pow x (Lw.fN p f - 1 + 1) = (Lw.fAb F).mul ((Lw.fAb F).pow x (Lw.fN p f - 1)) x := rfl
          rw [show Lw.fN p f - 1 + 1 = Lw.fN p f by omega, h1] at h3
          rw [(Lw.fAb F).comm]; exact h3.symm
        have IV : Lw.mulF p f x.1 ((Lw.fAb F).pow x (Lw.fN p f - 1)).1 = 1 := congrArg Subtype.val IN
        rw [hx] at IV
        obtain ⟨v1, v2⟩ := ((Lw.fAb F).pow x (Lw.fN p f - 1)).2
        generalize ((Lw.fAb F).pow x (Lw.fN p f - 1)).1 = V at *
        have e2 := Lw.elm_in (a := V) h (by omega) v2
        have EE := EA a
        rw [e1] at EE
        have EV := EA V
        rw [e2] at EV
        have s3 : p ^ (f.length - 1) ≤ 4096 := F.size
        have Y := fun W (h : Below w.heap.size w W) => ref_FieldMul p A n c f a V W (RA.below (Nat.le_refl w.heap.size) h) F.p1 F.p2 F.pp F.good (by have := F.len; omega) s2 a0 (by omega) (by omega) (by omega)
        rw [IV] at Y
        replace X := Lib.hid X
        replace Y := Lib.hid Y
        replace EE := Lib.hid EE
        replace EV := Lib.hid EV
        have z0 : (a == 0) = false := by simpa using ha
        clear h h2 e1 e2 RA la a0 a1 a2 F EA hx IN IV v1 v2 s1 s2 s3 hN hn ha
        go_enter Try.func13, Try.ntmps13
        go_wp2_with fail
        refine X.out.mono ?_
        rintro e w1 ⟨rfl, hb1⟩
        go_wp2_with fail
        refine (EE.out _ hb1).mono ?_
        rintro e w2 ⟨rfl, hb2⟩
        have hB2 := Lw.bt hb1 hb2
        go_wp2_with fail
        refine (EV.out _ hB2).mono ?_
        rintro e w3 ⟨rfl, hb3⟩
        have hB3 := Lw.bt hB2 hb3
        go_wp2_with fail
        refine (Y.out _ hB3).mono ?_
        rintro e w4 ⟨rfl, hb4⟩
        go_wp2_with fail
        go_ret
        exact ⟨by simp, Lw.bt hB3 hb4⟩
    · have X := Lib.hid (field_Inv_out p A n c f a w RA h h2)
      have e1 := Lw.elm_out (a := a) h (fun hb => h2 (Lw.elB_one.2 (by rw [la] at hb; exact hb)))
      have EE := EA a
      rw [e1] at EE
      replace EE := Lib.hid EE
      clear h h2 e1 RA la F EA
      go_enter Try.func13, Try.ntmps13
      go_wp2_with fail
      refine X.out.mono ?_
      rintro e w1 ⟨rfl, hb1⟩
      go_wp2_with fail
      refine (EE.out _ hb1).mono ?_
      rintro e w2 ⟨rfl, hb2⟩
      go_wp2_with fail
      go_ret
      exact ⟨by simp, Lw.bt hb1 hb2⟩
  · have X := Lib.hid (field_Inv_bad p A n c f a w RA h)
    have EE := EA a
    rw [Lw.elm_bad h] at EE
    replace EE := Lib.hid EE
    have z : (Lw.fldE p f != 0) = true := by simpa using h
    have z' : (Lw.fldE p f == 0) = false := by simpa using h
    generalize Lw.fldE p f = E at *
    clear h RA la EA
    go_enter Try.func13, Try.ntmps13
    go_wp2_with fail
    refine X.out.mono ?_
    rintro e w1 ⟨rfl, hb1⟩
    go_wp2_with fail
    refine (EE.out _ hb1).mono ?_
    rintro e w2 ⟨rfl, hb2⟩
    go_wp2_with fail
    go_ret
    exact ⟨by simp, Lw.bt hb1 hb2⟩
end Go.Proofs.Ytjhjppaabmbbbaa.LW
