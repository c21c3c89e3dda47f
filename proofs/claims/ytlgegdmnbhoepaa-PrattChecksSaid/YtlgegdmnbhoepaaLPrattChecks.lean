/- The law PrattChecks: the program tells whether all lines hold. -/
import Derived.Test.YtlgegdmnbhoepaaPrd
set_option linter.unusedVariables false
namespace Lw
open Go Go.RowKit
/-- the first k lines hold -/
def HdK (l : List LineT) (k : Nat) : Prop := ∀ i (hi : i < l.length), i < k → HoldP (l.map LineT.N) i l[i].N l[i].G l[i].r.zs
theorem hold_two {Ns : List Int} {i : Nat} {N G : Int} {F : List Int} (h : HoldP Ns i N G F) : 2 ≤ N := by
  rcases h with h | ⟨h, _⟩ <;> omega
theorem hdK_two {l : List LineT} {k : Nat} (hk : k ≤ l.length) (h : HdK l k) : ∀ i, i < k → 2 ≤ (l.map LineT.N).getD i 0 := fun i hi => by
  have := hold_two (h i (by omega) hi)
  rw [List.getD_eq_getElem?_getD, List.getElem?_map, List.getElem?_eq_getElem (by omega)]
  exact this
theorem hdK_next {l : List LineT} {k : Nat} (hk : k < l.length) (h : HdK l k) (h2 : HoldP (l.map LineT.N) k l[k].N l[k].G l[k].r.zs) : HdK l (k + 1) := fun i hi hik => by
  by_cases e : i = k
  · subst e; exact h2
  · exact h i hi (by omega)
theorem hdK_no {l : List LineT} {k : Nat} (hk : k < l.length) (h2 : ¬ HoldP (l.map LineT.N) k l[k].N l[k].G l[k].r.zs) : ¬ HdK l l.length := fun h => h2 (h k hk hk)
def HdT (Q : Prop) (w : World) (e : Ending) (w' : World) : Prop := (∃ r : Bool, e = .returned (.tuple #[.bool r, .int .i64 0]) ∧ (r = true ↔ Q)) ∧ Below w.heap.size w w'
end Lw
set_option linter.unusedVariables false
set_option linter.unusedSimpArgs false
namespace Go.Proofs.Ytlgegdmnbhoepaa
open Go.RowKit
theorem pratt_Check_large (A : Option Addr) (n c : Nat) (w : World) (h : 64 < n) :
    Calls Try.prog 18 #[.slice A n c] w fun e w' => e = .returned (.tuple #[.bool false, .int .i64 1]) ∧ w = w' := by
  have h1 : (64 : Int) < (n : Int) := by omega
  go_enter Try.func18, Try.ntmps18
  go_wp2
  go_ret2
  exact ⟨rfl, rfl⟩
set_option maxHeartbeats 1000000 in
theorem pratt_Check (A : Option Addr) (n c : Nat) (l : List Lw.LineT) (w : World) (h : Lw.Lin w A n l) (hn : n ≤ 64) (hs : ∀ x ∈ l, x.r.n ≤ 17592186043904) :
    Calls Try.prog 18 #[.slice A n c] w (Lw.HdT (Lw.HdK l l.length) w) := by
  have hl := h.len
  have PH := Lib.hid (fun W (hb : Below w.heap.size w W) i (hi : i < n) (hil : i < l.length) hk => pratt_holds A n c i l W (h.below (Nat.le_refl _) hb) hn hi hil (Lw.hdK_two (by omega) hk) hs)
  have NX := Lib.hid (fun k hk a b => Lw.hdK_next (l := l) (k := k) hk a b)
  have NO := Lib.hid (fun k hk a => Lw.hdK_no (l := l) (k := k) hk a)
  have HL := Lib.hid hl
  have n64 : ¬ (64 : Int) < (n : Int) := by omega
  clear h hs hl
  go_enter Try.func18, Try.ntmps18
  go_wp2
  go_loopw [4, 10] (fun a i wr => ∃ k : Nat, i = .int .i64 (k : Int) ∧ k ≤ n ∧ Hid (Lw.HdK l k) ∧ Below w.heap.size w wr) (fun _ i _ => n - (intOf i).toNat)
  case atStart => exact ⟨0, rfl, by omega, (fun i hi hk => absurd hk (by omega)), Below.refl _ _⟩
  case round =>
    obtain ⟨k, rfl, hk, H, hB⟩ := hrel
    by_cases hlt : k < n
    · have hlt' : (k : Int) < (n : Int) := by omega
      have hkl : k < l.length := by rw [HL.out]; exact hlt
      have X := Lib.hid (PH.out wr hB k hlt hkl H.out)
      have NXk := Lib.hid (NX.out k hkl H.out)
      have NOk := Lib.hid (NO.out k hkl)
      generalize Lw.HoldP (l.map Lw.LineT.N) k l[k].N l[k].G l[k].r.zs = q at *
      clear hkl
      go_wp2_with fail
      refine X.out.mono ?_
      intro e w1 hX
      obtain ⟨⟨r, rfl, hr⟩, hb1⟩ := hX
      have HR := Lib.hid hr
      clear hr
      cases r with
      | true =>
        have N1 := Lib.hid (NXk.out (HR.out.1 rfl))
        go_wp2
        go_roundw
        case rel => exact ⟨k + 1, by go_num, by omega, N1, Lw.bt hB hb1⟩
        case measure => simp [intOf]; omega
      | false =>
        have N1 := Lib.hid (NOk.out (fun h => by have := HR.out.2 h; cases this))
        go_wp2
        go_ret2
        exact ⟨⟨false, rfl, by simpa using N1.out⟩, Lw.bt hB hb1⟩
    · have hlt' : ¬ (k : Int) < (n : Int) := by omega
      have Y : Hid (Lw.HdK l l.length) := fun i hi _ => H.out i hi (by have := HL.out; omega)
      clear NX NO
      go_wp2
      go_ret2
      exact ⟨⟨true, rfl, by simpa using Y.out⟩, hB⟩
namespace LW
set_option maxHeartbeats 1000000 in
theorem PrattChecks (A : Option Addr) (n c : Nat) (w : World) (h0 : Lw.IsSl w [Lw.IsI .i64, Lw.IsI .i64, Lw.IsSb w [Lw.IsI .i64]] A n c) :
    Calls Try.prog 4 #[.slice A n c] w fun e w' => e = .returned (.bool true) ∧ Below w.heap.size w w' := by
  obtain ⟨l, h, hs⟩ := h0.lines
  clear h0
  by_cases h64 : 64 < n
  · have X := Lib.hid (pratt_Check_large A n c w h64)
    have i1 : (64 : Int) < (n : Int) := by omega
    clear h hs h64
    go_enter Try.func4, Try.ntmps4
    go_wp2_with fail
    refine X.out.mono ?_
    rintro e w1 ⟨rfl, rfl⟩
    go_wp2
    go_ret
    exact ⟨rfl, Below.refl _ _⟩
  · have X := Lib.hid (pratt_Check A n c l w h (by omega) hs)
    have hl := h.len
    have PH := Lib.hid (fun W (hb : Below w.heap.size w W) i (hi : i < n) (hil : i < l.length) hk => ref_Holds A n c i l W (h.below (Nat.le_refl _) hb) (by omega) hi hil (Lw.hdK_two (by omega) hk))
    have NX := Lib.hid (fun k hk a b => Lw.hdK_next (l := l) (k := k) hk a b)
    have NO := Lib.hid (fun k hk a => Lw.hdK_no (l := l) (k := k) hk a)
    have AL : Hid (∀ k, ¬ k < l.length → Lw.HdK l k → Lw.HdK l l.length) := fun k hk H i hi _ => H i hi (by omega)
    have HL := Lib.hid hl
    have i1 : ¬ (64 : Int) < (n : Int) := by omega
    generalize hQ : Lw.HdK l l.length = Q at *
    clear h hs h64 hl hQ
    go_enter Try.func4, Try.ntmps4
    go_wp2_with fail
    refine X.out.mono ?_
    intro e w1 hX
    obtain ⟨⟨r, rfl, hr⟩, hb1⟩ := hX
    have HR := Lib.hid hr
    clear hr
    go_wp2_with fail
    go_loopw [5, 6] (fun b i wr => ∃ (k : Nat) (v : Bool), i = .int .i64 (k : Int) ∧ k ≤ n ∧ b = .bool v ∧ Hid ((v = true → Lw.HdK l k) ∧ (v = false → ¬ Q)) ∧ Below w.heap.size w wr) (fun _ i _ => n - (intOf i).toNat)
    case atStart => exact ⟨0, true, rfl, by omega, rfl, ⟨fun _ i hi hk => absurd hk (by omega), fun h => by cases h⟩, hb1⟩
    case round =>
      obtain ⟨k, v, rfl, hk, rfl, H, hB⟩ := hrel
      obtain ⟨H1, H2⟩ := H.out
      have H1 := Lib.hid H1
      have H2 := Lib.hid H2
      cases v with
      | false =>
        have Y := Lib.hid (H2.out rfl)
        have RF : Hid (r = false) := by cases r with
          | true => exact absurd (HR.out.1 rfl) Y.out
          | false => exact rfl
        obtain rfl := RF.out
        clear NX NO AL PH H1 H2 H RF
        by_cases hlt : k < n
        · have hlt' : (k : Int) < (n : Int) := by omega
          go_wp2
          go_ret
          exact ⟨rfl, hB⟩
        · have hlt' : ¬ (k : Int) < (n : Int) := by omega
          go_wp2
          go_ret
          exact ⟨rfl, hB⟩
      | true =>
        have HK := Lib.hid (H1.out rfl)
        by_cases hlt : k < n
        · have hlt' : (k : Int) < (n : Int) := by omega
          have hkl : k < l.length := by rw [HL.out]; exact hlt
          have Y := Lib.hid (PH.out wr hB k hlt hkl HK.out)
          have NXk := Lib.hid (NX.out k hkl HK.out)
          have NOk := Lib.hid (NO.out k hkl)
          generalize Lw.HoldP (l.map Lw.LineT.N) k l[k].N l[k].G l[k].r.zs = q at *
          clear hkl
          go_wp2_with fail
          refine Y.out.mono ?_
          intro e w2 hY
          obtain ⟨⟨s, rfl, hs⟩, hb2⟩ := hY
          have N2 : Hid ((s = true → Lw.HdK l (k + 1)) ∧ (s = false → ¬ Q)) := ⟨fun h => NXk.out (hs.1 h), fun h => NOk.out fun hq => by have := hs.2 hq; rw [h] at this; cases this⟩
          clear hs
          go_wp2
          go_roundw
          case rel => exact ⟨k + 1, s, by go_num, by omega, rfl, N2, Lw.bt hB hb2⟩
          case measure => simp [intOf]; omega
        · have hlt' : ¬ (k : Int) < (n : Int) := by omega
          have YQ := Lib.hid (AL.out k (by rw [HL.out]; exact hlt) HK.out)
          have RT : Hid (r = true) := HR.out.2 YQ.out
          obtain rfl := RT.out
          clear NX NO AL PH H1 H2 H RT
          go_wp2
          go_ret
          exact ⟨rfl, hB⟩
end LW
end Go.Proofs.Ytlgegdmnbhoepaa
