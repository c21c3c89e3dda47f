/- pad.counted (a map), pad.Plain, the reference's Plain. -/
import Derived.Test.YteeicpfjmahmeaaPad4
import Derived.Test.YteeicpfjmahmeaaRegS
import Derived.Maps.OwnOps
import Derived.Maps.OwnSet
import Derived.Maps.Views
namespace Lw
open Go Go.RowKit Go.Maps
/-- are two of the first k the same? -/
def DupP (zs : List Int) (k : Nat) : Prop := ∃ i j, j < i ∧ i < k ∧ zs.getD i 0 = zs.getD j 0
theorem dup_mono {zs : List Int} {k : Nat} (h : DupP zs k) : DupP zs (k + 1) := by
  obtain ⟨i, j, h1, h2, h3⟩ := h
  exact ⟨i, j, h1, by omega, h3⟩
theorem dup_next {zs : List Int} {k : Nat} (h : DupP zs (k + 1)) : DupP zs k ∨ ∃ j, j < k ∧ zs.getD k 0 = zs.getD j 0 := by
  obtain ⟨i, j, h1, h2, h3⟩ := h
  by_cases e : i = k
  · subst e; exact .inr ⟨j, h1, h3⟩
  · exact .inl ⟨i, j, h1, by omega, h3⟩
/-- what a map of counts says after k numbers -/
def CntR (zs : List Int) (k : Nat) (D : DataW Unit) : Prop := (∀ z : Int, Maps.has D (.int .i64 z) = true ↔ ∃ j, j < k ∧ zs.getD j 0 = z) ∧ ((Maps.size D = k ∧ ¬ DupP zs k) ∨ (Maps.size D < k ∧ DupP zs k))
theorem cnt_zero (zs : List Int) : CntR zs 0 (.map []) := ⟨fun z => ⟨fun h => (by cases h), fun ⟨j, h, _⟩ => (by omega)⟩, .inl ⟨rfl, fun ⟨i, j, h1, h2, _⟩ => (by omega)⟩⟩
theorem cnt_next {zs : List Int} {k : Nat} {D : DataW Unit} (hD : Maps.Tidy D) (hM : Maps.IsMap D) (h : CntR zs k D) {z : Int} (hz : zs.getD k 0 = z) (hk : WideAt.IsKeyLit (.int .i64 z)) (d : DataW Unit) : CntR zs (k + 1) (D.put (.int .i64 z) d) := by
  obtain ⟨h1, h2⟩ := h
  refine ⟨fun y => ?_, ?_⟩
  · by_cases e : y = z
    · subst e
      rw [Maps.has_put_same hM hk d]
      exact ⟨fun _ => ⟨k, by omega, hz⟩, fun _ => rfl⟩
    · rw [Maps.has_put_other (by intro h; injection h with _ h; exact e h) d, h1 y]
      refine ⟨fun ⟨j, hj, hy⟩ => ⟨j, (by omega), hy⟩, fun ⟨j, hj, hy⟩ => ⟨j, ?_, hy⟩⟩
      rcases Nat.lt_or_ge j k with h | h
      · exact h
      · have hjk : j = k := by omega
        subst hjk
        exact absurd (hy.symm.trans hz) e
  · rw [Maps.size_put hD d]
    by_cases e : Maps.has D (.int .i64 z) = true
    · rw [if_pos e]
      obtain ⟨j, hj, hy⟩ := (h1 z).1 e
      refine .inr ⟨by rcases h2 with h | h <;> omega, k, j, hj, by omega, hz.trans hy.symm⟩
    · rw [if_neg e]
      rcases h2 with ⟨h3, h4⟩ | ⟨h3, h4⟩
      · refine .inl ⟨by omega, fun hd => ?_⟩
        rcases dup_next hd with h5 | ⟨j, hj, hy⟩
        · exact h4 h5
        · exact e ((h1 z).2 ⟨j, hj, hy.symm.trans hz⟩)
      · exact .inr ⟨by omega, dup_mono h4⟩
theorem cnt_end {zs : List Int} {n : Nat} {D : DataW Unit} (h : CntR zs n D) : (Maps.size D < n ↔ DupP zs n) ∧ Maps.size D ≤ n := by
  rcases h.2 with ⟨h1, h2⟩ | ⟨h1, h2⟩
  · exact ⟨⟨fun h => by omega, fun h => absurd h h2⟩, by omega⟩
  · exact ⟨⟨fun _ => h2, fun _ => h1⟩, by omega⟩
def PlR (Q : Prop) (w : World) (e : Ending) (w' : World) : Prop := (∃ r : Bool, e = .returned (.tuple #[.bool r, .int .i64 0]) ∧ (r = true ↔ Q)) ∧ Below w.heap.size w w'
def PlB (Q : Prop) (w : World) (e : Ending) (w' : World) : Prop := (∃ r : Bool, e = .returned (.bool r) ∧ (r = true ↔ Q)) ∧ ∃ d, w' = w.drewN d
def PlainP (T : List TRow) (k : Nat) : Prop := ∀ i (hi : i < T.length), i < k → ¬ DupP T[i].zs T[i].n
theorem plain_next {T : List TRow} {k : Nat} (hk : k < T.length) (h : PlainP T k) (h2 : ¬ DupP T[k].zs T[k].n) : PlainP T (k + 1) := fun i hi hik => by
  by_cases e : i = k
  · subst e; exact h2
  · exact h i hi (by omega)
theorem cip_rows {T : List TRow} (h : cipE T = 0) : T.length ≤ 16 ∧ ∀ r ∈ T, r.n ≤ 16 := by
  unfold cipE at h
  by_cases h1 : 16 < T.length
  · rw [if_pos h1] at h; cases h
  · rw [if_neg h1] at h
    refine ⟨by omega, fun r hr => ?_⟩
    by_cases h2 : T.any (fun r => decide (Big 16 r.n)) = true
    · rw [if_pos h2] at h; cases h
    · have h3 : T.any (fun r => decide (Big 16 r.n)) = false := by simpa using h2
      have := List.any_eq_false.1 h3 r hr
      have h4 : ¬ Big 16 r.n := by simpa using this
      unfold Big at h4
      omega
end Lw
set_option linter.unusedVariables false
set_option linter.unusedSimpArgs false
namespace Go.Proofs.Yteeicpfjmahmeaa
open Go.RowKit
open Go.Maps
theorem lawPap : Keyed Try.prog 3 := int_keyed Try.underlying3
theorem zeroPap (w : World) : (zeroValue 3).run Try.prog w = .ok (.int .i64 0) w := by kernel_rfl
set_option maxRecDepth 100000 in
set_option maxHeartbeats 1000000 in
theorem pad_counted (A : Option Addr) (n c : Nat) (zs : List Int) (w : World) (R : Lw.Rd w 1 A n (Lw.intsV .i64 zs)) (hw : ∀ z ∈ zs, (Lit.int .i64 z).wf = true) (hn : n ≤ 1048576) :
    Calls Try.prog 47 #[.slice A n c] w fun e w' => e = .returned (.map (some w.heap.size)) ∧ (∃ D, w'.ownsMap Try.prog 3 (plainElem (H := Unit) Try.prog 3) w.heap.size n D ∧ Lw.CntR zs n D) ∧ Below w.heap.size w w' := by
  have lz : zs.length = n := by have := R.1; simpa [Lw.intsV] using this
  have R := Lib.hid R
  have HW := Lib.hid hw
  have LZ := Lib.hid lz
  clear lz hw
  have hmm := @run_makeMap Try.prog
  go_enter Try.func47, Try.ntmps47
  go_wp2
  go_loopw [5, 9] (fun x i wr => ∃ (k : Nat) (D : DataW Unit), k ≤ n ∧ i = .int .i64 (k : Int) ∧ Hid (Lw.CntR zs k D) ∧ wr.ownsMap Try.prog 3 (plainElem (H := Unit) Try.prog 3) w.heap.size k D ∧ Below w.heap.size w wr) (fun _ i _ => n - (intOf i).toNat)
  case atStart => exact ⟨0, .map [], Nat.zero_le _, rfl, Lw.cnt_zero zs, World.ownsMap_made _ _ _ _, (Below.refl _ _).alloc (Nat.le_refl _) _⟩
  case round =>
    obtain ⟨k, D, hk, rfl, CR, hown, hB⟩ := hrel
    by_cases hlt : k < n
    · have hl : k < zs.length := by rw [LZ.out]; exact hlt
      obtain ⟨ad, rfl, had, hcell⟩ := (R.out.below (Nat.le_refl _) hB).at1 hlt (Lw.intsV_get hl)
      have wf := HW.out _ (List.getElem_mem hl)
      have hz : zs.getD k 0 = zs[k] := by rw [List.getD_eq_getElem?_getD, List.getElem?_eq_getElem hl]; rfl
      obtain ⟨z, hx⟩ : ∃ z, zs[k] = z := ⟨_, rfl⟩
      rw [hx] at hcell wf hz
      have hkey : keyOf Try.prog 3 (.int .i64 z) = some (.int .i64 z) := keyOf_int_mk Try.underlying3 wf
      have NX := Lib.hid (fun (hk : WideAt.IsKeyLit (.int .i64 z)) (d : DataW Unit) => Lw.cnt_next (hown.tidy lawPap) hown.isMap CR.out hz hk d)
      have hlt' : (k : Int) < (n : Int) := by omega
      clear hx hl had hz CR
      go_wp2_with (first
        | (at_lookup; refine wpList_lookup_own_int _ rfl _ _ 58 rfl 3 3 .i64 lawPap Try.underlying58 Try.underlying3 (zeroPap _) w.heap.size k _ rfl hown _ _ rfl hkey ?_; intro c hat hwc)
        | (at_mapUpdate; refine wpList_mapUpdate_own _ rfl _ _ _ 58 rfl 3 3 lawPap Try.underlying58 _ w.heap.size k _ rfl hown (by unfold maxLen; omega) _ _ _ rfl rfl hkey _ [] (plainElem_int Try.underlying3 (wrap64_wf _)) ?_; intro w1 hown1 hgrow1)
        | go_in)
      go_roundw
      case rel => exact ⟨k + 1, _, by omega, by go_num, NX.out (by first | exact WideAt.IsKeyLit.int | trivial | simp [WideAt.IsKeyLit] | constructor) _, hown1, hB.grown hgrow1 hB.size (fun j hj => by cases hj; exact Nat.le_refl _)⟩
      case measure => simp [intOf]; omega
    · have hkn : k = n := by omega
      subst hkn
      go_wp2
      go_ret
      exact ⟨rfl, ⟨D, hown, CR.out⟩, hB⟩
theorem pad_Plain_bad (A : Option Addr) (n c : Nat) (T : List Lw.TRow) (w : World) (h : Lw.Tab .i64 w A n T) (h0 : ¬ Lw.cipE T = 0) :
    Calls Try.prog 23 #[.slice A n c] w fun e w' => e = .returned (.tuple #[.bool false, .int .i64 (Lw.cipE T)]) ∧ Below w.heap.size w w' := by
  have X := Lib.hid (pad_Check A n c T w h)
  have z : (Lw.cipE T != 0) = true := by simpa using h0
  have z' : (Lw.cipE T == 0) = false := by simpa using h0
  generalize Lw.cipE T = E at *
  clear h h0
  go_enter Try.func23, Try.ntmps23
  go_wp2_with (go_at_call 18; (with_reducible refine (X.out).mono ?_); rintro e w1 ⟨rfl, hb1⟩)
  go_ret2
  exact ⟨rfl, hb1⟩
set_option maxHeartbeats 1000000 in
theorem pad_Plain (A : Option Addr) (n c : Nat) (T : List Lw.TRow) (w : World) (h : Lw.Tab .i64 w A n T) (h0 : Lw.cipE T = 0) :
    Calls Try.prog 23 #[.slice A n c] w (Lw.PlR (Lw.PlainP T T.length) w) := by
  have X := pad_Check A n c T w h
  rw [h0] at X
  replace X := Lib.hid X
  have hl := h.len
  obtain ⟨t16, r16⟩ := Lw.cip_rows h0
  have R16 := Lib.hid r16
  have HT := Lib.hid h
  have HL := Lib.hid hl
  have n16 : n ≤ 16 := by omega
  have PN := Lib.hid (fun k hk h h2 => Lw.plain_next (T := T) (k := k) hk h h2)
  have PE : Hid (Lw.PlainP T T.length ↔ ∀ i (hi : i < T.length), ¬ Lw.DupP T[i].zs T[i].n) := ⟨fun h i hi => h i hi hi, fun h i hi _ => h i hi⟩
  generalize hQ : Lw.PlainP T T.length = Q at PE ⊢
  have HQ := Lib.hid hQ
  clear h h0 hl r16 t16 hQ
  go_enter Try.func23, Try.ntmps23
  go_wp2_with fail
  refine X.out.mono ?_
  rintro e w1 ⟨rfl, hb1⟩
  go_wp2_with fail
  go_loopw [6, 14] (fun r i wr => ∃ k : Nat, i = .int .i64 (k : Int) ∧ k ≤ n ∧ Hid (Lw.PlainP T k) ∧ Below w.heap.size w wr) (fun _ i _ => n - (intOf i).toNat)
  case atStart => exact ⟨0, rfl, by omega, fun i hi h => by omega, hb1⟩
  case round =>
    obtain ⟨k, rfl, hk, H, hB⟩ := hrel
    by_cases hlt : k < n
    · have hlt' : (k : Int) < (n : Int) := by omega
      obtain ⟨hkl, ad, rfl, had, hcell, RO⟩ := (HT.out.below (Nat.le_refl _) hB).at_ hlt
      have r1 := R16.out _ (List.getElem_mem hkl)
      have CO := pad_counted T[k].A T[k].n T[k].c T[k].zs wr RO.1 RO.2.2 (by omega)
      have PNk := PN.out k hkl H.out
      have PF : Lw.DupP T[k].zs T[k].n → Hid (¬ Q) := fun hd hq => PE.out.1 hq k hkl hd
      obtain ⟨⟨rA, rn, rc, zs⟩, hr⟩ : ∃ z, T[k] = z := ⟨_, rfl⟩
      rw [hr] at hcell CO PNk PF r1
      simp only at hcell CO PNk PF r1
      replace CO := Lib.hid CO
      clear hr RO hkl had
      go_wp2_with fail
      refine CO.out.mono ?_
      rintro e w2 ⟨rfl, ⟨D, hown, CR⟩, hb2⟩
      have hB2 := Lw.bt hB hb2
      obtain ⟨ce, cl⟩ := Lw.cnt_end CR
      by_cases hd : Maps.size D < rn
      · have NQ := PF (ce.1 hd)
        have hd' : ((Maps.size D : Nat) : Int) < (rn : Int) := by omega
        clear PNk PF CR ce
        go_wp2_with (at_len; refine wpList_len_own _ rfl _ 58 rfl 3 3 Try.underlying58 _ wr.heap.size rn D rfl hown ?_)
        go_ret2
        exact ⟨⟨false, rfl, by simpa using NQ.out⟩, hB2⟩
      · have P2 := Lib.hid (PNk fun h => hd (ce.2 h))
        have hd' : ¬ ((Maps.size D : Nat) : Int) < (rn : Int) := by omega
        clear PNk PF CR ce
        go_wp2_with (at_len; refine wpList_len_own _ rfl _ 58 rfl 3 3 Try.underlying58 _ wr.heap.size rn D rfl hown ?_)
        go_roundw
        case rel => exact ⟨k + 1, by go_num, by omega, P2, hB2⟩
        case measure => simp [intOf]; omega
    · have hkn : k = n := by omega
      have YQ : Hid Q := by have h1 := H.out; have h2 := HQ.out; have h3 := HL.out; rw [← h2, h3, ← hkn]; exact h1
      subst hkn
      go_wp2_with fail
      go_ret2
      exact ⟨⟨true, rfl, by simpa using YQ.out⟩, hB⟩
set_option maxHeartbeats 2000000 in
theorem ref_Plain (A : Option Addr) (n c : Nat) (T : List Lw.TRow) (w : World) (h : Lw.Tab .i64 w A n T) (h0 : Lw.cipE T = 0) :
    Calls Try.prog 24 #[.slice A n c] w (Lw.PlB (Lw.PlainP T T.length) w) := by
  have hl := h.len
  obtain ⟨t16, r16⟩ := Lw.cip_rows h0
  have R16 := Lib.hid r16
  have HT := Lib.hid h
  have HL := Lib.hid hl
  have n16 : n ≤ 16 := by omega
  have PN := Lib.hid (fun k hk h h2 => Lw.plain_next (T := T) (k := k) hk h h2)
  have PE : Hid (Lw.PlainP T T.length ↔ ∀ i (hi : i < T.length), ¬ Lw.DupP T[i].zs T[i].n) := ⟨fun h i hi => h i hi hi, fun h i hi _ => h i hi⟩
  generalize hQ : Lw.PlainP T T.length = Q at PE ⊢
  have HQ := Lib.hid hQ
  clear h h0 hl r16 t16 hQ
  go_enter Try.func24, Try.ntmps24
  go_wp2_with fail
  go_loopw [4, 5, 6, 9] (fun r ii jj i wr => ∃ k d : Nat, i = .int .i64 (k : Int) ∧ k ≤ n ∧ Hid (Lw.PlainP T k) ∧ wr = w.drewN d) (fun _ _ _ i _ => n - (intOf i).toNat)
  case atStart => exact ⟨0, 0, rfl, by omega, fun i hi h => by omega, rfl⟩
  case round =>
    obtain ⟨k, d, rfl, hk, H, rfl⟩ := hrel
    by_cases hlt : k < n
    · have hlt' : (k : Int) < (n : Int) := by omega
      obtain ⟨hkl, ad, rfl, had, hcell, RO⟩ := HT.out.at_ hlt
      have r1 := R16.out _ (List.getElem_mem hkl)
      have PNk := PN.out k hkl H.out
      have PF : Lw.DupP T[k].zs T[k].n → Hid (¬ Q) := fun hd hq => PE.out.1 hq k hkl hd
      obtain ⟨⟨rA, rn, rc, zs⟩, hr⟩ : ∃ z, T[k] = z := ⟨_, rfl⟩
      rw [hr] at hcell PNk PF r1 RO
      simp only at hcell PNk PF r1
      have RR := Lib.hid (show Lw.Rd w 1 rA rn (Lw.intsV .i64 zs) from RO.1)
      have lz : Hid (zs.length = rn) := Lib.hid (by have := RR.out.1; simpa [Lw.intsV] using this)
      clear hr RO hkl had
      go_wp2_with fail
      go_loopw [5, 6] (fun ii jj wr => ∃ s d : Nat, ii = .int .i64 (s : Int) ∧ s ≤ rn ∧ Hid (¬ Lw.DupP zs s) ∧ wr = w.drewN d) (fun ii _ _ => rn - (intOf ii).toNat)
      case atStart => exact ⟨0, d, rfl, by omega, (fun ⟨i, j, h1, h2, _⟩ => by omega), rfl⟩
      case round =>
        obtain ⟨s, d, rfl, hs, ND, rfl⟩ := hrel
        by_cases hsl : s < rn
        · have hsl' : (s : Int) < (rn : Int) := by omega
          have sl : s < zs.length := by rw [lz.out]; exact hsl
          obtain ⟨ae, e1, hae, ecell⟩ := RR.out.at1 hsl (Lw.intsV_get sl)
          have gs : zs.getD s 0 = zs[s] := by rw [List.getD_eq_getElem?_getD, List.getElem?_eq_getElem sl]; rfl
          obtain ⟨x, hx⟩ : ∃ z, zs[s] = z := ⟨_, rfl⟩
          rw [hx] at ecell gs
          have GS := Lib.hid gs
          subst e1
          clear hx sl hae gs
          go_wp2_with fail
          go_loopw [6] (fun jj wr => ∃ t d : Nat, jj = .int .i64 (t : Int) ∧ t ≤ s ∧ Hid (∀ j, j < t → ¬ zs.getD j 0 = x) ∧ wr = w.drewN d) (fun jj _ => s - (intOf jj).toNat)
          case atStart => exact ⟨0, d, rfl, by omega, (fun j hj => by omega), rfl⟩
          case round =>
            obtain ⟨t, d, rfl, ht, NE, rfl⟩ := hrel
            by_cases htl : t < s
            · have htl' : (t : Int) < (s : Int) := by omega
              have htr : (t : Int) < (rn : Int) := by omega
              have tl : t < zs.length := by have := lz.out; omega
              obtain ⟨af, e1, haf, fcell⟩ := RR.out.at1 (by omega : t < rn) (Lw.intsV_get tl)
              injection e1 with e1
              subst e1
              have gt : zs.getD t 0 = zs[t] := by rw [List.getD_eq_getElem?_getD, List.getElem?_eq_getElem tl]; rfl
              obtain ⟨y, hy⟩ : ∃ z, zs[t] = z := ⟨_, rfl⟩
              rw [hy] at fcell gt
              have GT := Lib.hid gt
              clear hy tl haf gt
              by_cases exy : x = y
              · have NQ := PF ⟨s, t, htl, hsl, by rw [GS.out, GT.out]; exact exy⟩
                have zb : (x == y) = true := by simpa using exy
                clear PNk PF
                go_wp2
                go_quiet (fail)
                go_wp2
                go_ret
                exact ⟨⟨false, rfl, by simpa using NQ.out⟩, by first | exact ⟨_, rfl⟩ | exact ⟨_, World.drewN_drewN ..⟩⟩
              · have NE2 : Hid (∀ j, j < t + 1 → ¬ zs.getD j 0 = x) := fun j hj => by
                  by_cases e : j = t
                  · subst e; rw [GT.out]; exact fun h => exy h.symm
                  · exact NE.out j (by omega)
                have zb : (x == y) = false := by simpa using exy
                clear PNk PF
                go_wp2
                go_quiet (fail)
                go_wp2
                go_roundw
                case rel => exact ⟨t + 1, _, by go_num, by omega, NE2, rfl⟩
                case measure => simp [intOf]; omega
            · have hts : t = s := by omega
              subst hts
              have ND2 : Hid (¬ Lw.DupP zs (t + 1)) := fun h => by
                rcases Lw.dup_next h with h1 | ⟨j, hj, hy⟩
                · exact ND.out h1
                · exact NE.out j hj (hy.symm.trans GS.out)
              clear PNk PF
              go_wp2
              go_roundw
              case rel => exact ⟨t + 1, _, by go_num, by omega, ND2, rfl⟩
              case measure => simp [intOf]; omega
        · have hsr : s = rn := by omega
          subst hsr
          have P2 := Lib.hid (PNk ND.out)
          clear PNk PF
          go_wp2
          go_roundw
          case rel => exact ⟨k + 1, _, by go_num, by omega, P2, rfl⟩
          case measure => simp [intOf]; omega
    · have hkn : k = n := by omega
      have YQ : Hid Q := by have h1 := H.out; have h2 := HQ.out; have h3 := HL.out; rw [← h2, h3, ← hkn]; exact h1
      subst hkn
      go_wp2_with fail
      go_ret
      exact ⟨⟨true, rfl, by simpa using YQ.out⟩, _, rfl⟩
end Go.Proofs.Yteeicpfjmahmeaa
