/- Maps of counts with their values; maps.Equal; the columns of a table (pad.column). -/
import Derived.Test.YteeicpfjmahmeaaPap
import Derived.Test.YteeicpfjmahmeaaApp
import Derived.Maps.RangeWalk
import Derived.Lib.SlMapEqual
import Derived.Laws.IdiomRangeMap
namespace Lw
open Go Go.RowKit Go.Maps
/-- how often z stands among the first k -/
def cntZ (zs : List Int) : Nat → Int → Nat
  | 0, _ => 0
  | k + 1, z => cntZ zs k z + (if zs.getD k 0 = z then 1 else 0)
theorem cntZ_le (zs : List Int) : ∀ k z, cntZ zs k z ≤ k
  | 0, _ => Nat.le_refl _
  | k + 1, z => by
    have := cntZ_le zs k z
    unfold cntZ
    split <;> omega
theorem cntZ_pos {zs : List Int} {z : Int} : ∀ {k}, 0 < cntZ zs k z ↔ ∃ j, j < k ∧ zs.getD j 0 = z
  | 0 => ⟨fun h => by simp [cntZ] at h, fun ⟨j, h, _⟩ => by omega⟩
  | k + 1 => by
    have ih := cntZ_pos (zs := zs) (z := z) (k := k)
    unfold cntZ
    by_cases e : zs.getD k 0 = z
    · rw [if_pos e]; exact ⟨fun _ => ⟨k, by omega, e⟩, fun _ => by omega⟩
    · rw [if_neg e, Nat.add_zero, ih]
      refine ⟨fun ⟨j, h, h'⟩ => ⟨j, by omega, h'⟩, fun ⟨j, h, h'⟩ => ⟨j, ?_, h'⟩⟩
      by_cases hj : j = k
      · subst hj; exact absurd h' e
      · omega
def CntV (zs : List Int) (k : Nat) (D : DataW Unit) : Prop := (∀ z : Int, Maps.has D (.int .i64 z) = true ↔ 0 < cntZ zs k z) ∧ (∀ z : Int, D.atKey (.int .i64 z) (.lit (.int .i64 0)) = .lit (.int .i64 (cntZ zs k z))) ∧ ∀ kl, Maps.has D kl = true → ∃ z, kl = .int .i64 z
theorem cntV_zero (zs : List Int) : CntV zs 0 (.map []) := ⟨fun z => ⟨fun h => (by cases h), fun h => (by simp [cntZ] at h)⟩, fun z => rfl, fun kl h => by cases h⟩
theorem cntV_next {zs : List Int} {k : Nat} {D : DataW Unit} (hM : Maps.IsMap D) (h : CntV zs k D) {z : Int} (hz : zs.getD k 0 = z) (hk : WideAt.IsKeyLit (.int .i64 z)) (hkn : k < 1048576) {c : Int} (hc : D.atKey (.int .i64 z) (.lit (.int .i64 0)) = .lit (.int .i64 c)) : CntV zs (k + 1) (D.put (.int .i64 z) (.lit (.int .i64 (wrap64 (c + 1))))) := by
  obtain ⟨h1, h2, h3⟩ := h
  have e1 := h2 z
  rw [hc] at e1
  injection e1 with e1
  injection e1 with _ e1
  have hle := cntZ_le zs k z
  have e2 : wrap64 (c + 1) = ((cntZ zs (k + 1) z : Nat) : Int) := by
    unfold cntZ; rw [if_pos hz, e1, IntWalk.wrap64_in _ (by omega)]; omega
  rw [e2]
  have other : ∀ y, y ≠ z → cntZ zs (k + 1) y = cntZ zs k y := fun y hy => by
    show cntZ zs k y + (if zs.getD k 0 = y then 1 else 0) = _
    rw [if_neg (by rw [hz]; exact fun h => hy h.symm)]; rfl
  have ne : ∀ y, y ≠ z → (Lit.int .i64 y) ≠ .int .i64 z := fun y hy h => by injection h with _ h; exact hy h
  refine ⟨fun y => ?_, fun y => ?_, fun kl hkl => ?_⟩
  · by_cases e : y = z
    · subst e
      rw [Maps.has_put_same hM hk]
      exact ⟨fun _ => by unfold cntZ; rw [if_pos hz]; omega, fun _ => rfl⟩
    · rw [Maps.has_put_other (ne y e), h1 y, other y e]
  · by_cases e : y = z
    · subst e
      rw [Maps.atKey_put_same hM hk]
    · rw [Maps.atKey_put_other (ne y e), h2 y, other y e]
  · by_cases e : kl = .int .i64 z
    · exact ⟨z, e⟩
    · rw [Maps.has_put_other e] at hkl
      exact h3 kl hkl
def eqI : DataW Unit → DataW Unit → Bool
  | .lit (.int _ x), .lit (.int _ y) => decide (x = y)
  | _, _ => false
open Classical in
theorem sub_len {α : Type} : ∀ {l1 l2 : List α}, l1.Nodup → (∀ x ∈ l1, x ∈ l2) → l1.length ≤ l2.length
  | [], _, _, _ => Nat.zero_le _
  | a :: r, l2, h, hs => by
    have ha : a ∈ l2 := hs a (by simp)
    have h1 := sub_len (l1 := r) (l2 := l2.erase a) (List.nodup_cons.1 h).2 (fun x hx => (List.mem_erase_of_ne (by rintro rfl; exact (List.nodup_cons.1 h).1 hx)).2 (hs x (by simp [hx])))
    rw [List.length_erase_of_mem ha] at h1
    have := List.length_pos_of_mem ha
    simp; omega
theorem has_mem {es : List (Lit × DataW Unit)} (hk : ∀ p ∈ es, WideAt.IsKeyLit p.1) {kl : Lit} : Maps.has (.map es) kl = true ↔ ∃ d, (kl, d) ∈ es := by
  rw [Maps.has_eq, List.any_eq_true]
  refine ⟨fun ⟨p, hp, hs⟩ => ⟨p.2, ?_⟩, fun ⟨d, hd⟩ => ⟨_, hd, WideAt.sameKey_self (hk _ hd)⟩⟩
  rw [← WideAt.sameKey_eq hs]; exact hp
theorem equal_iff {zs1 zs2 : List Int} {n1 n2 : Nat} {es1 es2 : List (Lit × DataW Unit)} (hap1 : es1.Pairwise (fun p q => p.1 ≠ q.1)) (hk1 : ∀ p ∈ es1, WideAt.IsKeyLit p.1) (hap2 : es2.Pairwise (fun p q => p.1 ≠ q.1)) (hk2 : ∀ p ∈ es2, WideAt.IsKeyLit p.1)
    (h1 : CntV zs1 n1 (.map es1)) (h2 : CntV zs2 n2 (.map es2)) : Lib.equalFuncD eqI (.map es1) (.map es2) = true ↔ ∀ z, cntZ zs1 n1 z = cntZ zs2 n2 z := by
  have nd1 : (es1.map Prod.fst).Nodup := List.pairwise_map.2 hap1
  have nd2 : (es2.map Prod.fst).Nodup := List.pairwise_map.2 hap2
  have m1 : ∀ kl, kl ∈ es1.map Prod.fst ↔ Maps.has (.map es1) kl = true := fun kl => by rw [has_mem hk1]; simp
  have m2 : ∀ kl, kl ∈ es2.map Prod.fst ↔ Maps.has (.map es2) kl = true := fun kl => by rw [has_mem hk2]; simp
  have at1 : ∀ p ∈ es1, ∃ z, p.1 = .int .i64 z ∧ p.2 = .lit (.int .i64 (cntZ zs1 n1 z)) ∧ 0 < cntZ zs1 n1 z := fun p hp => by
    have hh : Maps.has (.map es1) p.1 = true := (has_mem hk1).2 ⟨p.2, hp⟩
    obtain ⟨z, hz⟩ := h1.2.2 _ hh
    refine ⟨z, hz, ?_, (h1.1 z).1 (hz ▸ hh)⟩
    rw [← h1.2.1 z, ← hz]
    exact (WideAt.atKey_mem _ (hk1 p hp) hap1 hp).symm
  have good : ∀ z, 0 < cntZ zs1 n1 z → (Lib.goodD eqI (.map es2) (.int .i64 z, .lit (.int .i64 (cntZ zs1 n1 z))) = true ↔ cntZ zs1 n1 z = cntZ zs2 n2 z) := fun z hz => by
    unfold Lib.goodD
    by_cases hh : Maps.has (.map es2) (.int .i64 z) = true
    · rw [hh, Maps.atKey_indep hh .nil (.lit (.int .i64 0)), h2.2.1 z]
      simp only [eqI, Bool.true_and, decide_eq_true_eq]
      omega
    · have h0 : ¬ 0 < cntZ zs2 n2 z := fun h => hh ((h2.1 z).2 h)
      rw [Bool.eq_false_iff.2 hh, Bool.false_and]
      exact ⟨fun h => (by cases h), fun h => (by omega)⟩
  unfold Lib.equalFuncD
  rw [Bool.and_eq_true, decide_eq_true_eq, List.all_eq_true]
  constructor
  · rintro ⟨hs, ha⟩ z
    by_cases hz : 0 < cntZ zs1 n1 z
    · have : Maps.has (.map es1) (.int .i64 z) = true := (h1.1 z).2 hz
      obtain ⟨d, hd⟩ := (has_mem hk1).1 this
      have hg := ha _ hd
      obtain ⟨z', e1, e2, _⟩ := at1 _ hd
      simp only at e1 e2
      injection e1 with _ e1
      subst e1
      rw [e2] at hg
      exact (good z hz).1 hg
    · by_cases hz2 : 0 < cntZ zs2 n2 z
      · exfalso
        have hn : (Lit.int .i64 z) ∉ es1.map Prod.fst := fun h => hz ((h1.1 z).1 ((m1 _).1 h))
        have hin : (Lit.int .i64 z) ∈ es2.map Prod.fst := (m2 _).2 ((h2.1 z).2 hz2)
        have hsub : ∀ x ∈ (Lit.int .i64 z) :: es1.map Prod.fst, x ∈ es2.map Prod.fst := fun x hx => by
          rcases List.mem_cons.1 hx with rfl | hx
          · exact hin
          · obtain ⟨p, hp, rfl⟩ := List.mem_map.1 hx
            have hg := ha _ hp
            unfold Lib.goodD at hg
            exact (m2 _).2 (Bool.and_eq_true _ _ ▸ hg).1
        have := sub_len (List.nodup_cons.2 ⟨hn, nd1⟩) hsub
        simp at this
        have hs' : es1.length = es2.length := hs
        omega
      · omega
  · intro H
    have hsz : es1.length = es2.length := by
      have a := sub_len nd1 (l2 := es2.map Prod.fst) (fun x hx => by
        have hh := (m1 _).1 hx
        obtain ⟨z, rfl⟩ := h1.2.2 _ hh
        exact (m2 _).2 ((h2.1 z).2 (H z ▸ (h1.1 z).1 hh)))
      have b := sub_len nd2 (l2 := es1.map Prod.fst) (fun x hx => by
        have hh := (m2 _).1 hx
        obtain ⟨z, rfl⟩ := h2.2.2 _ hh
        exact (m1 _).2 ((h1.1 z).2 (H z ▸ (h2.1 z).1 hh)))
      simp at a b
      omega
    refine ⟨hsz, fun p hp => ?_⟩
    obtain ⟨z, e1, e2, e3⟩ := at1 p hp
    obtain ⟨p1, p2⟩ := p
    simp only at e1 e2
    subst e1 e2
    exact (good z e3).2 (H z)
theorem owns_bel {H : Type} {P : Program} {k : TypeId} {R : Value → Option (DataW H × List MemPlace)} {w w' : World} {b n B : Nat} {D : DataW H} (h : w.ownsMap P k R b n D) (hb : b < B) (hB : Below B w w') : w'.ownsMap P k R b n D := by
  obtain ⟨es, clock, h1, h2⟩ := h
  exact ⟨es, clock, (hB.block b hb).trans h1, h2⟩
/-- the m-th column of a table -/
def colL (T : List TRow) (m : Nat) : List Int := T.map fun r => r.zs.getD m 0
theorem colL_take {T : List TRow} {m k : Nat} (h : k < T.length) : (colL T m).take (k + 1) = (colL T m).take k ++ [T[k].zs.getD m 0] := by
  rw [List.take_succ_eq_append_getElem (by simpa [colL] using h)]
  simp [colL]
end Lw
set_option linter.unusedVariables false
set_option linter.unusedSimpArgs false
namespace Go.Proofs.Yteeicpfjmahmeaa
open Go.RowKit
open Go.Maps
theorem elInt : Lw.El Try.prog 23 3 (.int .i64 0) 1 8 := Lw.El.mk' Try.underlying23 (by kernel_rfl) rfl (by decide) (by decide)
set_option maxRecDepth 100000 in
set_option maxHeartbeats 1000000 in
theorem pad_countedV (A : Option Addr) (n c : Nat) (zs : List Int) (w : World) (R : Lw.Rd w 1 A n (Lw.intsV .i64 zs)) (hw : ∀ z ∈ zs, (Lit.int .i64 z).wf = true) (hn : n ≤ 1048576) :
    Calls Try.prog 47 #[.slice A n c] w fun e w' => e = .returned (.map (some w.heap.size)) ∧ (∃ D, w'.ownsMap Try.prog 3 (plainElem (H := Unit) Try.prog 3) w.heap.size n D ∧ Lw.CntV zs n D) ∧ Below w.heap.size w w' := by
  have lz : zs.length = n := by have := R.1; simpa [Lw.intsV] using this
  have R := Lib.hid R
  have HW := Lib.hid hw
  have LZ := Lib.hid lz
  clear lz hw
  have hmm := @run_makeMap Try.prog
  go_enter Try.func47, Try.ntmps47
  go_wp2
  go_loopw [5, 9] (fun x i wr => ∃ (k : Nat) (D : DataW Unit), k ≤ n ∧ i = .int .i64 (k : Int) ∧ Hid (Lw.CntV zs k D) ∧ wr.ownsMap Try.prog 3 (plainElem (H := Unit) Try.prog 3) w.heap.size k D ∧ Below w.heap.size w wr) (fun _ i _ => n - (intOf i).toNat)
  case atStart => exact ⟨0, .map [], Nat.zero_le _, rfl, Lw.cntV_zero zs, World.ownsMap_made _ _ _ _, (Below.refl _ _).alloc (Nat.le_refl _) _⟩
  case round =>
    obtain ⟨k, D, hk, rfl, CR, hown, hB⟩ := hrel
    by_cases hlt : k < n
    · have hl : k < zs.length := by rw [LZ.out]; exact hlt
      obtain ⟨ad, rfl, had, hcell⟩ := (R.out.below (Nat.le_refl _) hB).at1 hlt (Lw.intsV_get hl)
      have wf := HW.out _ (List.getElem_mem hl)
      have hz : zs.getD k 0 = zs[k] := by rw [List.getD_eq_getElem?_getD, List.getElem?_eq_getElem hl]; rfl
      obtain ⟨z, hx⟩ : ∃ z, zs[k] = z := ⟨_, rfl⟩
      rw [hx] at hcell wf hz
      have hkey : keyOf Try.prog 3 (.int .i64 z) = some (.int .i64 z) := keyOf_int_mk Try.underlying3 wf
      have NX := Lib.hid (fun (hk : WideAt.IsKeyLit (.int .i64 z)) (c : Int) hc => Lw.cntV_next hown.isMap CR.out hz hk (by omega) (c := c) hc)
      have hlt' : (k : Int) < (n : Int) := by omega
      clear hx hl had hz CR
      go_wp2_with (first
        | (at_lookup; refine wpList_lookup_own_int _ rfl _ _ 58 rfl 3 3 .i64 lawPap Try.underlying58 Try.underlying3 (zeroPap _) w.heap.size k _ rfl hown _ _ rfl hkey ?_; intro c hat hwc; have HAT := Lib.hid hat; clear hat)
        | (at_mapUpdate; refine wpList_mapUpdate_own _ rfl _ _ _ 58 rfl 3 3 lawPap Try.underlying58 _ w.heap.size k _ rfl hown (by unfold maxLen; omega) _ _ _ rfl rfl hkey _ [] (plainElem_int Try.underlying3 (wrap64_wf _)) ?_; intro w1 hown1 hgrow1)
        | go_in)
      go_roundw
      case rel => exact ⟨k + 1, _, by omega, by go_num, NX.out (by first | exact WideAt.IsKeyLit.int | trivial | simp [WideAt.IsKeyLit] | constructor) _ HAT.out, hown1, hB.grown hgrow1 hB.size (fun j hj => by cases hj; exact Nat.le_refl _)⟩
      case measure => simp [intOf]; omega
    · have hkn : k = n := by omega
      subst hkn
      go_wp2
      go_ret
      exact ⟨rfl, ⟨D, hown, CR.out⟩, hB⟩
set_option maxRecDepth 100000 in
set_option maxHeartbeats 2000000 in
theorem maps_Equal (b1 b2 n1 n2 : Nat) (D1 D2 : DataW Unit) (w : World) (h1 : w.ownsMap Try.prog 3 (plainElem (H := Unit) Try.prog 3) b1 n1 D1) (h2 : w.ownsMap Try.prog 3 (plainElem (H := Unit) Try.prog 3) b2 n2 D2) :
    Calls Try.prog 52 #[.map (some b1), .map (some b2)] w fun e w' => e = .returned (.bool (Lib.equalFuncD Lw.eqI D1 D2)) ∧ w.grownBy w' none := by
  have l1 := fun ty => h1.len (t := 58) Try.underlying58 ty
  have l2 := fun ty => h2.len (t := 58) Try.underlying58 ty
  obtain ⟨es1, rfl, hap, hkeys⟩ := h1.entries lawPap
  have hb2 := h2.lt
  generalize hres : Lib.equalFuncD Lw.eqI (.map es1) D2 = res
  have RES := Lib.hid hres
  clear hres
  by_cases hsz : Maps.size (.map es1 : DataW Unit) = Maps.size D2
  · go_enter Try.func52, Try.ntmps52
    go_wp2_with (first
      | (at_range; refine wpList_range_own _ rfl _ 58 rfl 3 3 lawPap Try.underlying58 _ b1 n1 _ rfl h1 ?_; intro w0 hrg0 hg0 hs0)
      | go_in)
    go_frame
    go_loopw [18] (fun _ wr => ∃ (left : Lit → Bool) (cnt : Nat), wr.ranges Try.prog 3 (plainElem (H := Unit) Try.prog 3) b1 w.heap.size n1 (.map es1) left cnt ∧ wr.ownsMap Try.prog 3 (plainElem (H := Unit) Try.prog 3) b2 n2 D2 ∧ w.grownBy wr none ∧ Hid (GoodAt Lw.eqI es1 D2 left))
      (fun _ wr => wr.rangeLeft b1 w.heap.size)
    case atStart => exact ⟨_, _, hrg0, h2.kept hg0 (by simp), hg0, good_start hkeys D2⟩
    case round =>
      obtain ⟨left, cnt, hrg, h2r, hgw, G⟩ := hrel
      go_wp2_with (first
        | (at_next; refine wpList_next_ranges_ii _ rfl _ rfl 3 3 .i64 .i64 lawPap Try.underlying3 Try.underlying3 b1 w.heap.size n1 _ _ _ rfl hrg ?_ ?_)
        | go_in)
      · intro _ hl0
        go_wp2
        go_ret
        exact ⟨by rw [← RES.out, all_good G.out hl0 hsz]; rfl, hgw⟩
      · intro x c w1 cnt1 hwx hwc hlx hat hrg1 hlt hg1 hs1 hen
        have hgw1 : w.grownBy w1 none := hgw.andThen hg1 (fun j hj => by cases hj; exact Or.inl (Nat.le_refl _))
        have h2w1 := h2r.kept hg1 (fun e => by have := Option.some.inj e; omega)
        have HAT := Lib.hid hat
        have hkey : keyOf Try.prog 3 (.int .i64 x) = some (.int .i64 x) := keyOf_int_mk Try.underlying3 hwx
        obtain ⟨c2, _, hat2, _⟩ := h2w1.lookup_int lawPap Try.underlying58 Try.underlying3 (zeroPap w1) hkey
        clear hat
        cases hh : Maps.has D2 (.int .i64 x)
        · have hbad : Lib.goodD Lw.eqI D2 (.int .i64 x, .lit (.int .i64 c)) = false := by unfold Lib.goodD; rw [hh]; rfl
          have BAD := Lib.hid hbad
          clear hbad hat2
          go_wp2_with (first
            | (at_lookup; refine wpList_lookup_own_ok_int _ rfl _ _ 58 rfl 3 3 .i64 lawPap Try.underlying58 Try.underlying3 (zeroPap _) b2 n2 D2 rfl h2w1 _ _ rfl hkey ?_; intro c3 hc3 hwc3; rw [hh]; clear hc3)
            | go_in)
          go_ret
          exact ⟨by rw [← RES.out, bad_false hap hkeys HAT.out BAD.out]; rfl, hgw1⟩
        · by_cases he : c = c2
          · have hgood : Lib.goodD Lw.eqI D2 (.int .i64 x, .lit (.int .i64 c)) = true := by unfold Lib.goodD; rw [hh, atKey_indep hh .nil (.lit (.int .i64 0)), hat2, he]; simp [Lw.eqI]
            have GOOD := Lib.hid hgood
            have AT2 := Lib.hid hat2
            clear hgood hat2
            subst he
            go_wp2_with (first
              | (at_lookup; refine wpList_lookup_own_ok_int _ rfl _ _ 58 rfl 3 3 .i64 lawPap Try.underlying58 Try.underlying3 (zeroPap _) b2 n2 D2 rfl h2w1 _ _ rfl hkey ?_; intro c3 hc3 hwc3; rw [hh]; obtain rfl : c3 = c := (by rw [AT2.out] at hc3; injection hc3 with hc3; injection hc3 with _ hc3; exact hc3.symm); clear hc3)
              | go_in)
            go_roundw
            case rel => exact ⟨_, cnt1, hrg1, h2w1, hgw1, good_step hap hkeys HAT.out G.out GOOD.out⟩
            case measure => rw [hrg1.left_eq, hrg.left_eq]; exact hlt
          · have hbad : Lib.goodD Lw.eqI D2 (.int .i64 x, .lit (.int .i64 c)) = false := by unfold Lib.goodD; rw [hh, atKey_indep hh .nil (.lit (.int .i64 0)), hat2]; simpa [Lw.eqI] using he
            have BAD := Lib.hid hbad
            have AT2 := Lib.hid hat2
            have hcc : (c == c2) = false := by simpa using he
            clear hbad hat2 he
            go_wp2_with (first
              | (at_lookup; refine wpList_lookup_own_ok_int _ rfl _ _ 58 rfl 3 3 .i64 lawPap Try.underlying58 Try.underlying3 (zeroPap _) b2 n2 D2 rfl h2w1 _ _ rfl hkey ?_; intro c3 hc3 hwc3; rw [hh]; obtain rfl : c3 = c2 := (by rw [AT2.out] at hc3; injection hc3 with hc3; injection hc3 with _ hc3; exact hc3.symm); clear hc3)
              | go_in)
            go_ret
            exact ⟨by rw [← RES.out, bad_false hap hkeys HAT.out BAD.out]; rfl, hgw1⟩
  · have hne : ¬ ((Maps.size (.map es1 : DataW Unit) : Int) = (Maps.size D2 : Int)) := fun e => hsz (by exact_mod_cast e)
    go_enter Try.func52, Try.ntmps52
    go_wp2
    go_ret
    exact ⟨by rw [← RES.out, sizes_false hsz]; rfl, World.grownBy.refl _ _⟩
end Go.Proofs.Yteeicpfjmahmeaa
