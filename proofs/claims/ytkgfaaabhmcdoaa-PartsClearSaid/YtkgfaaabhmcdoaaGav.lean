/- parts.Clear and the reference's Clear. -/
import Derived.Test.YtkgfaaabhmcdoaaGau
import Derived.Test.YtkgfaaabhmcdoaaPow
namespace Lw
open Go Go.RowKit
theorem gate_ok {p : Int} {i m : Nat} {K A B N : Int} (h : gateE p i m ⟨K, A, B, N⟩ = 0) : (K = 1 ∧ 0 ≤ A ∧ A < m) ∨ (K = 2 ∧ 0 ≤ N ∧ N < p) ∨ (K = 3 ∧ (0 ≤ A ∧ A < i) ∧ 0 ≤ B ∧ B < i) ∨ (K = 4 ∧ (0 ≤ A ∧ A < i) ∧ 0 ≤ B ∧ B < i) := by
  have h : (if K = 1 then (if 0 ≤ A ∧ A < m then 0 else 3) else if K = 2 then (if 0 ≤ N ∧ N < p then 0 else 2) else if K = 3 ∨ K = 4 then (if (0 ≤ A ∧ A < i) ∧ 0 ≤ B ∧ B < i then 0 else 3) else 6 : Int) = 0 := h
  by_cases k1 : K = 1
  · rw [if_pos k1] at h
    by_cases c : 0 ≤ A ∧ A < m
    · exact .inl ⟨k1, c⟩
    · rw [if_neg c] at h; cases h
  · rw [if_neg k1] at h
    by_cases k2 : K = 2
    · rw [if_pos k2] at h
      by_cases c : 0 ≤ N ∧ N < p
      · exact .inr (.inl ⟨k2, c⟩)
      · rw [if_neg c] at h; cases h
    · rw [if_neg k2] at h
      by_cases k3 : K = 3 ∨ K = 4
      · rw [if_pos k3] at h
        by_cases c : (0 ≤ A ∧ A < i) ∧ 0 ≤ B ∧ B < i
        · rcases k3 with k | k
          · exact .inr (.inr (.inl ⟨k, c⟩))
          · exact .inr (.inr (.inr ⟨k, c⟩))
        · rw [if_neg c] at h; cases h
      · rw [if_neg k3] at h; cases h
theorem clrL_next {p : Int} {ins : List Int} {gs : List GateT} {k : Nat} (hk : k < gs.length) : clrL p ins gs (k + 1) = clrL p ins gs k ++ [valG p ins (clrL p ins gs k) gs[k]] := by
  show clrL p ins gs k ++ [valG p ins (clrL p ins gs k) (gs.getD k ⟨0, 0, 0, 0⟩)] = _
  rw [List.getD_eq_getElem?_getD, List.getElem?_eq_getElem hk]; rfl
theorem clr_zero {p : Int} {gs : List GateT} {ins : List Int} (h : clrE p gs ins = 0) : pprE p = 0 ∧ gs.length ≤ 60 ∧ ins.length ≤ 60 ∧ outR p ins = false ∧ gsE p ins.length gs gs.length = 0 := by
  by_cases h1 : pprE p = 0
  · by_cases h2 : 60 < gs.length ∨ 60 < ins.length
    · rw [clr_large h1 h2] at h; cases h
    · cases ho : outR p ins with
      | true => rw [clr_out h1 h2 ho] at h; cases h
      | false => rw [clr_gates h1 h2 ho] at h; exact ⟨h1, by omega, by omega, rfl, h⟩
  · rw [clr_ppr h1] at h; exact absurd h h1
theorem outR_in' {zs : List Int} {m : Int} (h : outR m zs = false) : ∀ z ∈ zs, 0 ≤ z ∧ z < m := by
  intro z hz
  have := List.any_eq_false.1 h z hz
  simp at this
  omega
theorem getD_at' {l : List Int} {i : Nat} (h : i < l.length) : l.getD i 0 = l[i] := by rw [List.getD_eq_getElem?_getD, List.getElem?_eq_getElem h]; rfl
theorem mulb {a b p : Int} (a0 : 0 ≤ a) (a1 : a < p) (b0 : 0 ≤ b) (b1 : b < p) (hp : p ≤ 251) : 0 ≤ a * b ∧ a * b ≤ 63001 := by
  refine ⟨Int.mul_nonneg a0 b0, ?_⟩
  have h1 : a * b ≤ 251 * 251 := Int.mul_le_mul (by omega) (by omega) b0 (by omega)
  omega
theorem drewN_own'' {w : Go.World} {base e size n : Nat} {v : Go.Value} {xs : List Go.Value} (h : w.ownsRow base e size v n xs) (d : Nat) : (w.drewN d).ownsRow base e size v n xs := h
def ClrR (l : List Int) (n : Nat) (w : World) (e : Ending) (w' : World) : Prop := ∃ C g, e = .returned (.tuple #[.slice C n g, .int .i64 0]) ∧ Rd w' 1 C n (intsV .i64 l) ∧ Below w.heap.size w w'
def ClrF (l : List Int) (n : Nat) (w : World) (e : Ending) (w' : World) : Prop := ∃ C g, e = .returned (.slice C n g) ∧ Rd w' 1 C n (intsV .i64 l) ∧ Below w.heap.size w w'
theorem intsV_snoc'' (k : IntKind) (a : List Int) (x : Int) : intsV k (a ++ [x]) = intsV k a ++ [.int k x] := by simp [intsV]
end Lw
set_option linter.unusedVariables false
set_option linter.unusedSimpArgs false
namespace Go.Proofs.Ytkgfaaabhmcdoaa
open Go.RowKit
theorem elLng : Lw.El Try.prog 49 2 (.int .i64 0) 1 8 := Lw.El.mk' Try.underlying49 (by kernel_rfl) rfl (by decide) (by decide)
theorem parts_Clear_bad (p : Int) (A : Option Addr) (n c : Nat) (gs : List Lw.GateT) (B : Option Addr) (m d : Nat) (ins : List Int) (w : World) (RA : Lw.Rd w 4 A n (Lw.gatesV gs)) (RB : Lw.Rd w 1 B m (Lw.intsV .i64 ins)) (h : ¬ Lw.clrE p gs ins = 0) :
    Calls Try.prog 27 #[.int .i64 p, .slice A n c, .slice B m d] w fun e w' => e = .returned (.tuple #[.slice none 0 0, .int .i64 (Lw.clrE p gs ins)]) ∧ Below w.heap.size w w' := by
  have X := Lib.hid (parts_wrong p A n c gs B m d ins w RA RB)
  have z : (Lw.clrE p gs ins != 0) = true := by simpa using h
  have z' : (Lw.clrE p gs ins == 0) = false := by simpa using h
  generalize Lw.clrE p gs ins = E at *
  clear RA RB h
  go_enter Try.func27, Try.ntmps27
  go_wp2_with (go_at_call 66; (with_reducible refine (X.out).mono ?_); rintro e w1 ⟨rfl, hb1⟩)
  go_ret2
  exact ⟨rfl, hb1⟩
set_option maxRecDepth 100000 in
set_option maxHeartbeats 4000000 in
theorem parts_Clear (p : Int) (A : Option Addr) (n c : Nat) (gs : List Lw.GateT) (B : Option Addr) (m d : Nat) (ins : List Int) (w : World) (RA : Lw.Rd w 4 A n (Lw.gatesV gs)) (RB : Lw.Rd w 1 B m (Lw.intsV .i64 ins)) (h : Lw.clrE p gs ins = 0) :
    Calls Try.prog 27 #[.int .i64 p, .slice A n c, .slice B m d] w (Lw.ClrR (Lw.clrL p ins gs n) n w) := by
  have la : gs.length = n := by have := RA.1; rw [Lw.gatesV_length] at this; omega
  have lb : ins.length = m := by have := RB.1; simpa [Lw.intsV] using this
  obtain ⟨h1, h2, h3, h4, h5⟩ := Lw.clr_zero h
  obtain ⟨p1, p2, pp⟩ := Lw.ppr_ok h1
  have IB := Lw.outR_in' h4
  have GA := Lw.gsE_all h5
  have CB := Lib.hid (fun k (hk : k ≤ gs.length) => Lw.clrL_bd (p := p) (by omega) IB (fun k hk => (GA k hk).2) k hk)
  have GK := Lib.hid (fun k hk => (GA k hk).2)
  have CN := Lib.hid (fun k (hk : k < gs.length) => Lw.clrL_next (p := p) (ins := ins) (gs := gs) hk)
  have CL := Lib.hid (fun k => Lw.clrL_len (p := p) (ins := ins) (gs := gs) k)
  have VG : Hid (∀ l K A B N, Lw.valG p ins l ⟨K, A, B, N⟩ = if K = 1 then ins.getD A.toNat 0 else if K = 3 then (l.getD A.toNat 0 + l.getD B.toNat 0) % p else if K = 4 then l.getD A.toNat 0 * l.getD B.toNat 0 % p else N) := fun _ _ _ _ _ => rfl
  have C0 : Hid (Lw.clrL p ins gs 0 = []) := rfl
  rw [lb] at GK
  have X := parts_wrong p A n c gs B m d ins w RA RB
  rw [h] at X
  replace X := Lib.hid X
  have RA := Lib.hid RA
  have RB := Lib.hid RB
  have LA := Lib.hid la
  have LB := Lib.hid lb
  have IB := Lib.hid IB
  have n60 : n ≤ 60 := by omega
  have m60 : m ≤ 60 := by omega
  have p0 : ¬ p = 0 := by omega
  clear h h1 h2 h3 h4 h5 pp GA la lb
  go_enter Try.func27, Try.ntmps27
  go_wp2_with (go_at_call 66; (with_reducible refine (X.out).mono ?_); rintro e w1 ⟨rfl, hb1⟩)

  go_loopw [9, 11, 12, 22] (fun l gg xx i wr => ∃ k : Nat, i = .int .i64 (k : Int) ∧ k ≤ n ∧ wr.ownsRow w.heap.size 2 1 l k (Lw.intsV .i64 (Lw.clrL p ins gs k)) ∧ Below w.heap.size w wr) (fun _ _ _ i _ => n - (intOf i).toNat)
  case atStart => exact ⟨0, rfl, by omega, by rw [C0.out]; exact World.ownsRow_nil _ _ _ _, hb1⟩
  case round =>
    obtain ⟨k, rfl, hk, own, hB⟩ := hrel
    have hszr := hB.size
    by_cases hlt : k < n
    · have hkl : k < gs.length := by rw [LA.out]; exact hlt
      have hlt' : (k : Int) < (n : Int) := by omega
      obtain ⟨g0, g1, g2, g3⟩ := Lw.gatesV_get hkl
      obtain ⟨ad, rfl, had, c0, c1, c2, c3⟩ := (RA.out.below (Nat.le_refl _) hB).at4 hlt g0 g1 g2 g3
      have NX := CN.out k hkl
      have GO := GK.out k hkl
      have CBk := CB.out k (by omega)
      have CLk := CL.out k
      obtain ⟨⟨K, a, b, N⟩, hg⟩ : ∃ z, gs[k] = z := ⟨_, rfl⟩
      rw [hg] at c0 c1 c2 c3 NX GO
      simp only at c0 c1 c2 c3
      rw [VG.out] at NX
      obtain ⟨xs, hxs⟩ : ∃ z, Lw.clrL p ins gs k = z := ⟨_, rfl⟩
      rw [hxs] at NX CBk CLk own
      clear g0 g1 g2 g3 hg hkl had hxs
      rcases Lw.gate_ok GO with ⟨e, h1, h2⟩ | ⟨e, h1, h2⟩ | ⟨e, ⟨h1, h2⟩, h3, h4⟩ | ⟨e, ⟨h1, h2⟩, h3, h4⟩
      · subst e
        obtain ⟨t, rfl⟩ := Int.eq_ofNat_of_zero_le h1
        have tl : t < ins.length := by have := LB.out; omega
        obtain ⟨bd, rfl, hbd, bc⟩ := (RB.out.below (Nat.le_refl _) (Lw.balloc hB (.cells #[.int .i64 1, .int .i64 (t : Int), .int .i64 b, .int .i64 N] 112))).at1 (by omega : t < m) (Lw.intsV_get tl)
        rw [if_pos rfl, Int.toNat_natCast, Lw.getD_at' tl] at NX
        obtain ⟨x, hx⟩ : ∃ z, ins[t] = z := ⟨_, rfl⟩
        rw [hx] at NX bc
        have NX := Lib.hid NX
        have OWN := Lib.hid own
        have tm : (t : Int) < (m : Int) := by omega
        clear own hx tl hbd
        go_wp2_with (at_builtin; go_loud (refine Lw.wpList_app elLng rfl _ _ rfl rfl ((OWN.out.alloc _).alloc _) rfl (by first | exact Lw.Rd.nil _ _ _ | exact Lw.Rd.lit (Lw.blk_new' (by simp) _ _) rfl rfl | exact Lw.Rd.lit (Lw.blk_alloc (Lw.blk_new' (by simp) _ _) _) rfl rfl) (Lw.one1 _ _) (by omega) (Lw.balloc (Lw.balloc hB _) _) (Nat.le_refl _) (by simp; omega) ?_); intro v2 w2 own2 hb2 _ _)
        have O2 := Lib.hid own2
        clear own2
        go_wp2
        go_roundw
        case rel => exact ⟨k + 1, by go_num, by omega, by rw [NX.out, Lw.intsV_snoc'']; exact O2.out, hb2⟩
        case measure => simp [intOf]; omega
      · subst e
        rw [if_neg (by decide), if_neg (by decide), if_neg (by decide)] at NX
        have NX := Lib.hid NX
        have OWN := Lib.hid own
        clear own
        go_wp2_with (at_builtin; go_loud (refine Lw.wpList_app elLng rfl _ _ rfl rfl ((OWN.out.alloc _).alloc _) rfl (by first | exact Lw.Rd.nil _ _ _ | exact Lw.Rd.lit (Lw.blk_new' (by simp) _ _) rfl rfl | exact Lw.Rd.lit (Lw.blk_alloc (Lw.blk_new' (by simp) _ _) _) rfl rfl) (Lw.one1 _ _) (by omega) (Lw.balloc (Lw.balloc hB _) _) (Nat.le_refl _) (by simp; omega) ?_); intro v2 w2 own2 hb2 _ _)
        have O2 := Lib.hid own2
        clear own2
        go_wp2
        go_roundw
        case rel => exact ⟨k + 1, by go_num, by omega, by rw [NX.out, Lw.intsV_snoc'']; exact O2.out, hb2⟩
        case measure => simp [intOf]; omega
      · subst e
        obtain ⟨s, rfl⟩ := Int.eq_ofNat_of_zero_le h1
        obtain ⟨t, rfl⟩ := Int.eq_ofNat_of_zero_le h3
        have sl : s < xs.length := by omega
        have tl : t < xs.length := by omega
        obtain ⟨C, g, rfl, hg, _, _⟩ := Lw.ownsForm own
        obtain ⟨g0, rfl⟩ : ∃ g0, C = some ⟨g0, 0, none⟩ := by
          rcases own.2 with ⟨h0, h0'⟩ | ⟨g0, cap, cur, hv, _⟩
          · omega
          · injection hv with e1; exact ⟨g0, e1⟩
        have ownA := own.alloc (.cells #[.int .i64 3, .int .i64 (s : Int), .int .i64 (t : Int), .int .i64 N] 112)
        obtain ⟨c4, f4, _, _⟩ := Lw.own_cell (i := s) ownA (Lw.intsV_get sl)
        obtain ⟨c5, f5, _, _⟩ := Lw.own_cell (i := t) ownA (Lw.intsV_get tl)
        obtain ⟨x0, x1⟩ := CBk _ (List.getElem_mem sl)
        obtain ⟨y0, y1⟩ := CBk _ (List.getElem_mem tl)
        rw [if_neg (by decide), if_pos rfl, Int.toNat_natCast, Int.toNat_natCast, Lw.getD_at' sl, Lw.getD_at' tl] at NX
        obtain ⟨x, hx⟩ : ∃ z, xs[s] = z := ⟨_, rfl⟩
        obtain ⟨y, hy⟩ : ∃ z, xs[t] = z := ⟨_, rfl⟩
        rw [hx] at NX c4 x0 x1
        rw [hy] at NX c5 y0 y1
        have e1 : IntKind.i64.wrap (x + y) = x + y := by rw [IntKind.wrap_i64]; omega
        have e2 : (x + y).tmod p = (x + y) % p := Int.tmod_eq_emod_of_nonneg (by omega)
        have NX := Lib.hid NX
        have OWN := Lib.hid own
        have sk : (s : Int) < (k : Int) := by omega
        have tk : (t : Int) < (k : Int) := by omega
        clear own ownA hx hy sl tl
        go_wp2_with fail
        go_quiet (fail)
        go_wp2_with (at_builtin; go_loud (refine Lw.wpList_app elLng rfl _ _ rfl rfl ((Lw.drewN_own'' (OWN.out.alloc _) _).alloc _) rfl (by first | exact Lw.Rd.nil _ _ _ | exact Lw.Rd.lit (Lw.blk_new' (by simp) _ _) rfl rfl | exact Lw.Rd.lit (Lw.blk_alloc (Lw.blk_new' (by simp) _ _) _) rfl rfl) (Lw.one1 _ _) (by omega) (Lw.balloc (by first | exact Below.drew (Lw.balloc hB _) | exact Lw.bdrewN (Lw.balloc hB _) _) _) (Nat.le_refl _) (by simp; omega) ?_); intro v2 w2 own2 hb2 _ _)
        have O2 := Lib.hid own2
        clear own2
        go_wp2
        go_roundw
        case rel => exact ⟨k + 1, by go_num, by omega, by rw [NX.out, Lw.intsV_snoc'']; exact O2.out, hb2⟩
        case measure => simp [intOf]; omega
      · subst e
        obtain ⟨s, rfl⟩ := Int.eq_ofNat_of_zero_le h1
        obtain ⟨t, rfl⟩ := Int.eq_ofNat_of_zero_le h3
        have sl : s < xs.length := by omega
        have tl : t < xs.length := by omega
        obtain ⟨C, g, rfl, hg, _, _⟩ := Lw.ownsForm own
        obtain ⟨g0, rfl⟩ : ∃ g0, C = some ⟨g0, 0, none⟩ := by
          rcases own.2 with ⟨h0, h0'⟩ | ⟨g0, cap, cur, hv, _⟩
          · omega
          · injection hv with e1; exact ⟨g0, e1⟩
        have ownA := own.alloc (.cells #[.int .i64 4, .int .i64 (s : Int), .int .i64 (t : Int), .int .i64 N] 112)
        obtain ⟨c4, f4, _, _⟩ := Lw.own_cell (i := s) ownA (Lw.intsV_get sl)
        obtain ⟨c5, f5, _, _⟩ := Lw.own_cell (i := t) ownA (Lw.intsV_get tl)
        obtain ⟨x0, x1⟩ := CBk _ (List.getElem_mem sl)
        obtain ⟨y0, y1⟩ := CBk _ (List.getElem_mem tl)
        rw [if_neg (by decide), if_neg (by decide), if_pos rfl, Int.toNat_natCast, Int.toNat_natCast, Lw.getD_at' sl, Lw.getD_at' tl] at NX
        obtain ⟨x, hx⟩ : ∃ z, xs[s] = z := ⟨_, rfl⟩
        obtain ⟨y, hy⟩ : ∃ z, xs[t] = z := ⟨_, rfl⟩
        rw [hx] at NX c4 x0 x1
        rw [hy] at NX c5 y0 y1
        obtain ⟨m1, m2⟩ := Lw.mulb x0 x1 y0 y1 p2
        have e1 : IntKind.i64.wrap (x * y) = x * y := by rw [IntKind.wrap_i64]; omega
        have e2 : (x * y).tmod p = x * y % p := Int.tmod_eq_emod_of_nonneg m1
        have NX := Lib.hid NX
        have OWN := Lib.hid own
        have sk : (s : Int) < (k : Int) := by omega
        have tk : (t : Int) < (k : Int) := by omega
        clear own ownA hx hy sl tl
        go_wp2_with fail
        go_quiet (fail)
        go_wp2_with (at_builtin; go_loud (refine Lw.wpList_app elLng rfl _ _ rfl rfl ((Lw.drewN_own'' (OWN.out.alloc _) _).alloc _) rfl (by first | exact Lw.Rd.nil _ _ _ | exact Lw.Rd.lit (Lw.blk_new' (by simp) _ _) rfl rfl | exact Lw.Rd.lit (Lw.blk_alloc (Lw.blk_new' (by simp) _ _) _) rfl rfl) (Lw.one1 _ _) (by omega) (Lw.balloc (by first | exact Below.drew (Lw.balloc hB _) | exact Lw.bdrewN (Lw.balloc hB _) _) _) (Nat.le_refl _) (by simp; omega) ?_); intro v2 w2 own2 hb2 _ _)
        have O2 := Lib.hid own2
        clear own2
        go_wp2
        go_roundw
        case rel => exact ⟨k + 1, by go_num, by omega, by rw [NX.out, Lw.intsV_snoc'']; exact O2.out, hb2⟩
        case measure => simp [intOf]; omega
    · have hkn : k = n := by omega
      subst hkn
      obtain ⟨D, e, rfl, hg, _⟩ := Lw.ownsForm own
      have RR := Lib.hid (Lw.Rd.of_own own)
      clear own
      go_wp2
      go_ret2
      exact ⟨D, e, rfl, RR.out, hB⟩
set_option maxRecDepth 100000 in
set_option maxHeartbeats 4000000 in
theorem ref_Clear (p : Int) (A : Option Addr) (n c : Nat) (gs : List Lw.GateT) (B : Option Addr) (m d : Nat) (ins : List Int) (w : World) (RA : Lw.Rd w 4 A n (Lw.gatesV gs)) (RB : Lw.Rd w 1 B m (Lw.intsV .i64 ins)) (h : Lw.clrE p gs ins = 0) :
    Calls Try.prog 30 #[.int .i64 p, .slice A n c, .slice B m d] w (Lw.ClrF (Lw.clrL p ins gs n) n w) := by
  have la : gs.length = n := by have := RA.1; rw [Lw.gatesV_length] at this; omega
  have lb : ins.length = m := by have := RB.1; simpa [Lw.intsV] using this
  obtain ⟨h1, h2, h3, h4, h5⟩ := Lw.clr_zero h
  obtain ⟨p1, p2, pp⟩ := Lw.ppr_ok h1
  have IB := Lw.outR_in' h4
  have GA := Lw.gsE_all h5
  have CB := Lib.hid (fun k (hk : k ≤ gs.length) => Lw.clrL_bd (p := p) (by omega) IB (fun k hk => (GA k hk).2) k hk)
  have GK := Lib.hid (fun k hk => (GA k hk).2)
  have CN := Lib.hid (fun k (hk : k < gs.length) => Lw.clrL_next (p := p) (ins := ins) (gs := gs) hk)
  have CL := Lib.hid (fun k => Lw.clrL_len (p := p) (ins := ins) (gs := gs) k)
  have VG : Hid (∀ l K A B N, Lw.valG p ins l ⟨K, A, B, N⟩ = if K = 1 then ins.getD A.toNat 0 else if K = 3 then (l.getD A.toNat 0 + l.getD B.toNat 0) % p else if K = 4 then l.getD A.toNat 0 * l.getD B.toNat 0 % p else N) := fun _ _ _ _ _ => rfl
  have C0 : Hid (Lw.clrL p ins gs 0 = []) := rfl
  rw [lb] at GK
  have RA := Lib.hid RA
  have RB := Lib.hid RB
  have LA := Lib.hid la
  have LB := Lib.hid lb
  have IB := Lib.hid IB
  have n60 : n ≤ 60 := by omega
  have m60 : m ≤ 60 := by omega
  have p0 : ¬ p = 0 := by omega
  have MD := Lib.hid (fun z W (z0 : 0 ≤ z) (z1 : z ≤ 63001) => ref_Mod z p W (by omega) (by omega))
  clear h h1 h2 h3 h4 h5 pp GA la lb
  go_enter Try.func30, Try.ntmps30
  go_wp2_with fail
  have hb1 := Below.refl w.heap.size w

  go_loopw [7, 9, 10, 13] (fun l gg xx i wr => ∃ k : Nat, i = .int .i64 (k : Int) ∧ k ≤ n ∧ wr.ownsRow w.heap.size 2 1 l k (Lw.intsV .i64 (Lw.clrL p ins gs k)) ∧ Below w.heap.size w wr) (fun _ _ _ i _ => n - (intOf i).toNat)
  case atStart => exact ⟨0, rfl, by omega, by rw [C0.out]; exact World.ownsRow_nil _ _ _ _, hb1⟩
  case round =>
    obtain ⟨k, rfl, hk, own, hB⟩ := hrel
    have hszr := hB.size
    by_cases hlt : k < n
    · have hkl : k < gs.length := by rw [LA.out]; exact hlt
      have hlt' : (k : Int) < (n : Int) := by omega
      obtain ⟨g0, g1, g2, g3⟩ := Lw.gatesV_get hkl
      obtain ⟨ad, rfl, had, c0, c1, c2, c3⟩ := (RA.out.below (Nat.le_refl _) hB).at4 hlt g0 g1 g2 g3
      have NX := CN.out k hkl
      have GO := GK.out k hkl
      have CBk := CB.out k (by omega)
      have CLk := CL.out k
      obtain ⟨⟨K, a, b, N⟩, hg⟩ : ∃ z, gs[k] = z := ⟨_, rfl⟩
      rw [hg] at c0 c1 c2 c3 NX GO
      simp only at c0 c1 c2 c3
      rw [VG.out] at NX
      obtain ⟨xs, hxs⟩ : ∃ z, Lw.clrL p ins gs k = z := ⟨_, rfl⟩
      rw [hxs] at NX CBk CLk own
      clear g0 g1 g2 g3 hg hkl had hxs
      rcases Lw.gate_ok GO with ⟨e, h1, h2⟩ | ⟨e, h1, h2⟩ | ⟨e, ⟨h1, h2⟩, h3, h4⟩ | ⟨e, ⟨h1, h2⟩, h3, h4⟩
      · subst e
        obtain ⟨t, rfl⟩ := Int.eq_ofNat_of_zero_le h1
        have tl : t < ins.length := by have := LB.out; omega
        obtain ⟨bd, rfl, hbd, bc⟩ := (RB.out.below (Nat.le_refl _) (Lw.balloc hB (.cells #[.int .i64 1, .int .i64 (t : Int), .int .i64 b, .int .i64 N] 112))).at1 (by omega : t < m) (Lw.intsV_get tl)
        rw [if_pos rfl, Int.toNat_natCast, Lw.getD_at' tl] at NX
        obtain ⟨x, hx⟩ : ∃ z, ins[t] = z := ⟨_, rfl⟩
        rw [hx] at NX bc
        have NX := Lib.hid NX
        have OWN := Lib.hid own
        have tm : (t : Int) < (m : Int) := by omega
        clear own hx tl hbd
        go_wp2_with (at_builtin; go_loud (refine Lw.wpList_app elLng rfl _ _ rfl rfl ((OWN.out.alloc _).alloc _) rfl (by first | exact Lw.Rd.nil _ _ _ | exact Lw.Rd.lit (Lw.blk_new' (by simp) _ _) rfl rfl | exact Lw.Rd.lit (Lw.blk_alloc (Lw.blk_new' (by simp) _ _) _) rfl rfl) (Lw.one1 _ _) (by omega) (Lw.balloc (Lw.balloc hB _) _) (Nat.le_refl _) (by simp; omega) ?_); intro v2 w2 own2 hb2 _ _)
        have O2 := Lib.hid own2
        clear own2
        go_wp2
        go_roundw
        case rel => exact ⟨k + 1, by go_num, by omega, by rw [NX.out, Lw.intsV_snoc'']; exact O2.out, hb2⟩
        case measure => simp [intOf]; omega
      · subst e
        rw [if_neg (by decide), if_neg (by decide), if_neg (by decide)] at NX
        have NX := Lib.hid NX
        have OWN := Lib.hid own
        clear own
        go_wp2_with (at_builtin; go_loud (refine Lw.wpList_app elLng rfl _ _ rfl rfl ((OWN.out.alloc _).alloc _) rfl (by first | exact Lw.Rd.nil _ _ _ | exact Lw.Rd.lit (Lw.blk_new' (by simp) _ _) rfl rfl | exact Lw.Rd.lit (Lw.blk_alloc (Lw.blk_new' (by simp) _ _) _) rfl rfl) (Lw.one1 _ _) (by omega) (Lw.balloc (Lw.balloc hB _) _) (Nat.le_refl _) (by simp; omega) ?_); intro v2 w2 own2 hb2 _ _)
        have O2 := Lib.hid own2
        clear own2
        go_wp2
        go_roundw
        case rel => exact ⟨k + 1, by go_num, by omega, by rw [NX.out, Lw.intsV_snoc'']; exact O2.out, hb2⟩
        case measure => simp [intOf]; omega
      · subst e
        obtain ⟨s, rfl⟩ := Int.eq_ofNat_of_zero_le h1
        obtain ⟨t, rfl⟩ := Int.eq_ofNat_of_zero_le h3
        have sl : s < xs.length := by omega
        have tl : t < xs.length := by omega
        obtain ⟨C, g, rfl, hg, _, _⟩ := Lw.ownsForm own
        obtain ⟨g0, rfl⟩ : ∃ g0, C = some ⟨g0, 0, none⟩ := by
          rcases own.2 with ⟨h0, h0'⟩ | ⟨g0, cap, cur, hv, _⟩
          · omega
          · injection hv with e1; exact ⟨g0, e1⟩
        have ownA := own.alloc (.cells #[.int .i64 3, .int .i64 (s : Int), .int .i64 (t : Int), .int .i64 N] 112)
        obtain ⟨c4, f4, _, _⟩ := Lw.own_cell (i := s) ownA (Lw.intsV_get sl)
        obtain ⟨c5, f5, _, _⟩ := Lw.own_cell (i := t) ownA (Lw.intsV_get tl)
        obtain ⟨x0, x1⟩ := CBk _ (List.getElem_mem sl)
        obtain ⟨y0, y1⟩ := CBk _ (List.getElem_mem tl)
        rw [if_neg (by decide), if_pos rfl, Int.toNat_natCast, Int.toNat_natCast, Lw.getD_at' sl, Lw.getD_at' tl] at NX
        obtain ⟨x, hx⟩ : ∃ z, xs[s] = z := ⟨_, rfl⟩
        obtain ⟨y, hy⟩ : ∃ z, xs[t] = z := ⟨_, rfl⟩
        rw [hx] at NX c4 x0 x1
        rw [hy] at NX c5 y0 y1
        have e1 : IntKind.i64.wrap (x + y) = x + y := by rw [IntKind.wrap_i64]; omega
        have e2 : (x + y).tmod p = (x + y) % p := Int.tmod_eq_emod_of_nonneg (by omega)
        have MM := Lib.hid (fun W => MD.out (x + y) W (by omega) (by omega))
        have NX := Lib.hid NX
        have OWN := Lib.hid own
        have sk : (s : Int) < (k : Int) := by omega
        have tk : (t : Int) < (k : Int) := by omega
        clear own ownA hx hy sl tl
        go_wp2_with fail
        go_quiet ((go_at_call 67; exact Lw.quiet (MM.out _)))
        go_wp2_with (at_builtin; go_loud (refine Lw.wpList_app elLng rfl _ _ rfl rfl ((Lw.drewN_own'' (OWN.out.alloc _) _).alloc _) rfl (by first | exact Lw.Rd.nil _ _ _ | exact Lw.Rd.lit (Lw.blk_new' (by simp) _ _) rfl rfl | exact Lw.Rd.lit (Lw.blk_alloc (Lw.blk_new' (by simp) _ _) _) rfl rfl) (Lw.one1 _ _) (by omega) (Lw.balloc (by first | exact Below.drew (Lw.balloc hB _) | exact Lw.bdrewN (Lw.balloc hB _) _) _) (Nat.le_refl _) (by simp; omega) ?_); intro v2 w2 own2 hb2 _ _)
        have O2 := Lib.hid own2
        clear own2
        go_wp2
        go_roundw
        case rel => exact ⟨k + 1, by go_num, by omega, by rw [NX.out, Lw.intsV_snoc'']; exact O2.out, hb2⟩
        case measure => simp [intOf]; omega
      · subst e
        obtain ⟨s, rfl⟩ := Int.eq_ofNat_of_zero_le h1
        obtain ⟨t, rfl⟩ := Int.eq_ofNat_of_zero_le h3
        have sl : s < xs.length := by omega
        have tl : t < xs.length := by omega
        obtain ⟨C, g, rfl, hg, _, _⟩ := Lw.ownsForm own
        obtain ⟨g0, rfl⟩ : ∃ g0, C = some ⟨g0, 0, none⟩ := by
          rcases own.2 with ⟨h0, h0'⟩ | ⟨g0, cap, cur, hv, _⟩
          · omega
          · injection hv with e1; exact ⟨g0, e1⟩
        have ownA := own.alloc (.cells #[.int .i64 4, .int .i64 (s : Int), .int .i64 (t : Int), .int .i64 N] 112)
        obtain ⟨c4, f4, _, _⟩ := Lw.own_cell (i := s) ownA (Lw.intsV_get sl)
        obtain ⟨c5, f5, _, _⟩ := Lw.own_cell (i := t) ownA (Lw.intsV_get tl)
        obtain ⟨x0, x1⟩ := CBk _ (List.getElem_mem sl)
        obtain ⟨y0, y1⟩ := CBk _ (List.getElem_mem tl)
        rw [if_neg (by decide), if_neg (by decide), if_pos rfl, Int.toNat_natCast, Int.toNat_natCast, Lw.getD_at' sl, Lw.getD_at' tl] at NX
        obtain ⟨x, hx⟩ : ∃ z, xs[s] = z := ⟨_, rfl⟩
        obtain ⟨y, hy⟩ : ∃ z, xs[t] = z := ⟨_, rfl⟩
        rw [hx] at NX c4 x0 x1
        rw [hy] at NX c5 y0 y1
        obtain ⟨m1, m2⟩ := Lw.mulb x0 x1 y0 y1 p2
        have e1 : IntKind.i64.wrap (x * y) = x * y := by rw [IntKind.wrap_i64]; omega
        have e2 : (x * y).tmod p = x * y % p := Int.tmod_eq_emod_of_nonneg m1
        have MM := Lib.hid (fun W => MD.out (x * y) W (by omega) (by omega))
        have NX := Lib.hid NX
        have OWN := Lib.hid own
        have sk : (s : Int) < (k : Int) := by omega
        have tk : (t : Int) < (k : Int) := by omega
        clear own ownA hx hy sl tl
        go_wp2_with fail
        go_quiet ((go_at_call 67; exact Lw.quiet (MM.out _)))
        go_wp2_with (at_builtin; go_loud (refine Lw.wpList_app elLng rfl _ _ rfl rfl ((Lw.drewN_own'' (OWN.out.alloc _) _).alloc _) rfl (by first | exact Lw.Rd.nil _ _ _ | exact Lw.Rd.lit (Lw.blk_new' (by simp) _ _) rfl rfl | exact Lw.Rd.lit (Lw.blk_alloc (Lw.blk_new' (by simp) _ _) _) rfl rfl) (Lw.one1 _ _) (by omega) (Lw.balloc (by first | exact Below.drew (Lw.balloc hB _) | exact Lw.bdrewN (Lw.balloc hB _) _) _) (Nat.le_refl _) (by simp; omega) ?_); intro v2 w2 own2 hb2 _ _)
        have O2 := Lib.hid own2
        clear own2
        go_wp2
        go_roundw
        case rel => exact ⟨k + 1, by go_num, by omega, by rw [NX.out, Lw.intsV_snoc'']; exact O2.out, hb2⟩
        case measure => simp [intOf]; omega
    · have hkn : k = n := by omega
      subst hkn
      obtain ⟨D, e, rfl, hg, _⟩ := Lw.ownsForm own
      have RR := Lib.hid (Lw.Rd.of_own own)
      clear own
      go_wp2
      go_ret
      exact ⟨D, e, rfl, RR.out, hB⟩
end Go.Proofs.Ytkgfaaabhmcdoaa
