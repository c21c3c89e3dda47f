/- pratt.holds and the reference's Holds. -/
import Derived.Test.YtlgegdmnbhoepaaGnp
namespace Lw
open Go Go.RowKit
section
variable {P : Program} {w : World}
theorem run_appB {t ty e : TypeId} {z : Value} {size bytes base : Nat} (hel : El P t e z size bytes) {v : Value} {n : Nat} {xs : List Value} (hown : w.ownsRow base e size v n xs) {A : Option Addr} {m c : Nat} {news : List Value} (R : Rd w size A m news) (hm0 : 0 < m) (h1 : ∀ u ∈ news, u.oneCell' = true) (hm : n + m ≤ maxLen) (hbound : (n + m) * bytes ≤ 140737488355328) (hbase : base ≤ w.heap.size) :
    ∃ v' w', (Builtin.append_ #[t, t] ty #[v, .slice A m c]).run P w = .ok v' w' ∧ w'.ownsRow base e size v' (n + m) (xs ++ news) ∧ w.grownBy w' v.ownBlock ∧ (v'.ownBlock = v.ownBlock ∨ v'.ownBlock = some w.heap.size) := by
  obtain ⟨ht, hz, h0, hb, i, hi, hiz, hsz, hby⟩ := hel
  obtain ⟨ad, rfl, _, hc⟩ := R.2 hm0
  obtain ⟨v', w', a, b, c', _, d⟩ := run_append_own_at (P := P) w base t ty e i z size bytes ht hi hiz hsz hby hz h0 v n xs hown ad m c news R.1 hc h1 hm hbound hbase
  exact ⟨v', w', a, b, c', d⟩
theorem wpList_appB {ops : Array Oper} {rest : List Oper} {o : Oper} {a : Act} {Q : Exit → Act → World → Prop} {t e : TypeId} {z : Value} {size bytes base : Nat} (hel : El P t e z size bytes) (hgd : o.guard = none) (s x : Operand)
    (ho : o.op = .call { callee := .builtin .append, args := #[s, x], argTypes := #[t, t] }) {v : Value} {n : Nat} {xs : List Value} (hs : a.eval s = v) (hown : w.ownsRow base e size v n xs) {A : Option Addr} {m c : Nat} {news : List Value} (hx : a.eval x = .slice A m c) (R : Rd w size A m news) (hm0 : 0 < m) (h1 : ∀ u ∈ news, u.oneCell' = true) (hm : n + m ≤ maxLen) (hbound : (n + m) * bytes ≤ 140737488355328)
    {w0 : World} (hB : Below w0.heap.size w0 w) (hb0 : w0.heap.size ≤ base) (hbase : base ≤ w.heap.size)
    (h : ∀ v' w', w'.ownsRow base e size v' (n + m) (xs ++ news) → Below w0.heap.size w0 w' → w.grownBy w' v.ownBlock → (v'.ownBlock = v.ownBlock ∨ v'.ownBlock = some w.heap.size) → wpList P ops Q rest (a.put o.dst v') w') : wpList P ops Q (o :: rest) a w := by
  refine wpList_plain hgd fun _ hK => ?_
  obtain ⟨v', w', hr, h2, h3, h4⟩ := run_appB (ty := o.type) (c := c) hel hown R hm0 h1 hm hbound hbase
  unfold Oper.wp execOp
  simp only [ho, resolve, invoke, builtin, Sem.run_bind, Sem.run_pure, Result.andThen_ok, List.map_toArray, List.map_cons, List.map_nil, hs, hx, hr]
  exact hK _ _ (h v' w' h2 (grown_own hB hown hb0 h3) h3 h4)
end
theorem qAt_line {l : List LineT} {k : Nat} (hk : k < l.length) : qAt (l.map LineT.N) (k : Int) = l[k].N := by
  unfold qAt
  rw [Int.toNat_natCast, List.getD_eq_getElem?_getD, List.getElem?_map, List.getElem?_eq_getElem hk]; rfl
theorem strip_zero {q x : Int} (h : ¬ x % q = 0) : strip q x = x := strip_stop h
def psL (Ns : List Int) (F : List Int) (j : Nat) : List Int := (List.range j).map fun t => qAt Ns (F.getD t 0)
theorem psL_succ (Ns F : List Int) (j : Nat) : psL Ns F (j + 1) = psL Ns F j ++ [qAt Ns (F.getD j 0)] := by unfold psL; rw [List.range_succ, List.map_append, List.map_singleton]
theorem psL_len (Ns F : List Int) (j : Nat) : (psL Ns F j).length = j := by simp [psL]
theorem psL_any {Ns F : List Int} {G N : Int} {j : Nat} : (psL Ns F j).any (oneB G N) = false ↔ ∀ t, t < j → ¬ pw G ((N - 1) / qAt Ns (F.getD t 0)) N = 1 := by
  unfold psL
  rw [List.any_eq_false]
  simp only [List.mem_map, List.mem_range, oneB]
  exact ⟨fun h t ht e => h _ ⟨t, ht, rfl⟩ (by simpa using e), fun h x ⟨t, ht, e⟩ hx => h t ht (by rw [e]; simpa using hx)⟩
/-- what is known of a line ahead of its list -/
theorem hold_no1 {Ns : List Int} {i : Nat} {N G : Int} {F : List Int} (h2 : ¬ N = 2) (h : N < 3 ∨ 1048576 < N ∨ G < 1 ∨ N ≤ G) : ¬ HoldP Ns i N G F := by
  rintro (h1 | ⟨h1, _⟩)
  · exact h2 h1
  · omega
theorem hold_noK {Ns : List Int} {i : Nat} {N G : Int} {F : List Int} (h2 : ¬ N = 2) {j : Nat} (hj : j < F.length) (h : ¬ okK Ns N i (F.getD j 0)) : ¬ HoldP Ns i N G F := by
  rintro (h1 | ⟨_, _, h1, _⟩)
  · exact h2 h1
  · exact h (h1 j hj)
theorem hold_end {Ns : List Int} {i : Nat} {N G : Int} {F : List Int} (h2 : ¬ N = 2) (hr : 3 ≤ N ∧ N ≤ 1048576 ∧ 1 ≤ G ∧ G < N) (hk : ∀ j, j < F.length → okK Ns N i (F.getD j 0)) {p : Bool} {v : Int} {b : Bool} (hv : v = lef Ns N F F.length) (hb : p = (v == 1 && ((pw G (N - 1) N == 1) && !((psL Ns F F.length).any (oneB G N))))) : (p = true ↔ HoldP Ns i N G F) := by
  subst hb hv
  simp only [Bool.and_eq_true, beq_iff_eq, Bool.not_eq_true', psL_any]
  exact ⟨fun ⟨h1, h3, h4⟩ => .inr ⟨hr, h3, hk, h1, h4⟩, fun h => by rcases h with h | ⟨_, h3, _, h1, h4⟩; exact absurd h h2; exact ⟨h1, h3, h4⟩⟩
end Lw
set_option linter.unusedVariables false
set_option linter.unusedSimpArgs false
namespace Go.Proofs.Ytlgegdmnbhoepaa
open Go.RowKit
theorem elPs : Lw.El Try.prog 24 2 (.int .i64 0) 1 8 := Lw.El.mk' Try.underlying24 (by kernel_rfl) rfl (by decide) (by decide)
set_option maxRecDepth 100000 in
set_option maxHeartbeats 4000000 in
theorem pratt_holds (A : Option Addr) (n c i : Nat) (l : List Lw.LineT) (w : World) (h : Lw.Lin w A n l) (hn : n ≤ 64) (hi : i < n) (hil : i < l.length) (hq : ∀ k, k < i → 2 ≤ (l.map Lw.LineT.N).getD k 0) (hs : ∀ x ∈ l, x.r.n ≤ 17592186043904) :
    Calls Try.prog 58 #[.slice A n c, .int .i64 (i : Int)] w (Lw.HdR (Lw.HoldP (l.map Lw.LineT.N) i l[i].N l[i].G l[i].r.zs) w) := by
  obtain ⟨g0, g1, g2⟩ := Lw.linesV_get hil
  obtain ⟨ad, rfl, had, c0, c1, c2⟩ := h.1.at3 hi g0 g1 g2
  have hx := h.2 _ (List.getElem_mem hil)
  have hs1 := hs _ (List.getElem_mem hil)
  obtain ⟨⟨N, G, ⟨rA, rn, rc, F⟩⟩, he⟩ : ∃ z, l[i] = z := ⟨_, rfl⟩
  rw [he] at c0 c1 c2 hx hs1
  rw [he]
  simp only at c0 c1 c2 hx hs1 ⊢
  have RF : Lw.Rd w 1 rA rn (Lw.intsV .i64 F) := hx.1.1
  have lF : F.length = rn := by have := RF.1; simpa [Lw.intsV] using this
  clear g0 g1 g2 hs he
  have i0 : (0 : Int) ≤ (i : Int) := by omega
  have i1 : (i : Int) < (n : Int) := by omega
  by_cases h2 : N = 2
  · subst h2
    have z : ((2 : Int) == 2) = true := rfl
    have Y : Hid (Lw.HoldP (l.map Lw.LineT.N) i 2 G F) := .inl rfl
    generalize Lw.HoldP (l.map Lw.LineT.N) i 2 G F = Q at *
    clear hx h hq lF RF
    go_enter Try.func58, Try.ntmps58
    go_wp2_with fail
    go_ret
    exact ⟨⟨true, rfl, by simpa using Y.out⟩, Lw.balloc (Below.refl _ _) _⟩
  · have z : (N == 2) = false := by simpa using h2
    by_cases hr : N < 3 ∨ 1048576 < N ∨ G < 1 ∨ N ≤ G
    · have Y := Lib.hid (Lw.hold_no1 (Ns := l.map Lw.LineT.N) (i := i) (F := F) h2 hr)
      generalize Lw.HoldP (l.map Lw.LineT.N) i N G F = Q at *
      clear hx h hq lF RF
      rcases (by omega : N < 3 ∨ (¬ N < 3 ∧ 1048576 < N) ∨ (¬ N < 3 ∧ ¬ 1048576 < N ∧ G < 1) ∨ (¬ N < 3 ∧ ¬ 1048576 < N ∧ ¬ G < 1 ∧ N ≤ G)) with k1 | ⟨k1, k2⟩ | ⟨k1, k2, k3⟩ | ⟨k1, k2, k3, k4⟩
      all_goals
        clear hr h2
        go_enter Try.func58, Try.ntmps58
        go_wp2_with fail
        go_ret
        exact ⟨⟨false, rfl, by simpa using Y.out⟩, Lw.balloc (Below.refl _ _) _⟩
    · have hr : 3 ≤ N ∧ N ≤ 1048576 ∧ 1 ≤ G ∧ G < N := by omega
      have NK := Lib.hid (fun j hj hk => Lw.hold_noK (Ns := l.map Lw.LineT.N) (i := i) (G := G) (F := F) (N := N) h2 (j := j) hj hk)
      have EN := Lib.hid (fun hk p v b hv hb => Lw.hold_end (Ns := l.map Lw.LineT.N) (i := i) (F := F) h2 hr hk (p := p) (v := v) (b := b) hv hb)
      have LB := Lib.hid (fun j hj => Lw.lef_bd (Ns := l.map Lw.LineT.N) (i := i) (F := F) hr.1 hr.2.1 hq j hj)
      have QA := Lib.hid (fun k hk => Lw.qAt_line (l := l) (k := k) hk)
      have HQ := Lib.hid hq
      have HI := Lib.hid h
      obtain ⟨W, hW⟩ : ∃ W, w.alloc (.cells #[.int .i64 N, .int .i64 G, .slice rA rn rc] 98) = W := ⟨_, rfl⟩
      have B0 := Lib.hid (show W.heap[w.heap.size]? = some (.cells #[.int .i64 N, .int .i64 G, .slice rA rn rc] 98 (0, 0)) from hW ▸ Lw.blk_new _ _ _)
      have hBW : Below w.heap.size w W := by rw [← hW]; exact Lw.balloc (Below.refl _ _) _
      have hWs : w.heap.size < W.heap.size := by rw [← hW]; simp
      have l0 := Lw.blk_cell B0.out 0
      have l1 := Lw.blk_cell B0.out 1
      have l2 := Lw.blk_cell B0.out 2
      simp at l0 l1 l2
      have HW := Lib.hid hW
      have LF := Lib.hid lF
      have RF := Lib.hid RF
      have r1 := hr.1
      have r2 := hr.2.1
      have r3 := hr.2.2.1
      have r4 := hr.2.2.2
      have r5 : ¬ N < 3 := by omega
      have r6 : ¬ 1048576 < N := by omega
      have r7 : ¬ G < 1 := by omega
      have r8 : ¬ N ≤ G := by omega
      generalize Lw.HoldP (l.map Lw.LineT.N) i N G F = Q at *
      obtain ⟨Ns, hNs⟩ : ∃ Ns, l.map Lw.LineT.N = Ns := ⟨_, rfl⟩
      rw [hNs] at NK EN LB QA HQ
      have lN : Hid (l.length = n) := h.len
      have CS := fun (j : Nat) => (rfl : Lw.lef Ns N F (j + 1) = Lw.strip (Lw.qAt Ns (F.getD j 0)) (Lw.lef Ns N F j))
      replace CS : Hid (∀ j, Lw.lef Ns N F (j + 1) = Lw.strip (Lw.qAt Ns (F.getD j 0)) (Lw.lef Ns N F j)) := CS
      have PS := Lib.hid (fun j => Lw.psL_succ Ns F j)
      clear h hx hq hr hW lF hNs h2
      go_enter Try.func58, Try.ntmps58
      go_wp2_with fail
      rw [HW.out]
      go_wp2_with fail
      go_loopw [6, 7, 9, 10, 44] (fun x v a b i' wr => ∃ (j : Nat) (y : Int), i' = .int .i64 (j : Int) ∧ j ≤ rn ∧ x = .int .i64 y ∧ Hid (y = Lw.lef Ns N F j) ∧ wr.ownsRow W.heap.size 2 1 v j (Lw.intsV .i64 (Lw.psL Ns F j)) ∧ Hid (∀ t, t < j → Lw.okK Ns N i (F.getD t 0)) ∧ Below W.heap.size W wr) (fun _ _ _ _ i' _ => rn - (intOf i').toNat)
      case atStart => exact ⟨0, _, rfl, by omega, rfl, rfl, World.ownsRow_nil _ _ _ _, (fun t ht => absurd ht (by omega)), Below.refl _ _⟩
      case round =>
        obtain ⟨j, y, rfl, hj, rfl, HY, own, OK, hB⟩ := hrel
        have hBw : Below w.heap.size w wr := hBW.trans (hB.mono hBW.size)
        have hsz := hB.size
        have m0 : wr.cell? ⟨w.heap.size, 0, none⟩ = some (.int .i64 N) := (hB.cell hWs).trans l0
        have m1 : wr.cell? ⟨w.heap.size, 1, none⟩ = some (.int .i64 G) := (hB.cell hWs).trans l1
        have m2 : wr.cell? ⟨w.heap.size, 2, none⟩ = some (.slice rA rn rc) := (hB.cell hWs).trans l2
        obtain ⟨y1, y2⟩ := HY.out ▸ LB.out j OK.out
        have OWN := Lib.hid own
        clear own
        by_cases hlt : j < rn
        · have hlt' : (j : Int) < (rn : Int) := by omega
          have hl : j < F.length := by rw [LF.out]; exact hlt
          obtain ⟨af, rfl, haf, fcell⟩ := (RF.out.below (Nat.le_refl _) hBw).at1 hlt (Lw.intsV_get hl)
          have gF : F.getD j 0 = F[j] := by rw [List.getD_eq_getElem?_getD, List.getElem?_eq_getElem hl]; rfl
          have NKj := NK.out j hl
          rw [gF] at NKj
          have CSj := CS.out j
          have PSj := PS.out j
          rw [gF] at CSj PSj
          have OKj : Lw.okK Ns N i F[j] → ∀ t, t < j + 1 → Lw.okK Ns N i (F.getD t 0) := fun h t ht => by
            by_cases e : t = j
            · subst e; rw [gF]; exact h
            · exact OK.out t (by omega)
          obtain ⟨x, hx⟩ : ∃ x, F[j] = x := ⟨_, rfl⟩
          rw [hx] at fcell NKj CSj PSj OKj
          clear hx gF hl
          by_cases hx1 : x < 0
          · have Y := Lib.hid (NKj fun h => absurd h.1 (by omega))
            clear NKj CSj PSj OKj
            go_wp2_with fail
            go_ret
            exact ⟨⟨false, rfl, by simpa using Y.out⟩, hBw⟩
          · by_cases hx2 : (i : Int) ≤ x
            · have Y := Lib.hid (NKj fun h => absurd h.2.1 (by omega))
              clear NKj CSj PSj OKj
              go_wp2_with fail
              go_ret
              exact ⟨⟨false, rfl, by simpa using Y.out⟩, hBw⟩
            · obtain ⟨k, rfl⟩ := Int.eq_ofNat_of_zero_le (by omega : 0 ≤ x)
              have hkl : k < l.length := by rw [lN.out]; omega
              have hkn : k < n := by omega
              have hkn' : (k : Int) < (n : Int) := by omega
              have k0 : (0 : Int) ≤ (k : Int) := by omega
              obtain ⟨g0, g1, g2⟩ := Lw.linesV_get hkl
              obtain ⟨ad', e', had2, d0, d1, d2⟩ := (HI.out.1.below (Nat.le_refl _) hBw).at3 hkn g0 g1 g2
              injection e' with e'
              subst e'
              have q2 : 2 ≤ Lw.qAt Ns (k : Int) := by unfold Lw.qAt; exact HQ.out _ (by omega)
              have qe := QA.out k hkl
              rw [← qe] at d0
              obtain ⟨q, hqq⟩ : ∃ q, Lw.qAt Ns (k : Int) = q := ⟨_, rfl⟩
              have NK2 : ¬ (N - 1) % q = 0 → ¬ Q := fun hn => NKj fun h => hn (by rw [← hqq]; exact h.2.2)
              have OK2 : (N - 1) % q = 0 → ∀ t, t < j + 1 → Lw.okK Ns N i (F.getD t 0) := fun hn => OKj ⟨k0, by omega, by rw [hqq]; exact hn⟩
              rw [hqq] at d0 q2 CSj PSj
              clear NKj OKj qe g0 g1 g2 d1 d2 hqq
              have q0 : ¬ q = 0 := by omega
              have td : (N - 1).tmod q = (N - 1) % q := Int.tmod_eq_emod_of_nonneg (by omega)
              by_cases hd : (N - 1) % q = 0
              · have hd' : ((N - 1) % q != 0) = false := by simpa using hd
                have OK3 := Lib.hid (OK2 hd)
                have CSj := Lib.hid CSj
                have PSj := Lib.hid PSj
                clear NK2 OK2
                go_wp2_with (at_builtin; refine Lw.wpList_appB elPs rfl _ _ rfl rfl (OWN.out.alloc _) rfl (by first | exact Lw.Rd.nil _ _ _ | exact Lw.Rd.lit (Lw.blk_new' (by simp) _ _) rfl rfl | exact Lw.Rd.lit (Lw.blk_alloc (Lw.blk_new' (by simp) _ _) _) rfl rfl) (by omega) (Lw.one1 _ _) (by unfold maxLen; omega) (by omega) (Lw.balloc hB _) (Nat.le_refl _) (by simp; omega) ?_; intro v1 w1 own1 hb1 _ _; have m3 : w1.cell? ⟨w.heap.size, 0, none⟩ = some (.int .i64 N) := (hb1.cell hWs).trans l0)
                have O1 := Lib.hid own1
                clear own1
                go_loop [6] (fun x => ∃ y' : Int, x = .int .i64 y' ∧ 1 ≤ y' ∧ y' < 1048576 ∧ Hid (Lw.strip q y' = Lw.strip q y)) (fun x => (intOf x).toNat)
                case atStart => exact ⟨y, rfl, y1, y2, rfl⟩
                case round =>
                  obtain ⟨y', rfl, y3, y4, HS⟩ := hrel
                  have td2 : y'.tmod q = y' % q := Int.tmod_eq_emod_of_nonneg (by omega)
                  have tq2 : y'.tdiv q = y' / q := Int.tdiv_eq_ediv_of_nonneg (by omega)
                  by_cases hd2 : y' % q = 0
                  · have hz2 : (y' % q == 0) = true := by simpa using hd2
                    have S := Lib.hid (Lw.strip_step q2 y3 (by omega) hd2)
                    obtain ⟨s1, s2, s3⟩ := Lw.str_half (k := 20) q2 y3 (by omega) hd2
                    have s4 : wrap64 (y' / q) = y' / q := by unfold wrap64; omega
                    clear hd2
                    go_wp2
                    exact ⟨⟨_, rfl, s1, by omega, Lib.hid (by rw [← S.out, HS.out])⟩, by simp [intOf]; omega⟩
                  · have hz2 : (y' % q == 0) = false := by simpa using hd2
                    have S := Lib.hid (Lw.strip_stop hd2)
                    clear hd2
                    go_wp2
                    go_roundw
                    case rel => exact ⟨j + 1, _, by go_num, by omega, rfl, Lib.hid (by rw [CSj.out, ← HY.out, ← HS.out, S.out]), by rw [PSj.out]; simpa [Lw.intsV] using O1.out, OK3, hb1⟩
                    case measure => simp [intOf]; omega
              · have hd' : ((N - 1) % q != 0) = true := by simpa using hd
                have Y := Lib.hid (NK2 hd)
                clear NK2 OK2 CSj PSj
                go_wp2_with (at_builtin; refine Lw.wpList_appB elPs rfl _ _ rfl rfl (OWN.out.alloc _) rfl (by first | exact Lw.Rd.nil _ _ _ | exact Lw.Rd.lit (Lw.blk_new' (by simp) _ _) rfl rfl | exact Lw.Rd.lit (Lw.blk_alloc (Lw.blk_new' (by simp) _ _) _) rfl rfl) (by omega) (Lw.one1 _ _) (by unfold maxLen; omega) (by omega) (Lw.balloc hB _) (Nat.le_refl _) (by simp; omega) ?_; intro v1 w1 own1 hb1 _ _; have m3 : w1.cell? ⟨w.heap.size, 0, none⟩ = some (.int .i64 N) := (hb1.cell hWs).trans l0)
                go_ret
                exact ⟨⟨false, rfl, by simpa using Y.out⟩, hBW.trans (hb1.mono hBW.size)⟩
        · have hlt' : ¬ (j : Int) < (rn : Int) := by omega
          have hjr : j = rn := by omega
          subst hjr
          have PL : Hid (∀ q ∈ Lw.psL Ns F j, 2 ≤ q) := fun q hq => by
            unfold Lw.psL at hq
            obtain ⟨t, ht, rfl⟩ := List.mem_map.1 hq
            have o := OK.out t (List.mem_range.1 ht)
            unfold Lw.qAt
            exact HQ.out _ (by have := o.1; have := o.2.1; omega)
          obtain ⟨C, g, rfl, _⟩ := Lw.ownsForm OWN.out
          have GE := Lib.hid (pratt_generates G N C j g (Lw.psL Ns F j) wr (Lw.Rd.of_own OWN.out) (by omega) r1 r2 PL.out)
          have E := Lib.hid (fun p hb => EN.out (fun t ht => OK.out t (by rw [← LF.out]; exact ht)) p y true (by rw [HY.out, LF.out]) hb)
          have LE : Hid (F.length = j) := LF.out
          rw [LE.out] at E
          clear EN NK CS PS LB QA PL OK
          by_cases h1 : y = 1
          · have z1 : (y == 1) = true := by simpa using h1
            go_wp2_with fail
            refine (GE.out).mono ?_
            rintro e w1 ⟨rfl, hb1⟩
            go_wp2_with fail
            go_ret
            exact ⟨⟨_, rfl, E.out _ (by rw [z1]; rfl)⟩, Lw.bt hBw hb1⟩
          · have z1 : (y == 1) = false := by simpa using h1
            have Y := Lib.hid (E.out false (by rw [z1]; rfl))
            go_wp2_with fail
            go_ret
            exact ⟨⟨false, rfl, by simpa using Y.out⟩, hBw⟩
end Go.Proofs.Ytlgegdmnbhoepaa
