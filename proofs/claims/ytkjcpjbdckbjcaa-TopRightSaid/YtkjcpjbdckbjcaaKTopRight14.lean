/-
  Package relay: what a hop does, each kind in one contract.
  relay.Play, what stands in memory: hops that come in, hops that are told.
  relay.Play: the walk.
  relay.Play: the codes. The reference's Hops. Hops that come in.
  Package relay, plain: what is turned is not read; what is not turned is read as it was.
-/
import Derived.Test.YtkjcpjbdckbjcaaKTopRight13
import Derived.Test.YtkjcpjbdckbjcaaKTopRight3
set_option linter.unusedVariables false
set_option linter.unusedSimpArgs false
namespace Go.Proofs.Ytkjcpjbdckbjcaa
open Go.RowKit
attribute [local go_sem] Oper.semAt_some
set_option maxRecDepth 100000 in
set_option maxHeartbeats 1000000 in
theorem send_bad (E : Int) (h : Lw.Hp) (b : Nat) (KA : Option Addr) (kn kc : Nat) (w : World) (p5 : ∀ o, (w.alloc o).cell? ⟨b, 5, none⟩ = some (.slice KA kn kc)) (hE : Lw.wrongE kn h = E) (hn : (E != 0) = true) :
    Calls Try.prog 16 #[.pointer (some ⟨b, 0, none⟩), .agg (HopC h)] w fun e w' => e = .returned (.tuple #[.slice none 0 0, .int .i64 E]) ∧ Below w.heap.size w w' := by
  have WR := Lib.hid (fun (w : World) p5 => hE ▸ relay_wrong h b KA kn kc w p5)
  obtain ⟨kd, k, l, A, n, c, zs, lk, at', tn⟩ := h
  have AL5 := Lib.hid p5
  clear hE p5
  refine (callsIn_wide (n := 4)).1 ?_
  refine callsIn_of_wp_marks Try.func16 rfl trivial ?_ rfl
  simp only [Try.ntmps16, List.size_toArray, List.length_cons, List.length_nil, Nat.reduceAdd, Nat.reduceSub, Array.replicate_succ, Array.replicate_zero, List.push_toArray, List.append_toArray, List.nil_append, List.cons_append]
  refine wpIn_wide.2 ?_
  go_wp2_with (go_at_call 34; (with_reducible refine (WR.out _ (AL5.out _)).mono ?_); rintro e w1 ⟨rfl, hb1⟩)
  exact ⟨.tuple #[.slice none 0 0, .int .i64 E], by simp [results, Try.results16, go_sem], rfl, Lw.bt (Lw.balloc (Below.refl _ _) _) hb1⟩
set_option maxRecDepth 100000 in
set_option maxHeartbeats 1000000 in
theorem answer_bad (E : Int) (h : Lw.Hp) (b : Nat) (KA : Option Addr) (kn kc : Nat) (w : World) (p5 : ∀ o, (w.alloc o).cell? ⟨b, 5, none⟩ = some (.slice KA kn kc)) (hE : Lw.wrongE kn h = E) (hn : (E != 0) = true) :
    Calls Try.prog 17 #[.pointer (some ⟨b, 0, none⟩), .agg (HopC h)] w fun e w' => e = .returned (.tuple #[.slice none 0 0, .int .i64 E]) ∧ Below w.heap.size w w' := by
  have WR := Lib.hid (fun (w : World) p5 => hE ▸ relay_wrong h b KA kn kc w p5)
  obtain ⟨kd, k, l, A, n, c, zs, lk, at', tn⟩ := h
  have AL5 := Lib.hid p5
  clear hE p5
  refine (callsIn_wide (n := 4)).1 ?_
  refine callsIn_of_wp_marks Try.func17 rfl trivial ?_ rfl
  simp only [Try.ntmps17, List.size_toArray, List.length_cons, List.length_nil, Nat.reduceAdd, Nat.reduceSub, Array.replicate_succ, Array.replicate_zero, List.push_toArray, List.append_toArray, List.nil_append, List.cons_append]
  refine wpIn_wide.2 ?_
  go_wp2_with (go_at_call 34; (with_reducible refine (WR.out _ (AL5.out _)).mono ?_); rintro e w1 ⟨rfl, hb1⟩)
  exact ⟨.tuple #[.slice none 0 0, .int .i64 E], by simp [results, Try.results17, go_sem], rfl, Lw.bt (Lw.balloc (Below.refl _ _) _) hb1⟩
/-- what a hop returns, and how the way stands behind it -/
def StepR (P Q G H : Int) (sv : Value) (b base : Nat) (kv : Value) (r : Int × List Int) (s' : Lw.Wy) (w : World) (e : Ending) (w' : World) : Prop :=
  ∃ A c, e = .returned (.tuple #[.slice A r.2.length c, .int .i64 r.1]) ∧ w'.ownsRow w.heap.size 5 1 (.slice A r.2.length c) r.2.length (Lw.intsV .u8 r.2) ∧
    ∃ KA kc, WayB b P Q G H sv (.slice KA s'.keys.length kc) s'.there s'.home w' ∧ w'.ownsRow base 3 1 (.slice KA s'.keys.length kc) s'.keys.length (Lw.intsV .i64 s'.keys) ∧ Lw.Fr b kv.ownBlock w w'
theorem stepR_nil {P Q G H E : Int} {sv : Value} {b base : Nat} {KA : Option Addr} {kc : Nat} {s : Lw.Wy} {w w' : World} (h : Below w.heap.size w w') (hb : WayB b P Q G H sv (.slice KA s.keys.length kc) s.there s.home w) (own : w.ownsRow base 3 1 (.slice KA s.keys.length kc) s.keys.length (Lw.intsV .i64 s.keys)) :
    StepR P Q G H sv b base (.slice KA s.keys.length kc) (E, []) s w (.returned (.tuple #[.slice none 0 0, .int .i64 E])) w' :=
  ⟨none, 0, rfl, World.ownsRow_nil _ _ _ _, KA, kc, (h.block b (Lw.blk_lt hb)).trans hb, Lw.ownsBelow own (Nat.le_refl _) h, Lw.Fr.of (Lw.Tn.of h)⟩
theorem way_al5 {P Q G H there home : Int} {sv kv : Value} {b : Nat} {w : World} (hb : WayB b P Q G H sv kv there home w) (o : Obj) : (w.alloc o).cell? ⟨b, 5, none⟩ = some kv := by
  have := Lw.blk_cell (Lw.blk_alloc hb o) 5; simpa using this
/-- a way that may be -/
structure WyOk (ss : List Int) (s : Lw.Wy) : Prop where
  keys : ∀ k ∈ s.keys, 0 ≤ k ∧ k < 65536
  len : s.keys.length ≤ ss.length
  there : s.there ≤ 1000
  home : s.home ≤ 1000
theorem last_mem {ks : List Int} (h : 0 < ks.length) : ks.getLastD 0 ∈ ks := by
  rw [Lw.last_get (m := ks.length - 1) (by omega)]
  exact List.getElem_mem _
theorem wrong_facts {n : Nat} {h : Lw.Hp} (hE : Lw.wrongE n h = 0) : 0 < n ∧ h.n ≤ 14 := by
  obtain ⟨kd, k, l, A, m, c, zs, lk, at', tn⟩ := h
  rw [Lw.wrongE_def] at hE
  split at hE
  · cases hE
  · split at hE
    · cases hE
    · exact ⟨by omega, by show m ≤ 14; omega⟩
theorem step_send (P Q G H : Int) (sv : Value) (ss : List Int) (s : Lw.Wy) (h : Lw.Hp) (b base : Nat) (KA : Option Addr) (kc : Nat) (w : World) (hb : WayB b P Q G H sv (.slice KA s.keys.length kc) s.there s.home w) (own : w.ownsRow base 3 1 (.slice KA s.keys.length kc) s.keys.length (Lw.intsV .i64 s.keys))
    (ok : WyOk ss s) (hss : ss.length ≤ 1000) (ho : h.ok w) (hHA : 0 < h.n → ∀ ad, h.A = some ad → ad.block ≠ b) (hk : h.kd = 2) :
    Calls Try.prog 16 #[.pointer (some ⟨b, 0, none⟩), .agg (HopC h)] w (StepR P Q G H sv b base (.slice KA s.keys.length kc) (Lw.rlStep P Q G ss s h).1 (Lw.rlStep P Q G ss s h).2 w) := by
  unfold Lw.rlStep
  rw [if_neg (by omega), if_pos hk]
  by_cases hE : Lw.wrongE s.keys.length h = 0
  · rw [if_pos hE]
    obtain ⟨n1, n2⟩ := wrong_facts hE
    have hlen := ok.len
    have hne : ∀ ad, KA = some ad → ad.block ≠ b := fun ad e e2 => by
      have := Lw.own_other own hb (by decide)
      subst e
      rcases own.2 with ⟨h0, _⟩ | ⟨g, cap, cur, hv, _⟩
      · cases h0
      · injection hv with e1; injection e1 with e1; subst e1; exact this (by show some g = some b; rw [← e2])
    refine (relay_send P Q G H s.there s.home sv h b KA s.keys.length kc s.keys w hb (Lw.Rd.of_own own) ok.keys ho hE hne hHA n2 (ok.keys _ (last_mem n1)) n1 (by omega) (by omega) (by have := ok.there; omega)).mono fun e w' hq => ?_
    obtain ⟨A, c, h1, h2, h3, h4⟩ := hq
    exact ⟨A, c, h1, h2, KA, kc, h3, Lw.own_tn own h4 (Lw.own_other own hb (by decide)), Lw.Fr.of h4⟩
  · rw [if_neg hE]
    exact (send_bad _ h b KA s.keys.length kc w (way_al5 hb) rfl (by simpa using hE)).mono fun e w' ⟨h1, h2⟩ => by subst h1; exact stepR_nil h2 hb own
theorem step_answer (P Q G H : Int) (sv : Value) (ss : List Int) (s : Lw.Wy) (h : Lw.Hp) (b base : Nat) (KA : Option Addr) (kc : Nat) (w : World) (hb : WayB b P Q G H sv (.slice KA s.keys.length kc) s.there s.home w) (own : w.ownsRow base 3 1 (.slice KA s.keys.length kc) s.keys.length (Lw.intsV .i64 s.keys))
    (ok : WyOk ss s) (hss : ss.length ≤ 1000) (ho : h.ok w) (hHA : 0 < h.n → ∀ ad, h.A = some ad → ad.block ≠ b) (hk : h.kd = 3) :
    Calls Try.prog 17 #[.pointer (some ⟨b, 0, none⟩), .agg (HopC h)] w (StepR P Q G H sv b base (.slice KA s.keys.length kc) (Lw.rlStep P Q G ss s h).1 (Lw.rlStep P Q G ss s h).2 w) := by
  unfold Lw.rlStep
  rw [if_neg (by omega), if_neg (by omega), if_pos hk]
  by_cases hE : Lw.wrongE s.keys.length h = 0
  · rw [if_pos hE]
    obtain ⟨n1, n2⟩ := wrong_facts hE
    have hlen := ok.len
    have hne : ∀ ad, KA = some ad → ad.block ≠ b := fun ad e e2 => by
      have := Lw.own_other own hb (by decide)
      subst e
      rcases own.2 with ⟨h0, _⟩ | ⟨g, cap, cur, hv, _⟩
      · cases h0
      · injection hv with e1; injection e1 with e1; subst e1; exact this (by show some g = some b; rw [← e2])
    refine (relay_answer P Q G H s.there s.home sv h b KA s.keys.length kc s.keys w hb (Lw.Rd.of_own own) ok.keys ho hE hne hHA n2 (ok.keys _ (last_mem n1)) n1 (by omega) (by omega) (by have := ok.home; omega)).mono fun e w' hq => ?_
    obtain ⟨A, c, h1, h2, h3, h4⟩ := hq
    exact ⟨A, c, h1, h2, KA, kc, h3, Lw.own_tn own h4 (Lw.own_other own hb (by decide)), Lw.Fr.of h4⟩
  · rw [if_neg hE]
    exact (answer_bad _ h b KA s.keys.length kc w (way_al5 hb) rfl (by simpa using hE)).mono fun e w' ⟨h1, h2⟩ => by subst h1; exact stepR_nil h2 hb own
theorem step_extend (P Q G H : Int) (SA : Option Addr) (sn sc : Nat) (ss : List Int) (s : Lw.Wy) (h : Lw.Hp) (b base : Nat) (KA : Option Addr) (kc : Nat) (w w0 : World) (hb : WayB b P Q G H (.slice SA sn sc) (.slice KA s.keys.length kc) s.there s.home w) (own : w.ownsRow base 3 1 (.slice KA s.keys.length kc) s.keys.length (Lw.intsV .i64 s.keys))
    (RS : Lw.Rd w 1 SA sn (Lw.intsV .i64 ss)) (hg : Lw.groupE P Q G H = 0) (hs : ∀ s ∈ ss, 0 ≤ s ∧ s < Q) (ok : WyOk ss s) (hss : ss.length ≤ 1000) (hbase : base ≤ w.heap.size) (hB0 : Below w0.heap.size w0 w) (hb0 : w0.heap.size ≤ base) (hk : h.kd = 1) :
    Calls Try.prog 15 #[.pointer (some ⟨b, 0, none⟩), .int .i64 h.k, .int .i64 h.l] w (StepR P Q G H (.slice SA sn sc) b base (.slice KA s.keys.length kc) (Lw.rlStep P Q G ss s h).1 (Lw.rlStep P Q G ss s h).2 w) := by
  have LS : ss.length = sn := by have := RS.1; simpa [Lw.intsV] using this
  have hlen := ok.len
  unfold Lw.rlStep
  rw [if_pos hk]
  by_cases h1 : s.keys.length = ss.length
  · rw [if_pos h1]
    exact (extend_bad P Q G H s.there s.home h.k h.l 7 b SA sn sc KA s.keys.length kc ss w hb RS hg hs (by omega) (.inl ⟨by omega, rfl⟩)).mono fun e w' ⟨h1, h2⟩ => by subst h1; exact stepR_nil h2 hb own
  · rw [if_neg h1]
    by_cases h2 : h.k < 0 ∨ Q ≤ h.k ∨ h.l < 0 ∨ Q ≤ h.l
    · rw [if_pos h2]
      exact (extend_bad P Q G H s.there s.home h.k h.l 2 b SA sn sc KA s.keys.length kc ss w hb RS hg hs (by omega) (.inr ⟨by omega, rfl, h2⟩)).mono fun e w' ⟨h1, h2⟩ => by subst h1; exact stepR_nil h2 hb own
    · rw [if_neg h2]
      refine (extend_ok P Q G H s.there s.home h.k h.l b base SA sn sc KA s.keys.length kc ss s.keys w hb RS own hg hs (by omega) (by omega) (by omega) (by omega) (by omega) (by omega) hbase w0 hB0 hb0).mono fun e w' hq => ?_
      obtain ⟨A, c, q1, q2, KA', kc', q3, q4, q5⟩ := hq
      refine ⟨A, c, ?_, ?_, KA', kc', ?_, ?_, q5⟩
      · simpa [Lw.littleL_length] using q1
      · simpa [Lw.littleL_length] using q2
      · simpa using q3
      · simpa using q4
end Go.Proofs.Ytkjcpjbdckbjcaa
namespace Lw
open Go Go.RowKit
theorem hpsV_length (L : List Hp) : (hpsV L).length = L.length * 7 := by
  induction L with
  | nil => rfl
  | cons x L ih => simp only [hpsV, List.map_cons, List.flatten_cons, List.length_append, List.length_cons, Hp.vs, List.length_nil] at *; omega
theorem hpsV_get : ∀ {L : List Hp} {i : Nat} (h : i < L.length) (j : Nat), j < 7 → (hpsV L)[i * 7 + j]? = (L[i].vs)[j]?
  | x :: L, 0, _, j, hj => by
    have e : hpsV (x :: L) = x.vs ++ hpsV L := by simp [hpsV]
    have hl : x.vs.length = 7 := rfl
    rw [e, List.getElem?_append_left (by omega)]
    simp
  | x :: L, i + 1, h, j, hj => by
    have ih := hpsV_get (L := L) (i := i) (by simpa using h) j hj
    have e : hpsV (x :: L) = x.vs ++ hpsV L := by simp [hpsV]
    have hl : x.vs.length = 7 := rfl
    rw [e, List.getElem?_append_right (by omega), hl, show (i + 1) * 7 + j - 7 = i * 7 + j by omega, ih]
    simp
/-- the seven cells of a hop -/
theorem Rd.at7 {w : World} {n k : Nat} {A : Option Addr} {L : List Hp} (h : Rd w 7 A n (hpsV L)) (hk : k < n) (hl : k < L.length) :
    ∃ ad, A = some ad ∧ ad.block < w.heap.size ∧ w.cell? (ad.add (k * 7)) = some (.int .i64 L[k].kd) ∧ w.cell? ⟨(ad.add (k * 7)).block, (ad.add (k * 7)).off + 1, none⟩ = some (.int .i64 L[k].k) ∧ w.cell? ⟨(ad.add (k * 7)).block, (ad.add (k * 7)).off + 2, none⟩ = some (.int .i64 L[k].l) ∧ w.cell? ⟨(ad.add (k * 7)).block, (ad.add (k * 7)).off + 3, none⟩ = some (.slice L[k].A L[k].n L[k].c) ∧
      w.cell? ⟨(ad.add (k * 7)).block, (ad.add (k * 7)).off + 4, none⟩ = some (.int .i64 L[k].lk) ∧ w.cell? ⟨(ad.add (k * 7)).block, (ad.add (k * 7)).off + 5, none⟩ = some (.int .i64 L[k].at') ∧ w.cell? ⟨(ad.add (k * 7)).block, (ad.add (k * 7)).off + 6, none⟩ = some (.int .u8 L[k].tn) := by
  obtain ⟨ad, e, hb, hc⟩ := h.at_ hk
  refine ⟨ad, e, hb, ?_, ?_, ?_, ?_, ?_, ?_, ?_⟩
  · have := hc 0 (.int .i64 L[k].kd) (by rw [hpsV_get hl 0 (by omega)]; rfl); rwa [add_zero'] at this
  · have := hc 1 (.int .i64 L[k].k) (by rw [hpsV_get hl 1 (by omega)]; rfl); rwa [add_succ'] at this
  · have := hc 2 (.int .i64 L[k].l) (by rw [hpsV_get hl 2 (by omega)]; rfl); rwa [add_succ'] at this
  · have := hc 3 (.slice L[k].A L[k].n L[k].c) (by rw [hpsV_get hl 3 (by omega)]; rfl); rwa [add_succ'] at this
  · have := hc 4 (.int .i64 L[k].lk) (by rw [hpsV_get hl 4 (by omega)]; rfl); rwa [add_succ'] at this
  · have := hc 5 (.int .i64 L[k].at') (by rw [hpsV_get hl 5 (by omega)]; rfl); rwa [add_succ'] at this
  · have := hc 6 (.int .u8 L[k].tn) (by rw [hpsV_get hl 6 (by omega)]; rfl); rwa [add_succ'] at this
theorem Hp.ok.below {w w' : World} {h : Hp} (ho : h.ok w) {B : Nat} (hB : w.heap.size ≤ B) (hb : Below B w w') : h.ok w' := ⟨ho.1.below hB hb, ho.2⟩
/-- a hop's body lies where it lay -/
theorem Hp.ok.lt {w : World} {h : Hp} (ho : h.ok w) (hn : 0 < h.n) : ∀ ad, h.A = some ad → ad.block < w.heap.size := by
  intro ad e
  obtain ⟨ad', e', hb, _⟩ := ho.1.2 hn
  rw [e] at e'; injection e' with e'; subst e'; exact hb
theorem rl_take {P Q G : Int} {ss : List Int} {L : List Hp} {k : Nat} (h : k < L.length) : rlRun P Q G ss (L.take (k + 1)) = ((rlRun P Q G ss (L.take k)).1 ++ [(rlStep P Q G ss (rlRun P Q G ss (L.take k)).2 L[k]).1], (rlStep P Q G ss (rlRun P Q G ss (L.take k)).2 L[k]).2) := by
  rw [List.take_succ_eq_append_getElem h]
  unfold rlRun
  rw [List.foldl_append]; rfl
theorem rl_len {P Q G : Int} {ss : List Int} {L : List Hp} : ∀ k, k ≤ L.length → (rlRun P Q G ss (L.take k)).1.length = k
  | 0, _ => rfl
  | k + 1, h => by rw [rl_take (by omega), List.length_append, rl_len k (by omega)]; rfl
/-- told hops, with where their bodies lie -/
abbrev Told := Int × List Int × Value
def toldV (T : List Told) : List Value := T.flatMap fun t => [.int .i64 t.1, t.2.2]
theorem toldV_app (S T : List Told) : toldV (S ++ T) = toldV S ++ toldV T := by simp [toldV]
theorem toldV_length (T : List Told) : (toldV T).length = T.length * 2 := by
  induction T with
  | nil => rfl
  | cons x T ih => simp only [toldV, List.flatMap_cons, List.length_append, List.length_cons, List.length_nil] at *; omega
theorem toldV_get : ∀ {T : List Told} {i : Nat} (h : i < T.length), (toldV T)[i * 2 + 0]? = some (.int .i64 T[i].1) ∧ (toldV T)[i * 2 + 1]? = some T[i].2.2
  | x :: T, 0, _ => by simp [toldV]
  | x :: T, i + 1, h => by
    have ih := toldV_get (T := T) (i := i) (by simpa using h)
    have e : toldV (x :: T) = [.int .i64 x.1, x.2.2] ++ toldV T := by simp [toldV]
    have hl : ([Value.int .i64 x.1, x.2.2] : List Value).length = 2 := rfl
    rw [e, List.getElem?_append_right (by omega), List.getElem?_append_right (by omega), hl]
    simp only [List.getElem_cons_succ]
    rw [show (i + 1) * 2 + 0 - 2 = i * 2 + 0 from by omega, show (i + 1) * 2 + 1 - 2 = i * 2 + 1 from by omega]
    exact ih
def toldOut (T : List Told) : List (Int × List Int) := T.map fun t => (t.1, t.2.1)
/-- what is told, in memory -/
def ToldR (et bt : TypeId) (base : Nat) (out : List (Int × List Int)) (v : Value) (w : World) : Prop :=
  ∃ T : List Told, toldOut T = out ∧ (∀ t ∈ T, w.ownsRow base bt 1 t.2.2 t.2.1.length (intsV .u8 t.2.1)) ∧ w.ownsRow base et 2 v out.length (toldV T)
theorem ToldR.nil (et bt : TypeId) (base : Nat) (w : World) : ToldR et bt base [] (.slice none 0 0) w := ⟨[], rfl, by simp, World.ownsRow_nil _ _ _ _⟩
theorem ToldR.below {et bt : TypeId} {base : Nat} {out : List (Int × List Int)} {v : Value} {w w' : World} (h : ToldR et bt base out v w) {B : Nat} (hB : w.heap.size ≤ B) (hb : Below B w w') : ToldR et bt base out v w' := by
  obtain ⟨T, h1, h2, h3⟩ := h
  exact ⟨T, h1, fun t ht => ownsBelow (h2 t ht) hB hb, ownsBelow h3 hB hb⟩
theorem own_one {base e s n : Nat} {w : World} {v : Value} {xs : List Value} (h : w.ownsRow base e s v n xs) : v.oneCell' = true := by
  rcases h.2 with ⟨rfl, _⟩ | ⟨g, cap, cur, rfl, _⟩ <;> rfl
end Lw
set_option linter.unusedVariables false
set_option linter.unusedSimpArgs false
namespace Go.Proofs.Ytkjcpjbdckbjcaa
open Go.RowKit
set_option maxHeartbeats 1000000 in
theorem rly_idx (A : Option Addr) (n c b : Nat) (p : Int) (zs : List Int) (w : World) (R : Lw.Rd w 1 A n (Lw.intsV .i64 zs)) (hn : n ≤ 9223372036854775807) (hb : w.cell? ⟨b, 1, none⟩ = some (.int .i64 p)) :
    Calls Try.prog 29 #[.slice A n c, .func (.func 14) #[] #[.pointer (some ⟨b, 0, none⟩)]] w (Lw.IdxT (Lw.outR p zs) w) := by
  have R := Lib.hid R
  have l1 : zs.length = n := by have := R.out.1; simpa [Lw.intsV] using this
  have L := Lib.hid l1
  clear l1
  go_enter Try.func29, Try.ntmps29
  go_wp2
  go_loop [5, 8] (fun x i => ∃ k : Nat, i = .int .i64 (k : Int) ∧ k ≤ n ∧ Hid (Lw.outR p (zs.take k) = false)) (fun _ i => n - (intOf i).toNat)
  case atStart => exact ⟨0, rfl, by omega, rfl⟩
  case round =>
    obtain ⟨k, rfl, k1, T⟩ := hrel
    by_cases hlt : k < n
    · have hl : k < zs.length := by rw [L.out]; exact hlt
      obtain ⟨ad, rfl, had, hcell⟩ := R.out.at1 hlt (Lw.intsV_get hl)
      have N := Lib.hid (Lw.any_take (p := fun x => decide (x < 0) || decide (p ≤ x)) hl T.out)
      have D := Lib.hid (Lw.any_at (p := fun x : Int => decide (x < 0) || decide (p ≤ x)) hl)
      obtain ⟨x, hx⟩ : ∃ x, zs[k] = x := ⟨_, rfl⟩
      rw [hx] at hcell N D
      clear hx
      rcases (show x < 0 ∨ (0 ≤ x ∧ p ≤ x) ∨ (0 ≤ x ∧ x < p) by omega) with h0 | ⟨h0, h1⟩ | ⟨h0, h1⟩
      · have D1 : Hid (Lw.outR p zs = true) := D.out (by simp [h0])
        clear N D
        go_wp2
        go_ret
        exact ⟨_, rfl, rfl, .inr ⟨D1.out, by omega⟩⟩
      · have D1 : Hid (Lw.outR p zs = true) := D.out (by simp [h1])
        clear N D
        go_wp2
        go_ret
        exact ⟨_, rfl, rfl, .inr ⟨D1.out, by omega⟩⟩
      · have N1 : Hid (Lw.outR p (zs.take (k + 1)) = false) := N.out (by simp; omega)
        clear N D
        go_wp2
        go_round
        case rel => exact ⟨k + 1, by go_num, by omega, N1⟩
        case measure => simp [intOf]; omega
    · have hk : zs.take k = zs := List.take_of_length_le (by rw [L.out]; omega)
      have E : Hid (Lw.outR p zs = false) := by have := T.out; rwa [hk] at this
      clear hk
      go_wp2
      go_ret
      exact ⟨_, rfl, rfl, .inl ⟨E.out, rfl⟩⟩
theorem rly_con (A : Option Addr) (n c b : Nat) (p : Int) (zs : List Int) (w : World) (R : Lw.Rd w 1 A n (Lw.intsV .i64 zs)) (hn : n ≤ 9223372036854775807) (hb : w.cell? ⟨b, 1, none⟩ = some (.int .i64 p)) :
    Calls Try.prog 13 #[.slice A n c, .func (.func 14) #[] #[.pointer (some ⟨b, 0, none⟩)]] w fun e w' => e = .returned (.bool (Lw.outR p zs)) ∧ w = w' := by
  have X := Lib.hid (rly_idx A n c b p zs w R hn hb)
  clear R hb
  go_enter Try.func13, Try.ntmps13
  go_wp2_with (go_at_call 29; (with_reducible refine (X.out).mono ?_); rintro e w1 ⟨r, rfl, rfl, hr⟩)
  go_ret
  exact ⟨Lw.ret_bool (Lw.IdxT.ge hr), rfl⟩

theorem elHpd : Lw.El Try.prog 26 35 (.agg #[.int .i64 0, .slice none 0 0]) 2 32 := Lw.El.mk' Try.underlying26 (by kernel_rfl) rfl (by decide) (by decide)
abbrev TR := Lw.ToldR 35 5
/-- where the program stands -/
def PlS (P Q G H : Int) (sv : Value) (bw : Nat) (w : World) (s : Lw.Wy) (out : List (Int × List Int)) (v10 : Value) (wr : World) : Prop :=
  Below w.heap.size w wr ∧ w.heap.size ≤ bw ∧ (∃ KA kc, WayB bw P Q G H sv (.slice KA s.keys.length kc) s.there s.home wr ∧ wr.ownsRow (bw + 1) 3 1 (.slice KA s.keys.length kc) s.keys.length (Lw.intsV .i64 s.keys)) ∧ TR (bw + 1) out v10 wr
theorem PlS.below {P Q G H : Int} {sv : Value} {bw : Nat} {w : World} {s : Lw.Wy} {out : List (Int × List Int)} {v10 : Value} {wr W : World} (h : PlS P Q G H sv bw w s out v10 wr) (hb : Below wr.heap.size wr W) : PlS P Q G H sv bw w s out v10 W := by
  obtain ⟨h1, h2, ⟨KA, kc, h3, h4⟩, h5⟩ := h
  exact ⟨Lw.bt h1 hb, h2, ⟨KA, kc, (hb.block _ (Lw.blk_lt h3)).trans h3, Lw.ownsBelow h4 (Nat.le_refl _) hb⟩, h5.below (Nat.le_refl _) hb⟩
theorem PlS.lt {P Q G H : Int} {sv : Value} {bw : Nat} {w : World} {s : Lw.Wy} {out : List (Int × List Int)} {v10 : Value} {wr : World} (h : PlS P Q G H sv bw w s out v10 wr) : bw < wr.heap.size := by
  obtain ⟨_, _, ⟨KA, kc, h3, _⟩, _⟩ := h; exact Lw.blk_lt h3
/-- the way has turned -/
theorem PlS.step {P Q G H : Int} {sv : Value} {bw : Nat} {w : World} {s s' : Lw.Wy} {out : List (Int × List Int)} {v10 : Value} {wr W : World} {KA KA' : Option Addr} {kc kc' : Nat} (h1 : Below w.heap.size w wr) (h2 : w.heap.size ≤ bw) (h3 : WayB bw P Q G H sv (.slice KA s.keys.length kc) s.there s.home wr) (h4 : wr.ownsRow (bw + 1) 3 1 (.slice KA s.keys.length kc) s.keys.length (Lw.intsV .i64 s.keys)) (h5 : TR (bw + 1) out v10 wr)
    (k3 : WayB bw P Q G H sv (.slice KA' s'.keys.length kc') s'.there s'.home W) (k4 : W.ownsRow (bw + 1) 3 1 (.slice KA' s'.keys.length kc') s'.keys.length (Lw.intsV .i64 s'.keys)) (hF : Lw.Fr bw (Value.slice KA s.keys.length kc).ownBlock wr W) : PlS P Q G H sv bw w s' out v10 W := by
  obtain ⟨T, t1, t2, t3⟩ := h5
  have nk : ∀ g, (Value.slice KA s.keys.length kc).ownBlock = some g → bw + 1 ≤ g := fun g e => (h4.lt g e).1
  have diff : ∀ {e n sz : Nat} {v : Value} {xs : List Value}, wr.ownsRow (bw + 1) e sz v n xs → 3 ≠ e → ∀ g, v.ownBlock = some g → (Value.slice KA s.keys.length kc).ownBlock ≠ some g := by
    intro e n sz v xs ho he g hg hk
    rcases h4.2 with ⟨h0, _⟩ | ⟨g1, cap, cur, hv, _, hh, _⟩
    · rw [h0] at hk; cases hk
    · have e1 : g1 = g := by rw [hv] at hk; injection hk
      subst e1
      exact Lw.own_other ho hh he hg
  refine ⟨⟨hF.os.trans h1.os, hF.tape.trans h1.tape, hF.output.trans h1.output, Nat.le_trans h1.size hF.size, fun k hk => (hF.block k (Nat.lt_of_lt_of_le hk h1.size) (by omega) (fun e => by have := nk k e; omega)).trans (h1.block k hk)⟩, h2, ⟨KA', kc', k3, k4⟩, T, t1, fun t ht => Lw.own_fr (t2 t ht) hF (Lw.own_other (t2 t ht) h3 (by decide)) (fun g hg => diff (t2 t ht) (by decide) g hg), Lw.own_fr t3 hF (Lw.own_other t3 h3 (by decide)) (fun g hg => diff t3 (by decide) g hg)⟩
/-- a box of the round is written -/
theorem PlS.px {P Q G H : Int} {sv : Value} {bw : Nat} {w : World} {s : Lw.Wy} {out : List (Int × List Int)} {v10 : Value} {W : World} {k i : Nat} {u : Value} {cs : Array Value} (h : PlS P Q G H sv bw w s out v10 W) (hk : bw < k) (hb : W.heap[k]? = some (.cells cs 35 (0, 0))) (h10 : v10.ownBlock ≠ some k) : PlS P Q G H sv bw w s out v10 (W.setCell ⟨k, i, none⟩ u) := by
  obtain ⟨h1, h2, ⟨KA, kc, h3, h4⟩, T, t1, t2, t3⟩ := h
  exact ⟨h1.setCell (p := ⟨k, i, none⟩) (by show w.heap.size ≤ k; omega) _, h2, ⟨KA, kc, (Below.heap_setCell _ _ _ _ (by show bw ≠ k; omega)).trans h3, Lw.own_setk h4 (Lw.own_other h4 hb (by decide))⟩, T, t1, fun t ht => Lw.own_setk (t2 t ht) (Lw.own_other (t2 t ht) hb (by decide)), Lw.own_setk t3 h10⟩
/-- a hop is told -/
theorem PlS.tell {P Q G H : Int} {sv : Value} {bw : Nat} {w : World} {s : Lw.Wy} {out : List (Int × List Int)} {v10 v' : Value} {wr W : World} {o : Obj} {r : Int × List Int} {vb : Value} {KA : Option Addr} {kc : Nat} {T : List Lw.Told} (h2 : w.heap.size ≤ bw) (h3 : WayB bw P Q G H sv (.slice KA s.keys.length kc) s.there s.home wr) (h4 : wr.ownsRow (bw + 1) 3 1 (.slice KA s.keys.length kc) s.keys.length (Lw.intsV .i64 s.keys))
    (t1 : Lw.toldOut T = out) (t2 : ∀ t ∈ T, wr.ownsRow (bw + 1) 5 1 t.2.2 t.2.1.length (Lw.intsV .u8 t.2.1)) (t3 : wr.ownsRow (bw + 1) 35 2 v10 out.length (Lw.toldV T)) (hbody : wr.ownsRow (bw + 1) 5 1 vb r.2.length (Lw.intsV .u8 r.2))
    (hB : Below w.heap.size w W) (hg : (wr.alloc o).grownBy W v10.ownBlock) (own : W.ownsRow (bw + 1) 35 2 v' (out.length + 1) (Lw.toldV T ++ [.int .i64 r.1, vb])) : PlS P Q G H sv bw w s (out ++ [r]) v' W := by
  have g0 := World.grownBy_alloc wr o none
  have hb3 := (hg.block bw (by simp; have := Lw.blk_lt h3; omega) (fun e => by have := (t3.lt bw e.symm).1; omega)).trans ((g0.block _ (Lw.blk_lt h3) (by simp)).trans h3)
  refine ⟨hB, h2, ⟨KA, kc, hb3, Lw.own_keep' (h4.alloc o) (t3.alloc o) (by decide) hg⟩, T ++ [(r.1, r.2, vb)], ?_, ?_, ?_⟩
  · unfold Lw.toldOut at *; rw [List.map_append, t1]; rfl
  · intro t ht
    rcases List.mem_append.1 ht with ht | ht
    · exact Lw.own_keep' ((t2 t ht).alloc o) (t3.alloc o) (by decide) hg
    · simp at ht; subst ht
      exact Lw.own_keep' (hbody.alloc o) (t3.alloc o) (by decide) hg
  · rw [Lw.toldV_app, List.length_append]
    exact own
theorem told_one (a : Int) {base e n : Nat} {w : World} {v : Value} {xs : List Value} (h : w.ownsRow base e 1 v n xs) : ∀ u ∈ [Value.int .i64 a, v], u.oneCell' = true := by
  intro u hu; simp at hu; rcases hu with rfl | rfl
  · rfl
  · exact Lw.own_one h
end Go.Proofs.Ytkjcpjbdckbjcaa
set_option linter.unusedVariables false
set_option linter.unusedSimpArgs false
namespace Go.Proofs.Ytkjcpjbdckbjcaa
open Go.RowKit
/-- what Play returns -/
def PlayR (out : List (Int × List Int)) (w : World) (x : Ending) (w' : World) : Prop := ∃ A c, x = .returned (.tuple #[.slice A out.length c, .int .i64 0]) ∧ TR w.heap.size out (.slice A out.length c) w' ∧ Below w.heap.size w w'
theorem told_base {b b' : Nat} {out : List (Int × List Int)} {v : Value} {w : World} (h : TR b out v w) (hb : b' ≤ b) : TR b' out v w := by
  obtain ⟨T, t1, t2, t3⟩ := h
  exact ⟨T, t1, fun t ht => Lw.ownsBase (t2 t ht) hb, Lw.ownsBase t3 hb⟩
theorem rl_ok {P Q G : Int} {ss : List Int} {L : List Lw.Hp} : ∀ k, k ≤ L.length → k ≤ 1000 → WyOk ss (Lw.rlRun P Q G ss (L.take k)).2 ∧ (Lw.rlRun P Q G ss (L.take k)).2.there ≤ k ∧ (Lw.rlRun P Q G ss (L.take k)).2.home ≤ k
  | 0, _, _ => ⟨⟨fun k h => by simp [Lw.rlRun] at h, by simp [Lw.rlRun], by simp [Lw.rlRun], by simp [Lw.rlRun]⟩, by simp [Lw.rlRun], by simp [Lw.rlRun]⟩
  | k + 1, h, h2 => by
    obtain ⟨ok, i1, i2⟩ := rl_ok (P := P) (Q := Q) (G := G) (ss := ss) (L := L) k (by omega) (by omega)
    rw [Lw.rl_take (by omega)]
    show WyOk ss (Lw.rlStep P Q G ss (Lw.rlRun P Q G ss (L.take k)).2 (L[k]'(by omega))).2 ∧ _ ∧ _
    generalize (Lw.rlRun P Q G ss (L.take k)).2 = s at *
    generalize L[k]'(by omega) = x at *
    obtain ⟨o1, o2, o3, o4⟩ := ok
    unfold Lw.rlStep
    split
    · split
      · exact ⟨⟨o1, o2, o3, o4⟩, by show s.there ≤ k + 1; omega, by show s.home ≤ k + 1; omega⟩
      · split
        · exact ⟨⟨o1, o2, o3, o4⟩, by show s.there ≤ k + 1; omega, by show s.home ≤ k + 1; omega⟩
        · refine ⟨⟨fun z hz => ?_, by rw [List.length_append]; show s.keys.length + 1 ≤ _; omega, o3, o4⟩, by show s.there ≤ k + 1; omega, by show s.home ≤ k + 1; omega⟩
          rcases List.mem_append.1 hz with hz | hz
          · exact o1 z hz
          · simp at hz; subst hz; exact Lw.hsum_bd _
    · split
      · split
        · exact ⟨⟨o1, o2, by show s.there + 1 ≤ 1000; omega, o4⟩, by show s.there + 1 ≤ k + 1; omega, by show s.home ≤ k + 1; omega⟩
        · exact ⟨⟨o1, o2, o3, o4⟩, by show s.there ≤ k + 1; omega, by show s.home ≤ k + 1; omega⟩
      · split
        · split
          · exact ⟨⟨o1, o2, o3, by show s.home + 1 ≤ 1000; omega⟩, by show s.there ≤ k + 1; omega, by show s.home + 1 ≤ k + 1; omega⟩
          · exact ⟨⟨o1, o2, o3, o4⟩, by show s.there ≤ k + 1; omega, by show s.home ≤ k + 1; omega⟩
        · exact ⟨⟨o1, o2, o3, o4⟩, by show s.there ≤ k + 1; omega, by show s.home ≤ k + 1; omega⟩
set_option maxRecDepth 100000 in
set_option maxHeartbeats 8000000 in
theorem relay_Play (P Q G H : Int) (SA : Option Addr) (sn sc : Nat) (ss : List Int) (A : Option Addr) (n c : Nat) (L : List Lw.Hp) (w : World) (hg : Lw.groupE P Q G H = 0) (RS : Lw.Rd w 1 SA sn (Lw.intsV .i64 ss)) (hs : ∀ s ∈ ss, 0 ≤ s ∧ s < Q) (hsn : sn ≤ 3) (R : Lw.Rd w 7 A n (Lw.hpsV L)) (hL : ∀ x ∈ L, x.ok w) (hn : n ≤ 100) :
    Calls Try.prog 6 #[.agg #[.int .i64 P, .int .i64 Q, .int .i64 G, .int .i64 H], .slice SA sn sc, .slice A n c] w (PlayR (Lw.rlRun P Q G ss L).1 w) := by
  have LL := Lib.hid (show L.length = n by have := R.1; rw [Lw.hpsV_length] at this; omega)
  have LS := Lib.hid (show ss.length = sn by have := RS.1; simpa [Lw.intsV] using this)
  have CK := Lib.hid (fun w => hg ▸ group_Check P Q G H w)
  have HG := Lib.hid hg
  have GX := Lib.hid ((Lw.groupE_ok hg).1)
  have oR : Lw.outR Q ss = false := by
    unfold Lw.outR
    rw [List.any_eq_false]
    intro x hx
    have := hs x hx
    simp; omega
  have q1 : ¬ (3 : Int) < (sn : Int) := by omega
  have q2 : ¬ (100 : Int) < (n : Int) := by omega
  have HS := Lib.hid hs
  have HL := Lib.hid hL
  have R := Lib.hid R
  have RS := Lib.hid RS
  clear hg hs hL
  go_enter Try.func6, Try.ntmps6
  go_wp2_with (go_at_call 12; (with_reducible refine (CK.out _).mono ?_); rintro e w1 ⟨rfl, hb1⟩)
  have hB1 : Below w.heap.size w w1 := Lw.bt (Lw.balloc (Below.refl _ _) _) hb1
  have hz1 := hb1.size
  simp at hz1
  have BG1 := (hb1.block w.heap.size (by simp)).trans (Lw.blk_new w _ _)
  have c0 := Lw.blk_cell BG1 0; have c1 := Lw.blk_cell BG1 1; have c2 := Lw.blk_cell BG1 2; have c3 := Lw.blk_cell BG1 3
  simp at c0 c1 c2 c3
  refine (rly_con SA sn sc w.heap.size Q ss w1 (RS.out.below (Nat.le_refl _) hB1) (by omega) c1).mono ?_
  rintro e w' ⟨rfl, rfl⟩
  rw [oR]
  go_wp2
  go_loopw [10, 36] (fun v10 i wr => ∃ k : Nat, i = .int .i64 (k : Int) ∧ k ≤ n ∧ PlS P Q G H (.slice SA sn sc) w1.heap.size w (Lw.rlRun P Q G ss (L.take k)).2 (Lw.rlRun P Q G ss (L.take k)).1 v10 wr) (fun _ i _ => n - (intOf i).toNat)
  case atStart =>
    refine ⟨0, rfl, by omega, Lw.balloc hB1 _, hB1.size, ⟨none, 0, Lw.blk_new _ _ _, World.ownsRow_nil _ _ _ _⟩, Lw.ToldR.nil _ _ _ _⟩
  case round =>
    obtain ⟨k, rfl, k1, PS⟩ := hrel
    by_cases hlt : k < n
    · have hlt' : (k : Int) < (n : Int) := by omega
      have hl : k < L.length := by rw [LL.out]; exact hlt
      have RT := Lib.hid (Lw.rl_take (P := P) (Q := Q) (G := G) (ss := ss) hl)
      have RL := Lib.hid (Lw.rl_len (P := P) (Q := Q) (G := G) (ss := ss) (L := L) k (by omega))
      have RO := Lib.hid (rl_ok (P := P) (Q := Q) (G := G) (ss := ss) (L := L) k (by omega) (by omega)).1
      obtain ⟨ad, rfl, had, h0, h1, h2, h3, h4, h5, h6⟩ := R.out.at7 hlt hl
      have hB := PS.1
      have rr : ∀ j, (⟨(ad.add (k * 7)).block, j, none⟩ : Addr).block < w.heap.size := fun j => by show (ad.add (k * 7)).block < _; rw [Lw.add_block]; exact had
      have r0 := (hB.cell (p := ad.add (k * 7)) (by rw [Lw.add_block]; exact had)).trans h0
      have r1 := (hB.cell (rr _)).trans h1; have r2 := (hB.cell (rr _)).trans h2; have r3 := (hB.cell (rr _)).trans h3; have r4 := (hB.cell (rr _)).trans h4; have r5 := (hB.cell (rr _)).trans h5; have r6 := (hB.cell (rr _)).trans h6
      have HOK := Lib.hid (HL.out _ (List.getElem_mem hl))
      have REL : Hid (∀ (v10 : Value) (wr' : World), PlS P Q G H (.slice SA sn sc) w1.heap.size w (Lw.rlRun P Q G ss (L.take (k + 1))).2 (Lw.rlRun P Q G ss (L.take (k + 1))).1 v10 wr' → ∃ k_1 : Nat, Value.int .i64 ((k : Int) + 1) = .int .i64 (k_1 : Int) ∧ k_1 ≤ n ∧ PlS P Q G H (.slice SA sn sc) w1.heap.size w (Lw.rlRun P Q G ss (L.take k_1)).2 (Lw.rlRun P Q G ss (L.take k_1)).1 v10 wr') :=
        fun _ _ h => ⟨k + 1, by go_num, by omega, h⟩
      rw [RT.out] at REL
      obtain ⟨x, hx⟩ : ∃ x, L[k] = x := ⟨_, rfl⟩
      rw [hx] at REL r0 r1 r2 r3 r4 r5 r6 HOK
      obtain ⟨⟨out, st⟩, hrr⟩ : ∃ y, Lw.rlRun P Q G ss (L.take k) = y := ⟨_, rfl⟩
      rw [hrr] at REL RL RO PS
      simp only at REL RL RO PS
      have HOL := Lib.hid (fun h => Lw.Hp.ok.lt (h := x) HOK.out h)
      obtain ⟨kd, kk, ll, hA, hn', hc', zs, lk, at', tn⟩ := x
      simp only at r0 r1 r2 r3 r4 r5 r6
      obtain ⟨W1, hW1⟩ : ∃ W1, (wr.alloc (.cells (HopC ⟨kd, kk, ll, hA, hn', hc', zs, lk, at', tn⟩) 33)).alloc (.cells #[.int .i64 6, .slice none 0 0] 35) = W1 := ⟨_, rfl⟩
      have bH : W1.heap[wr.heap.size]? = some (.cells (HopC ⟨kd, kk, ll, hA, hn', hc', zs, lk, at', tn⟩) 33 (0, 0)) := by rw [← hW1]; exact Lw.blk_alloc (Lw.blk_new _ _ _) _
      have bX : W1.heap[wr.heap.size + 1]? = some (.cells #[.int .i64 6, .slice none 0 0] 35 (0, 0)) := by rw [← hW1]; exact Lw.blk_new' (by simp) _ _
      have hz : W1.heap.size = wr.heap.size + 2 := by rw [← hW1]; simp
      have hbW : Below wr.heap.size wr W1 := by rw [← hW1]; exact Lw.balloc (Lw.balloc (Below.refl _ wr) _) _
      have PS1 := PS.below hbW
      have hlw := PS.lt
      have hsw := hB1.size
      have hne10 : u10.ownBlock ≠ some (wr.heap.size + 1) := fun e => by
        obtain ⟨_, _, _, T, _, _, t3⟩ := PS
        have := (t3.lt _ e).2; omega
      have hout : out.length ≤ 100 := by have := RL.out; omega
      have HW1 := Lib.hid hW1
      have PSH := Lib.hid PS1
      obtain ⟨KA, kc, PK1⟩ := PS1.2.2.1
      have hok1 : (Lw.Hp.mk kd kk ll hA hn' hc' zs lk at' tn).ok W1 := (HOK.out.below (Nat.le_refl _) PS1.1)
      have hss : ss.length ≤ 1000 := by have := LS.out; omega
      have d0 := Lw.blk_cell bH 0; have d1 := Lw.blk_cell bH 1; have d2 := Lw.blk_cell bH 2; have d3 := Lw.blk_cell bH 3; have d4 := Lw.blk_cell bH 4; have d5 := Lw.blk_cell bH 5; have d6 := Lw.blk_cell bH 6
      simp at d0 d1 d2 d3 d4 d5 d6
      clear hW1 RT hx hrr PS h0 h1 h2 h3 h4 h5 h6
      rcases (by omega : kd = 1 ∨ kd = 2 ∨ kd = 3 ∨ (¬ kd = 1 ∧ ¬ kd = 2 ∧ ¬ kd = 3)) with rfl | rfl | rfl | ⟨n1, n2, n3⟩
      · have SX := Lib.hid (step_extend P Q G H SA sn sc ss st ⟨1, kk, ll, hA, hn', hc', zs, lk, at', tn⟩ w1.heap.size (w1.heap.size + 1) KA kc W1 w PK1.1 PK1.2 (RS.out.below (Nat.le_refl _) PS1.1) HG.out HS.out RO.out hss (by omega) PS1.1 (by omega) rfl)
        obtain ⟨⟨⟨code, bd⟩, s'⟩, hst⟩ : ∃ y, Lw.rlStep P Q G ss st ⟨1, kk, ll, hA, hn', hc', zs, lk, at', tn⟩ = y := ⟨_, rfl⟩
        rw [hst] at SX REL
        simp only at SX REL
        go_wp2_with fail
        rw [HW1.out]
        refine SX.out.mono ?_
        rintro e w2 ⟨AB, cB, rfl, ownB, KA', kc', WB2, own2, F2⟩
        have BX2 := (F2.block (wr.heap.size + 1) (by omega) (by omega) (Lw.own_other PK1.2 bX (by decide))).trans bX
        have PS2 := PlS.step PS1.1 PS1.2.1 PK1.1 PK1.2 PS1.2.2.2 WB2 own2 F2
        have sz2 := F2.size
        have p1 := Lw.blk_cell BX2 1
        have f1 := Lw.blk_free BX2 1
        simp at p1
        have BX3 := Lw.blk_set_same BX2 1 (.slice AB bd.length cB)
        have p2 := Lw.blk_cell BX3 0
        have f2 := Lw.blk_free BX3 0
        have p4 := Lw.blk_cell (Lw.blk_set_same BX3 0 (.int .i64 code)) 1
        simp at p2 p4
        have p5 := Lw.blk_cell (Lw.blk_set_same BX3 0 (.int .i64 code)) 0
        simp at p5
        have PS3 := (PS2.px (i := 1) (u := .slice AB bd.length cB) (by omega) BX2 hne10).px (i := 0) (u := .int .i64 code) (by omega) BX3 hne10
        have OB3 := Lib.hid (Lw.own_setk (i := 0) (u := .int .i64 code) (Lw.own_setk (i := 1) (u := .slice AB bd.length cB) (Lw.ownsBase ownB (show w1.heap.size + 1 ≤ W1.heap.size by omega)) (Lw.own_other ownB BX2 (by decide))) (Lw.own_other (Lw.own_setk (i := 1) (u := .slice AB bd.length cB) ownB (Lw.own_other ownB BX2 (by decide))) BX3 (by decide)))
        obtain ⟨q1, q2, ⟨KA3, kc3, q3, q4⟩, T, t1, t2, t3⟩ := PS3
        have T3 := Lib.hid t3
        have Q1 := Lib.hid q1
        clear t3 q1 PS2 BX2 bX PK1
        go_wp2_with (at_builtin; refine Lw.wpList_app elHpd rfl _ _ rfl rfl (World.ownsRow.alloc T3.out _) rfl (by exact Lw.Rd.lit (Lw.blk_new' (by simp) _ _) rfl rfl) (told_one code OB3.out) (by omega) (Lw.balloc Q1.out _) (by omega) (by simp; omega) ?_; intro v3 w3 own3 hb3 hg3 _)
        go_roundw
        case rel => exact REL.out _ _ (PlS.tell q2 q3 q4 t1 t2 T3.out OB3.out hb3 hg3 own3)
        case measure => simp [intOf]; omega

      · have SX := Lib.hid (step_send P Q G H (.slice SA sn sc) ss st ⟨2, kk, ll, hA, hn', hc', zs, lk, at', tn⟩ w1.heap.size (w1.heap.size + 1) KA kc W1 PK1.1 PK1.2 RO.out hss hok1 (fun h0 ad e => by have := HOL.out h0 ad e; omega) rfl)
        obtain ⟨⟨⟨code, bd⟩, s'⟩, hst⟩ : ∃ y, Lw.rlStep P Q G ss st ⟨2, kk, ll, hA, hn', hc', zs, lk, at', tn⟩ = y := ⟨_, rfl⟩
        rw [hst] at SX REL
        simp only at SX REL
        go_wp2_with fail
        rw [HW1.out]
        refine SX.out.mono ?_
        rintro e w2 ⟨AB, cB, rfl, ownB, KA', kc', WB2, own2, F2⟩
        have BX2 := (F2.block (wr.heap.size + 1) (by omega) (by omega) (Lw.own_other PK1.2 bX (by decide))).trans bX
        have PS2 := PlS.step PS1.1 PS1.2.1 PK1.1 PK1.2 PS1.2.2.2 WB2 own2 F2
        have sz2 := F2.size
        have p1 := Lw.blk_cell BX2 1
        have f1 := Lw.blk_free BX2 1
        simp at p1
        have BX3 := Lw.blk_set_same BX2 1 (.slice AB bd.length cB)
        have p2 := Lw.blk_cell BX3 0
        have f2 := Lw.blk_free BX3 0
        have p4 := Lw.blk_cell (Lw.blk_set_same BX3 0 (.int .i64 code)) 1
        simp at p2 p4
        have p5 := Lw.blk_cell (Lw.blk_set_same BX3 0 (.int .i64 code)) 0
        simp at p5
        have PS3 := (PS2.px (i := 1) (u := .slice AB bd.length cB) (by omega) BX2 hne10).px (i := 0) (u := .int .i64 code) (by omega) BX3 hne10
        have OB3 := Lib.hid (Lw.own_setk (i := 0) (u := .int .i64 code) (Lw.own_setk (i := 1) (u := .slice AB bd.length cB) (Lw.ownsBase ownB (show w1.heap.size + 1 ≤ W1.heap.size by omega)) (Lw.own_other ownB BX2 (by decide))) (Lw.own_other (Lw.own_setk (i := 1) (u := .slice AB bd.length cB) ownB (Lw.own_other ownB BX2 (by decide))) BX3 (by decide)))
        obtain ⟨q1, q2, ⟨KA3, kc3, q3, q4⟩, T, t1, t2, t3⟩ := PS3
        have T3 := Lib.hid t3
        have Q1 := Lib.hid q1
        clear t3 q1 PS2 BX2 bX PK1
        go_wp2_with (at_builtin; refine Lw.wpList_app elHpd rfl _ _ rfl rfl (World.ownsRow.alloc T3.out _) rfl (by exact Lw.Rd.lit (Lw.blk_new' (by simp) _ _) rfl rfl) (told_one code OB3.out) (by omega) (Lw.balloc Q1.out _) (by omega) (by simp; omega) ?_; intro v3 w3 own3 hb3 hg3 _)
        go_roundw
        case rel => exact REL.out _ _ (PlS.tell q2 q3 q4 t1 t2 T3.out OB3.out hb3 hg3 own3)
        case measure => simp [intOf]; omega

      · have SX := Lib.hid (step_answer P Q G H (.slice SA sn sc) ss st ⟨3, kk, ll, hA, hn', hc', zs, lk, at', tn⟩ w1.heap.size (w1.heap.size + 1) KA kc W1 PK1.1 PK1.2 RO.out hss hok1 (fun h0 ad e => by have := HOL.out h0 ad e; omega) rfl)
        obtain ⟨⟨⟨code, bd⟩, s'⟩, hst⟩ : ∃ y, Lw.rlStep P Q G ss st ⟨3, kk, ll, hA, hn', hc', zs, lk, at', tn⟩ = y := ⟨_, rfl⟩
        rw [hst] at SX REL
        simp only at SX REL
        go_wp2_with fail
        rw [HW1.out]
        refine SX.out.mono ?_
        rintro e w2 ⟨AB, cB, rfl, ownB, KA', kc', WB2, own2, F2⟩
        have BX2 := (F2.block (wr.heap.size + 1) (by omega) (by omega) (Lw.own_other PK1.2 bX (by decide))).trans bX
        have PS2 := PlS.step PS1.1 PS1.2.1 PK1.1 PK1.2 PS1.2.2.2 WB2 own2 F2
        have sz2 := F2.size
        have p1 := Lw.blk_cell BX2 1
        have f1 := Lw.blk_free BX2 1
        simp at p1
        have BX3 := Lw.blk_set_same BX2 1 (.slice AB bd.length cB)
        have p2 := Lw.blk_cell BX3 0
        have f2 := Lw.blk_free BX3 0
        have p4 := Lw.blk_cell (Lw.blk_set_same BX3 0 (.int .i64 code)) 1
        simp at p2 p4
        have p5 := Lw.blk_cell (Lw.blk_set_same BX3 0 (.int .i64 code)) 0
        simp at p5
        have PS3 := (PS2.px (i := 1) (u := .slice AB bd.length cB) (by omega) BX2 hne10).px (i := 0) (u := .int .i64 code) (by omega) BX3 hne10
        have OB3 := Lib.hid (Lw.own_setk (i := 0) (u := .int .i64 code) (Lw.own_setk (i := 1) (u := .slice AB bd.length cB) (Lw.ownsBase ownB (show w1.heap.size + 1 ≤ W1.heap.size by omega)) (Lw.own_other ownB BX2 (by decide))) (Lw.own_other (Lw.own_setk (i := 1) (u := .slice AB bd.length cB) ownB (Lw.own_other ownB BX2 (by decide))) BX3 (by decide)))
        obtain ⟨q1, q2, ⟨KA3, kc3, q3, q4⟩, T, t1, t2, t3⟩ := PS3
        have T3 := Lib.hid t3
        have Q1 := Lib.hid q1
        clear t3 q1 PS2 BX2 bX PK1
        go_wp2_with (at_builtin; refine Lw.wpList_app elHpd rfl _ _ rfl rfl (World.ownsRow.alloc T3.out _) rfl (by exact Lw.Rd.lit (Lw.blk_new' (by simp) _ _) rfl rfl) (told_one code OB3.out) (by omega) (Lw.balloc Q1.out _) (by omega) (by simp; omega) ?_; intro v3 w3 own3 hb3 hg3 _)
        go_roundw
        case rel => exact REL.out _ _ (PlS.tell q2 q3 q4 t1 t2 T3.out OB3.out hb3 hg3 own3)
        case measure => simp [intOf]; omega

      · have hst : Lw.rlStep P Q G ss st ⟨kd, kk, ll, hA, hn', hc', zs, lk, at', tn⟩ = ((6, []), st) := by unfold Lw.rlStep; rw [if_neg n1, if_neg n2, if_neg n3]
        rw [hst] at REL
        simp only at REL
        have z1 : (kd == 1) = false := by simpa using n1
        have z2 : (kd == 2) = false := by simpa using n2
        have z3 : (kd == 3) = false := by simpa using n3
        obtain ⟨q1', q2', ⟨KA3, kc3, q3', q4'⟩, T, t1, t2, t3⟩ := PSH.out
        have p0 := Lw.blk_cell bX 0
        have p1 := Lw.blk_cell bX 1
        simp at p0 p1
        have T3 := Lib.hid t3
        have Q1 := Lib.hid q1'
        have OB3 : Hid (W1.ownsRow (w1.heap.size + 1) 5 1 (.slice none 0 0) 0 (Lw.intsV .u8 [])) := World.ownsRow_nil _ _ _ _
        clear t3 q1' PSH bX bH hbW PS1 PK1 hok1 p0 p1
        have eW := HW1.out
        subst eW
        go_wp2_with (at_builtin; refine Lw.wpList_app elHpd rfl _ _ rfl rfl (World.ownsRow.alloc T3.out _) rfl (by exact Lw.Rd.lit (Lw.blk_new' (by simp) _ _) rfl rfl) (told_one 6 OB3.out) (by omega) (Lw.balloc Q1.out _) (by omega) (by simp; omega) ?_; intro v3 w3 own3 hb3 hg3 _)
        go_roundw
        case rel => exact REL.out _ _ (PlS.tell q2' q3' q4' t1 t2 T3.out OB3.out hb3 hg3 own3)
        case measure => simp [intOf]; omega
    · -- END
      have hlt' : ¬ (k : Int) < (n : Int) := by omega
      have hk : L.take k = L := List.take_of_length_le (by rw [LL.out]; omega)
      rw [hk] at PS
      obtain ⟨b1, _, _, b5⟩ := PS
      have b6 := b5
      obtain ⟨T, _, _, t3⟩ := b6
      obtain ⟨A11, c11, rfl, _⟩ := Lw.ownsForm t3
      have B5 := Lib.hid b5
      clear b5 hk t3
      go_wp2
      go_ret2
      exact ⟨A11, c11, rfl, told_base B5.out (by have := hB1.size; omega), b1⟩
end Go.Proofs.Ytkjcpjbdckbjcaa
namespace Lw
open Go Go.RowKit
theorem hp_list {w : World} : ∀ {L : List (List Value)}, (∀ vs ∈ L, All2 [IsI .i64, IsI .i64, IsI .i64, IsS w [IsI .u8], IsI .i64, IsI .i64, IsI .u8] vs) → ∃ T : List Hp, T.length = L.length ∧ L.flatten = hpsV T ∧ ∀ x ∈ T, x.ok w
  | [], _ => ⟨[], rfl, rfl, by simp⟩
  | vs :: L, h => by
    obtain ⟨T, hl, hT, hw⟩ := hp_list (L := L) fun z hz => h z (by simp [hz])
    have h0 := h vs (by simp)
    cases h0 with | cons a0 h1 => cases h1 with | cons a1 h2 => cases h2 with | cons a2 h3 => cases h3 with | cons a3 h4 => cases h4 with | cons a4 h5 => cases h5 with | cons a5 h6 => cases h6 with | cons a6 h7 => cases h7 with | nil =>
      obtain ⟨n0, rfl, w0⟩ := a0
      obtain ⟨n1, rfl, w1⟩ := a1
      obtain ⟨n2, rfl, w2⟩ := a2
      obtain ⟨A, l, cp, rfl, hs⟩ := a3
      obtain ⟨n4, rfl, w4⟩ := a4
      obtain ⟨n5, rfl, w5⟩ := a5
      obtain ⟨n6, rfl, w6⟩ := a6
      obtain ⟨zs, hz⟩ := row_of hs
      have b6 := bounds_u8 w6
      refine ⟨⟨n0, n1, n2, A, l, cp, zs, n4, n5, n6⟩ :: T, by simp [hl], by simp [hT, hpsV, Hp.vs], fun t ht => ?_⟩
      simp at ht
      rcases ht with rfl | ht
      · exact ⟨hz.1, fun z hzz => by have := bounds_u8 (hz.2.2 z hzz); omega, by show 0 ≤ n6; omega, by show n6 < 256; omega⟩
      · exact hw t ht
theorem readC_len (key count : Int) (bs : List Int) : (readC key count bs).2.length ≤ 1000 := by
  unfold readC
  split
  · split
    · rename_i h
      have : (bs.getD 0 0).toNat ≤ 14 := by omega
      show ((bs.drop 1).take _).length ≤ 1000
      rw [List.length_take]; omega
    · simp
  · simp
theorem rl_body {P Q G : Int} {ss : List Int} {L : List Hp} : ∀ k, k ≤ L.length → ∀ r ∈ (rlRun P Q G ss (L.take k)).1, r.2.length ≤ 1000
  | 0, _, r, hr => by simp [rlRun] at hr
  | k + 1, h, r, hr => by
    rw [rl_take (by omega)] at hr
    rcases List.mem_append.1 hr with hr | hr
    · exact rl_body k (by omega) r hr
    · simp at hr
      subst hr
      unfold rlStep
      split
      · split
        · simp
        · split
          · simp
          · show (littleL _ 2).length ≤ 1000; rw [littleL_length]; omega
      · split
        · split
          · exact readC_len _ _ _
          · simp
        · split
          · split
            · exact readC_len _ _ _
            · simp
          · simp
end Lw
set_option linter.unusedVariables false
set_option linter.unusedSimpArgs false
namespace Go.Proofs.Ytkjcpjbdckbjcaa
open Go.RowKit
theorem play_group (P Q G H E : Int) (sv v : Value) (w : World) (hE : Lw.groupE P Q G H = E) (hn : (E != 0) = true) :
    Calls Try.prog 6 #[.agg #[.int .i64 P, .int .i64 Q, .int .i64 G, .int .i64 H], sv, v] w fun e w' => e = .returned (.tuple #[.slice none 0 0, .int .i64 E]) ∧ Below w.heap.size w w' := by
  have CK := Lib.hid (fun w => hE ▸ group_Check P Q G H w)
  clear hE
  go_enter Try.func6, Try.ntmps6
  go_wp2_with (go_at_call 12; (with_reducible refine (CK.out _).mono ?_); rintro e w1 ⟨rfl, hb1⟩)
  go_ret2
  exact ⟨rfl, by (repeat (first | exact Below.refl _ _ | refine Lw.bt ?_ (by assumption) | refine Lw.balloc ?_ _ | refine Lw.bdrewN ?_ _ | refine Below.drew ?_ | refine Lw.bset ?_ (by first | (simp; done) | (simp; omega) | omega) _))⟩
theorem play_large (P Q G H : Int) (SA : Option Addr) (sn sc : Nat) (A : Option Addr) (n c : Nat) (w : World) (hE : Lw.groupE P Q G H = 0) (h : 3 < sn ∨ 100 < n) :
    Calls Try.prog 6 #[.agg #[.int .i64 P, .int .i64 Q, .int .i64 G, .int .i64 H], .slice SA sn sc, .slice A n c] w fun e w' => e = .returned (.tuple #[.slice none 0 0, .int .i64 1]) ∧ Below w.heap.size w w' := by
  have CK := Lib.hid (fun w => hE ▸ group_Check P Q G H w)
  clear hE
  rcases (by omega : 3 < sn ∨ (¬ 3 < sn ∧ 100 < n)) with h1 | ⟨h1, h2⟩
  · have q1 : (3 : Int) < (sn : Int) := by omega
    clear h h1
    go_enter Try.func6, Try.ntmps6
    go_wp2_with (go_at_call 12; (with_reducible refine (CK.out _).mono ?_); rintro e w1 ⟨rfl, hb1⟩)
    go_ret2
    exact ⟨rfl, by (repeat (first | exact Below.refl _ _ | refine Lw.bt ?_ (by assumption) | refine Lw.balloc ?_ _ | refine Lw.bdrewN ?_ _ | refine Below.drew ?_ | refine Lw.bset ?_ (by first | (simp; done) | (simp; omega) | omega) _))⟩
  · have q1 : ¬ (3 : Int) < (sn : Int) := by omega
    have q2 : (100 : Int) < (n : Int) := by omega
    clear h h1 h2
    go_enter Try.func6, Try.ntmps6
    go_wp2_with (go_at_call 12; (with_reducible refine (CK.out _).mono ?_); rintro e w1 ⟨rfl, hb1⟩)
    go_ret2
    exact ⟨rfl, by (repeat (first | exact Below.refl _ _ | refine Lw.bt ?_ (by assumption) | refine Lw.balloc ?_ _ | refine Lw.bdrewN ?_ _ | refine Below.drew ?_ | refine Lw.bset ?_ (by first | (simp; done) | (simp; omega) | omega) _))⟩
theorem play_range (P Q G H : Int) (SA : Option Addr) (sn sc : Nat) (ss : List Int) (A : Option Addr) (n c : Nat) (w : World) (hE : Lw.groupE P Q G H = 0) (RS : Lw.Rd w 1 SA sn (Lw.intsV .i64 ss)) (h1 : sn ≤ 3) (h2 : n ≤ 100) (oR : Lw.outR Q ss = true) :
    Calls Try.prog 6 #[.agg #[.int .i64 P, .int .i64 Q, .int .i64 G, .int .i64 H], .slice SA sn sc, .slice A n c] w fun e w' => e = .returned (.tuple #[.slice none 0 0, .int .i64 2]) ∧ Below w.heap.size w w' := by
  have CK := Lib.hid (fun w => hE ▸ group_Check P Q G H w)
  have q1 : ¬ (3 : Int) < (sn : Int) := by omega
  have q2 : ¬ (100 : Int) < (n : Int) := by omega
  have RS := Lib.hid RS
  clear hE h2
  go_enter Try.func6, Try.ntmps6
  go_wp2_with (go_at_call 12; (with_reducible refine (CK.out _).mono ?_); rintro e w1 ⟨rfl, hb1⟩)
  have hB1 : Below w.heap.size w w1 := Lw.bt (Lw.balloc (Below.refl _ _) _) hb1
  have hz1 := hb1.size
  simp at hz1
  have BG1 := (hb1.block w.heap.size (by simp)).trans (Lw.blk_new w _ _)
  have c1 := Lw.blk_cell BG1 1
  simp at c1
  refine (rly_con SA sn sc w.heap.size Q ss w1 (RS.out.below (Nat.le_refl _) hB1) (by omega) c1).mono ?_
  rintro e w' ⟨rfl, rfl⟩
  rw [oR]
  go_wp2
  go_ret2
  exact ⟨rfl, hB1⟩
set_option maxHeartbeats 2000000 in
theorem ref_Hops (A B : Option Addr) (n c d b1 b2 : Nat) (out : List (Int × List Int)) (w : World) (T1 : TR b1 out (.slice A n c) w) (T2 : TR b2 out (.slice B n d) w) (hn : out.length = n) (hn2 : n ≤ 1000) (hb : ∀ r ∈ out, r.2.length ≤ 1000) :
    Calls Try.prog 10 #[.slice A n c, .slice B n d] w fun e w' => e = .returned (.bool true) ∧ Below w.heap.size w w' := by
  subst hn
  obtain ⟨S1, s1, s2, s3⟩ := T1
  obtain ⟨S2, u1, u2, u3⟩ := T2
  have l1 := Lib.hid (show S1.length = out.length by rw [← s1]; unfold Lw.toldOut; rw [List.length_map])
  have l2 := Lib.hid (show S2.length = out.length by rw [← u1]; unfold Lw.toldOut; rw [List.length_map])
  have R1 := Lib.hid (Lw.Rd.of_own s3)
  have R2 := Lib.hid (Lw.Rd.of_own u3)
  have HB := Lib.hid hb
  have O1 := Lib.hid s2
  have O2 := Lib.hid u2
  have E1 := Lib.hid s1
  have E2 := Lib.hid u1
  clear s1 s2 s3 u1 u2 u3 hb
  go_enter Try.func10, Try.ntmps10
  go_wp2
  go_loopw [5] (fun i wr => ∃ k : Nat, i = .int .i64 (k : Int) ∧ k ≤ out.length ∧ Below w.heap.size w wr) (fun i _ => out.length - (intOf i).toNat)
  case atStart => exact ⟨0, rfl, by omega, Below.refl _ _⟩
  case round =>
    obtain ⟨k, rfl, k1, hB⟩ := hrel
    by_cases hlt : k < out.length
    · have h1 : k < S1.length := by rw [l1.out]; exact hlt
      have h2 : k < S2.length := by rw [l2.out]; exact hlt
      have e1 : (S1[k].1, S1[k].2.1) = out[k] := by have := E1.out; subst this; simp [Lw.toldOut]
      have e2 : (S2[k].1, S2[k].2.1) = out[k] := by have := E2.out; simp only [← this]; simp [Lw.toldOut]
      obtain ⟨a1, rfl, ha1, c1, d1⟩ := (R1.out.below (Nat.le_refl _) hB).at2 hlt (Lw.toldV_get h1).1 (Lw.toldV_get h1).2
      obtain ⟨a2, rfl, ha2, c2, d2⟩ := (R2.out.below (Nat.le_refl _) hB).at2 hlt (Lw.toldV_get h2).1 (Lw.toldV_get h2).2
      have ow1 := Lw.ownsBelow (O1.out _ (List.getElem_mem h1)) (Nat.le_refl _) hB
      have ow2 := Lw.ownsBelow (O2.out _ (List.getElem_mem h2)) (Nat.le_refl _) hB
      have hbk := HB.out _ (List.getElem_mem hlt)
      obtain ⟨⟨x, bd⟩, hx⟩ : ∃ y, out[k] = y := ⟨_, rfl⟩
      rw [hx] at e1 e2 hbk
      obtain ⟨⟨x1, bd1, v1⟩, hx1⟩ : ∃ y, S1[k] = y := ⟨_, rfl⟩
      obtain ⟨⟨x2, bd2, v2⟩, hx2⟩ : ∃ y, S2[k] = y := ⟨_, rfl⟩
      rw [hx1] at e1 c1 d1 ow1
      rw [hx2] at e2 c2 d2 ow2
      simp only [Prod.mk.injEq] at e1 e2
      obtain ⟨rfl, rfl⟩ := e1
      obtain ⟨rfl, rfl⟩ := e2
      simp only at c1 d1 ow1 c2 d2 ow2 hbk
      obtain ⟨B1, q1, rfl, _⟩ := Lw.ownsForm ow1
      obtain ⟨B2, q2, rfl, _⟩ := Lw.ownsForm ow2
      have BY := Lib.hid (fun w R1 R2 => ref_Bytes B1 B2 bd2.length bd2.length q1 q2 bd2 bd2 w R1 R2 (by omega) (by omega))
      have RB1 := Lib.hid (Lw.Rd.of_own ow1)
      have RB2 := Lib.hid (Lw.Rd.of_own ow2)
      clear hx hx1 hx2 ow1 ow2 h1 h2
      have i0 : (0 : Int) ≤ (k : Int) := by omega
      have i1 : (k : Int) < (out.length : Int) := by omega
      have z1 : (x2 != x2) = false := by simp
      have g1 : (a1.add (k * 2)).block < wr.heap.size := by rw [Lw.add_block]; exact ha1
      have g2 : (a2.add (k * 2)).block < wr.heap.size := by rw [Lw.add_block]; exact ha2
      go_wp2
      refine wp_region_held_drew (S := Lw.Sm wr) (by kernel_rfl) (Lw.sm_drew wr) (fun hHeld => ?_)
      (refine Lw.take1 (i := 0) (v := ?_) rfl (by kernel_rfl) (by kernel_rfl) (by kernel_rfl) (fun _ _ _ h => h) (Or.inl ⟨by rfl, ?_⟩) (by assumption) ?_; rotate_left 1; (focus (intro wS hSw; obtain ⟨hS1, hS2, hS3, hS4⟩ := hSw; go_simp <;> with_reducible rfl)); (try simp only [Act.put, List.setIfInBounds_toArray, List.set_cons_zero, List.set_cons_succ]))
      (refine Lw.take1 (i := 1) (v := ?_) rfl (by kernel_rfl) (by kernel_rfl) (by kernel_rfl) (fun _ _ _ h => h) (Or.inl ⟨by rfl, ?_⟩) (by assumption) ?_; rotate_left 1; (focus (intro wS hSw; obtain ⟨hS1, hS2, hS3, hS4⟩ := hSw; go_simp <;> with_reducible rfl)); (try simp only [Act.put, List.setIfInBounds_toArray, List.set_cons_zero, List.set_cons_succ]))
      (refine Lw.take1 (i := 2) (v := ?_) rfl (by kernel_rfl) (by kernel_rfl) (by kernel_rfl) (fun _ _ _ h => h) (Or.inl ⟨by rfl, ?_⟩) (by assumption) ?_; rotate_left 1; (focus (intro wS hSw; obtain ⟨hS1, hS2, hS3, hS4⟩ := hSw; go_simp <;> with_reducible rfl)); (try simp only [Act.put, List.setIfInBounds_toArray, List.set_cons_zero, List.set_cons_succ]))
      (refine Lw.take1 (i := 3) (v := ?_) rfl (by kernel_rfl) (by kernel_rfl) (by kernel_rfl) (fun _ _ _ h => h) (Or.inl ⟨by rfl, ?_⟩) (by assumption) ?_; rotate_left 1; (focus (intro wS hSw; obtain ⟨hS1, hS2, hS3, hS4⟩ := hSw; go_simp <;> with_reducible rfl)); (try simp only [Act.put, List.setIfInBounds_toArray, List.set_cons_zero, List.set_cons_succ]))
      (refine Lw.take1 (i := 4) (v := ?_) rfl (by kernel_rfl) (by kernel_rfl) (by kernel_rfl) (fun _ _ _ h => h) (Or.inl ⟨by rfl, ?_⟩) (by assumption) ?_; rotate_left 1; (focus (intro wS hSw; obtain ⟨hS1, hS2, hS3, hS4⟩ := hSw; go_simp <;> with_reducible rfl)); (try simp only [Act.put, List.setIfInBounds_toArray, List.set_cons_zero, List.set_cons_succ]))
      (refine Lw.take1 (i := 5) (v := ?_) rfl (by kernel_rfl) (by kernel_rfl) (by kernel_rfl) (fun _ _ _ h => h) (Or.inl ⟨by rfl, ?_⟩) (by assumption) ?_; rotate_left 1; (focus (intro wS hSw; obtain ⟨hS1, hS2, hS3, hS4⟩ := hSw; go_simp <;> with_reducible rfl)); (try simp only [Act.put, List.setIfInBounds_toArray, List.set_cons_zero, List.set_cons_succ]))
      (refine Lw.take1 (i := 6) (v := ?_) rfl (by kernel_rfl) (by kernel_rfl) (by kernel_rfl) (fun _ _ _ h => h) (Or.inl ⟨by rfl, ?_⟩) (by assumption) ?_; rotate_left 1; (focus (intro wS hSw; obtain ⟨hS1, hS2, hS3, hS4⟩ := hSw; go_simp <;> with_reducible rfl)); (try simp only [Act.put, List.setIfInBounds_toArray, List.set_cons_zero, List.set_cons_succ]))
      (refine Lw.take1 (i := 7) (v := ?_) rfl (by kernel_rfl) (by kernel_rfl) (by kernel_rfl) (fun _ _ _ h => h) (Or.inl ⟨by rfl, ?_⟩) (by assumption) ?_; rotate_left 1; (focus (intro wS hSw; obtain ⟨hS1, hS2, hS3, hS4⟩ := hSw; go_simp <;> with_reducible rfl)); (try simp only [Act.put, List.setIfInBounds_toArray, List.set_cons_zero, List.set_cons_succ]))
      (refine Lw.take1 (i := 8) (v := ?_) rfl (by kernel_rfl) (by kernel_rfl) (by kernel_rfl) (fun _ _ _ h => h) (Or.inl ⟨by rfl, ?_⟩) (by assumption) ?_; rotate_left 1; (focus (intro wS hSw; obtain ⟨hS1, hS2, hS3, hS4⟩ := hSw; go_simp <;> with_reducible rfl)); (try simp only [Act.put, List.setIfInBounds_toArray, List.set_cons_zero, List.set_cons_succ]))
      (refine Lw.take1 (i := 9) (v := ?_) rfl (by kernel_rfl) (by kernel_rfl) (by kernel_rfl) (fun _ _ _ h => h) (Or.inl ⟨by rfl, ?_⟩) (by assumption) ?_; rotate_left 1; (focus (intro wS hSw; obtain ⟨hS1, hS2, hS3, hS4⟩ := hSw; go_simp <;> with_reducible rfl)); (try simp only [Act.put, List.setIfInBounds_toArray, List.set_cons_zero, List.set_cons_succ]))
      (refine Lw.take1 (i := 10) (v := ?_) rfl (by kernel_rfl) (by kernel_rfl) (by kernel_rfl) (fun _ _ _ h => h) (Or.inl ⟨by rfl, ?_⟩) (by assumption) ?_; rotate_left 1; (focus (intro wS hSw; obtain ⟨hS1, hS2, hS3, hS4⟩ := hSw; go_simp <;> with_reducible rfl)); (try simp only [Act.put, List.setIfInBounds_toArray, List.set_cons_zero, List.set_cons_succ]))
      (refine Lw.take1 (i := 11) (v := ?_) rfl (by kernel_rfl) (by kernel_rfl) (by kernel_rfl) (fun _ _ _ h => h) (Or.inl ⟨by rfl, ?_⟩) (by assumption) ?_; rotate_left 1; (focus (intro wS hSw; obtain ⟨hS1, hS2, hS3, hS4⟩ := hSw; go_simp <;> with_reducible rfl)); (try simp only [Act.put, List.setIfInBounds_toArray, List.set_cons_zero, List.set_cons_succ]))
      (refine Lw.take1 (i := 12) (v := ?_) rfl (by kernel_rfl) (by kernel_rfl) (by kernel_rfl) (fun _ _ _ h => h) (Or.inl ⟨by rfl, ?_⟩) (by assumption) ?_; rotate_left 1; (focus (intro wS hSw; obtain ⟨hS1, hS2, hS3, hS4⟩ := hSw; go_simp <;> with_reducible rfl)); (try simp only [Act.put, List.setIfInBounds_toArray, List.set_cons_zero, List.set_cons_succ]))
      (refine Lw.take1 (i := 13) (v := ?_) rfl (by kernel_rfl) (by kernel_rfl) (by kernel_rfl) (fun _ _ _ h => h) (Or.inl ⟨by rfl, ?_⟩) (by assumption) ?_; rotate_left 1; (focus (intro wS hSw; obtain ⟨hS1, hS2, hS3, hS4⟩ := hSw; go_simp <;> with_reducible rfl)); (try simp only [Act.put, List.setIfInBounds_toArray, List.set_cons_zero, List.set_cons_succ]))
      (refine Lw.take1 (i := 14) (v := ?_) rfl (by kernel_rfl) (by kernel_rfl) (by kernel_rfl) (fun _ _ _ h => h) (Or.inl ⟨by rfl, ?_⟩) (by assumption) ?_; rotate_left 1; (focus (intro wS hSw; obtain ⟨hS1, hS2, hS3, hS4⟩ := hSw; go_simp <;> with_reducible rfl)); (try simp only [Act.put, List.setIfInBounds_toArray, List.set_cons_zero, List.set_cons_succ]))
      (refine Lw.take1 (i := 15) (v := ?_) rfl (by kernel_rfl) (by kernel_rfl) (by kernel_rfl) (fun _ _ _ h => h) (Or.inl ⟨by rfl, ?_⟩) (by assumption) ?_; rotate_left 1; (focus (intro wS hSw; obtain ⟨hS1, hS2, hS3, hS4⟩ := hSw; go_simp <;> with_reducible rfl)); (try simp only [Act.put, List.setIfInBounds_toArray, List.set_cons_zero, List.set_cons_succ]))
      (refine Lw.take1 (i := 16) (v := ?_) rfl (by kernel_rfl) (by kernel_rfl) (by kernel_rfl) (fun _ _ _ h => h) (Or.inl ⟨by rfl, ?_⟩) (by assumption) ?_; rotate_left 1; (focus (intro wS hSw; obtain ⟨hS1, hS2, hS3, hS4⟩ := hSw; go_simp <;> with_reducible rfl)); (try simp only [Act.put, List.setIfInBounds_toArray, List.set_cons_zero, List.set_cons_succ]))
      (refine Lw.take1 (i := 17) (v := ?_) rfl (by kernel_rfl) (by kernel_rfl) (by kernel_rfl) (fun _ _ _ h => h) (Or.inl ⟨by rfl, ?_⟩) (by assumption) ?_; rotate_left 1; (focus (intro wS hSw; obtain ⟨hS1, hS2, hS3, hS4⟩ := hSw; go_simp <;> with_reducible rfl)); (try simp only [Act.put, List.setIfInBounds_toArray, List.set_cons_zero, List.set_cons_succ]))
      (refine Lw.take1 (i := 18) (v := ?_) rfl (by kernel_rfl) (by kernel_rfl) (by kernel_rfl) (fun _ _ _ h => h) (Or.inl ⟨by rfl, ?_⟩) (by assumption) ?_; rotate_left 1; (focus (intro wS hSw; obtain ⟨hS1, hS2, hS3, hS4⟩ := hSw; go_simp <;> with_reducible rfl)); (try simp only [Act.put, List.setIfInBounds_toArray, List.set_cons_zero, List.set_cons_succ]))
      (refine Lw.take1 (i := 19) (v := ?_) rfl (by kernel_rfl) (by kernel_rfl) (by kernel_rfl) (fun _ _ _ h => h) (Or.inl ⟨by rfl, ?_⟩) (by assumption) ?_; rotate_left 1; (focus (intro wS hSw; obtain ⟨hS1, hS2, hS3, hS4⟩ := hSw; go_simp <;> with_reducible rfl)); (try simp only [Act.put, List.setIfInBounds_toArray, List.set_cons_zero, List.set_cons_succ]))
      (refine Lw.take1 (i := 20) (v := ?_) rfl (by kernel_rfl) (by kernel_rfl) (by kernel_rfl) (fun _ _ _ h => h) (Or.inl ⟨by rfl, ?_⟩) (by assumption) ?_; rotate_left 1; (focus (intro wS hSw; obtain ⟨hS1, hS2, hS3, hS4⟩ := hSw; go_simp <;> with_reducible rfl)); (try simp only [Act.put, List.setIfInBounds_toArray, List.set_cons_zero, List.set_cons_succ]))
      (refine Lw.take1 (i := 21) (v := ?_) rfl (by kernel_rfl) (by kernel_rfl) (by kernel_rfl) (fun _ _ _ h => h) (Or.inl ⟨by rfl, ?_⟩) (by assumption) ?_; rotate_left 1; (focus (intro wS hSw; obtain ⟨hS1, hS2, hS3, hS4⟩ := hSw; go_simp <;> with_reducible rfl)); (try simp only [Act.put, List.setIfInBounds_toArray, List.set_cons_zero, List.set_cons_succ]))
      (refine wpAnyH_ready (rs := [22]) (by kernel_rfl) (by simp) ?_; refine Lw.cons1 (i := 22) rfl (fun K hK => ?_) AllReadyH.nil; go_simp; go_at_call 8; (with_reducible refine (BY.out _ RB1.out.drew RB2.out.drew).mono ?_); rintro e w3 ⟨rfl, hb3⟩; refine hK.out _ _ ?_ (fun hHeld => ?_); (focus exact Lw.sm_keep (Lw.sm_drew wr) hb3); clear hK K; (try simp only [Act.put, List.setIfInBounds_toArray, List.set_cons_zero, List.set_cons_succ]))
      (refine Lw.take1 (i := 23) (v := ?_) rfl (by kernel_rfl) (by kernel_rfl) (by kernel_rfl) (fun _ _ _ h => h) (Or.inl ⟨by rfl, ?_⟩) (by assumption) ?_; rotate_left 1; (focus (intro wS hSw; obtain ⟨hS1, hS2, hS3, hS4⟩ := hSw; go_simp <;> with_reducible rfl)); (try simp only [Act.put, List.setIfInBounds_toArray, List.set_cons_zero, List.set_cons_succ]))
      (refine Lw.take1 (i := 24) (v := ?_) rfl (by kernel_rfl) (by kernel_rfl) (by kernel_rfl) (fun _ _ _ h => h) (Or.inl ⟨by rfl, ?_⟩) (by assumption) ?_; rotate_left 1; (focus (intro wS hSw; obtain ⟨hS1, hS2, hS3, hS4⟩ := hSw; go_simp <;> with_reducible rfl)); (try simp only [Act.put, List.setIfInBounds_toArray, List.set_cons_zero, List.set_cons_succ]))
      refine wpAnyH_done (by kernel_rfl) ?_ _
      clear hHeld
      go_wp2
      go_roundw
      case rel => exact ⟨k + 1, by go_num, by omega, Lw.bt (Below.drew hB) hb3⟩
      case measure => simp [intOf]; omega
    · have i1 : ¬ (k : Int) < (out.length : Int) := by omega
      go_wp2
      go_ret
      exact ⟨rfl, hB⟩
end Go.Proofs.Ytkjcpjbdckbjcaa
set_option linter.unusedVariables false
namespace Lw
open Go Go.RowKit
theorem xorN_right {a b c : Nat} (h : a ^^^ c = b ^^^ c) : a = b := by
  have := congrArg (· ^^^ c) h
  simpa [Nat.xor_assoc] using this
theorem xorN_left {a b c : Nat} (h : c ^^^ a = c ^^^ b) : a = b := by
  rw [Nat.xor_comm c a, Nat.xor_comm c b] at h; exact xorN_right h
theorem mix_back {x : Nat} (hx : x < 65536) : (x ^^^ x / 128) ^^^ (x ^^^ x / 128) / 128 ^^^ (x ^^^ x / 128) / 16384 = x := by
  have e1 : ∀ y : Nat, y / 128 = y >>> 7 := fun y => by rw [Nat.shiftRight_eq_div_pow]
  have e2 : ∀ y : Nat, y / 16384 = y >>> 14 := fun y => by rw [Nat.shiftRight_eq_div_pow]
  rw [e2, e1, e1, Nat.shiftRight_xor_distrib, Nat.shiftRight_xor_distrib, ← Nat.shiftRight_add, ← Nat.shiftRight_add]
  have e3 : x >>> (7 + 14) = 0 := by rw [Nat.shiftRight_eq_div_pow]; omega
  have e4 : x >>> (7 + 7) = x >>> 14 := rfl
  rw [e3, e4, Nat.xor_zero, Nat.xor_assoc, Nat.xor_assoc (x >>> 7), Nat.xor_self, Nat.xor_zero, Nat.xor_assoc, Nat.xor_self, Nat.xor_zero]
theorem mul_back {u : Nat} (hu : u < 65536) : u * 40503 % 65536 * 30599 % 65536 = u := by
  rw [Nat.mod_mul_mod, Nat.mul_assoc, Nat.mul_mod, Nat.mod_eq_of_lt hu, show 40503 * 30599 % 65536 = 1 from rfl, Nat.mul_one, Nat.mod_eq_of_lt hu]
theorem hstepN_inj {u v : Nat} (hu : u < 65536) (hv : v < 65536) (h : (u * 40503 % 65536) ^^^ (u * 40503 % 65536 / 128) = (v * 40503 % 65536) ^^^ (v * 40503 % 65536 / 128)) : u = v := by
  have h1 := mix_back (x := u * 40503 % 65536) (by omega)
  have h2 := mix_back (x := v * 40503 % 65536) (by omega)
  rw [h] at h1
  have h3 : u * 40503 % 65536 = v * 40503 % 65536 := h1.symm.trans h2
  rw [← mul_back hu, h3, mul_back hv]
theorem hstepN_left {h h' b : Nat} (h1 : h < 65536) (h2 : h' < 65536) (hb : b < 256) (e : hstepN h b = hstepN h' b) : h = h' := by
  unfold hstepN at e
  exact xorN_right (hstepN_inj (Nat.xor_lt_two_pow (n := 16) (by omega) (by omega)) (Nat.xor_lt_two_pow (n := 16) (by omega) (by omega)) e)
theorem hstepN_right {h b b' : Nat} (h1 : h < 65536) (hb : b < 256) (hb' : b' < 256) (e : hstepN h b = hstepN h b') : b = b' := by
  unfold hstepN at e
  exact xorN_left (hstepN_inj (Nat.xor_lt_two_pow (n := 16) (by omega) (by omega)) (Nat.xor_lt_two_pow (n := 16) (by omega) (by omega)) e)
theorem xor_ne {x t : Nat} (ht : t ≠ 0) : x ^^^ t ≠ x := fun h => ht (xorN_left (c := x) (by rw [h, Nat.xor_zero]))
theorem hstep_left {h h' b : Int} (h1 : 0 ≤ h ∧ h < 65536) (h2 : 0 ≤ h' ∧ h' < 65536) (hb : 0 ≤ b ∧ b < 256) (e : hstep h b = hstep h' b) : h = h' := by
  obtain ⟨h, rfl⟩ := Int.eq_ofNat_of_zero_le h1.1
  obtain ⟨h', rfl⟩ := Int.eq_ofNat_of_zero_le h2.1
  obtain ⟨b, rfl⟩ := Int.eq_ofNat_of_zero_le hb.1
  rw [hstep_nat, hstep_nat] at e
  have := hstepN_left (h := h) (h' := h') (b := b) (by omega) (by omega) (by omega) (by omega)
  omega
theorem hstep_right {h b b' : Int} (h1 : 0 ≤ h ∧ h < 65536) (hb : 0 ≤ b ∧ b < 256) (hb' : 0 ≤ b' ∧ b' < 256) (e : hstep h b = hstep h b') : b = b' := by
  obtain ⟨h, rfl⟩ := Int.eq_ofNat_of_zero_le h1.1
  obtain ⟨b, rfl⟩ := Int.eq_ofNat_of_zero_le hb.1
  obtain ⟨b', rfl⟩ := Int.eq_ofNat_of_zero_le hb'.1
  rw [hstep_nat, hstep_nat] at e
  have := hstepN_right (h := h) (b := b) (b' := b') (by omega) (by omega) (by omega) (by omega)
  omega
theorem fold_left : ∀ (s : List Int), Byt s → ∀ {h h' : Int}, (0 ≤ h ∧ h < 65536) → (0 ≤ h' ∧ h' < 65536) → s.foldl hstep h = s.foldl hstep h' → h = h'
  | [], _, _, _, _, _, e => e
  | x :: s, hy, h, h', h1, h2, e => hstep_left h1 h2 (hy x (by simp)) (fold_left s (fun z hz => hy z (by simp [hz])) (hstep_bd _ _) (hstep_bd _ _) e)
theorem hsum_one {pre post : List Int} {x y : Int} (hpost : Byt post) (hx : 0 ≤ x ∧ x < 256) (hy : 0 ≤ y ∧ y < 256) (e : hsum (pre ++ x :: post) = hsum (pre ++ y :: post)) : x = y := by
  unfold hsum padL hsumL at e
  have hl : (pre ++ x :: post).length = (pre ++ y :: post).length := by simp
  rw [hl, List.append_assoc, List.append_assoc, List.cons_append, List.cons_append, List.foldl_append, List.foldl_append, List.foldl_cons, List.foldl_cons] at e
  exact hstep_right (hsumL_bd pre) hx hy (fold_left _ (hpost.app (littleL_byt _ _)) (hstep_bd _ _) (hstep_bd _ _) e)
theorem little2_inj {x y : Int} (hx : 0 ≤ x ∧ x < 65536) (hy : 0 ≤ y ∧ y < 65536) (e : littleL x 2 = littleL y 2) : x = y := by
  simp only [littleL, List.cons.injEq, and_true] at e
  omega
theorem xorI_ne {x t : Int} (hx : 0 ≤ x) (ht : 0 < t) : xorI x t ≠ x := by
  obtain ⟨x, rfl⟩ := Int.eq_ofNat_of_zero_le hx
  obtain ⟨t, rfl⟩ := Int.eq_ofNat_of_zero_le (show 0 ≤ t by omega)
  rw [xorI_nat]
  intro e
  exact xor_ne (x := x) (t := t) (by omega) (by omega)
theorem turn_split {a : Nat} {t : Int} {bs : List Int} (h : a < bs.length) : turnL a t bs = bs.take a ++ xorI bs[a] t :: bs.drop (a + 1) := by
  rw [turnL_set h, List.set_eq_take_append_cons_drop, if_pos h]
theorem self_split {a : Nat} {bs : List Int} (h : a < bs.length) : bs = bs.take a ++ bs[a] :: bs.drop (a + 1) := by
  rw [← List.drop_eq_getElem_cons h, List.take_append_drop]
/-- a text with a byte turned has another sum -/
theorem hsum_turn {pre bs : List Int} {a : Nat} {t : Int} (hb : Byt bs) (h : a < bs.length) (t0 : 0 < t) (t1 : t < 256) : hsum (pre ++ turnL a t bs) ≠ hsum (pre ++ bs) := by
  intro e
  have hx := hb _ (List.getElem_mem h)
  have e2 : hsum (pre ++ bs) = hsum ((pre ++ bs.take a) ++ bs[a] :: bs.drop (a + 1)) := by
    rw [List.append_assoc, ← self_split h]
  rw [turn_split h, e2, ← List.append_assoc] at e
  exact xorI_ne hx.1 t0 (hsum_one (fun z hz => hb z (List.mem_of_mem_drop hz)) (xorI_byte hx.1 hx.2 (by omega) t1) hx e)
theorem turn_app_left {a : Nat} {t : Int} {x y : List Int} (h : a < x.length) : turnL a t (x ++ y) = turnL a t x ++ y := by
  rw [turnL_set (by rw [List.length_append]; omega), turnL_set h, List.set_append_left _ _ h, List.getElem_append_left h]
theorem turn_app_right {a : Nat} {t : Int} {x y : List Int} (h : a < y.length) : turnL (x.length + a) t (x ++ y) = x ++ turnL a t y := by
  rw [turnL_set (by rw [List.length_append]; omega), turnL_set h, List.set_append_right _ _ (by omega), List.getElem_append_right (by omega)]
  simp
/-- a cell that was turned does not hold -/
theorem read_turned {key count : Int} {body : List Int} {a : Nat} {t : Int} (hl : body.length ≤ 14) (hb : Byt body) (ha : a < 17) (t0 : 0 < t) (t1 : t < 256) : readC key count (turnL a t (cellL key count body)) = (8, []) := by
  have l1 := cellH_length hl
  have l2 : (sumL key count (cellH body)).length = 2 := littleL_length _ _
  have by1 := cellH_byt hl hb
  refine readC_sum fun e => ?_
  unfold cellL at e
  by_cases h : a < 15
  · rw [turn_app_left (by omega), List.drop_append_of_le_length (by rw [turnL_length]; omega), List.drop_of_length_le (by rw [turnL_length]; omega), List.nil_append, List.take_append_of_le_length (by rw [turnL_length]; omega), List.take_of_length_le (by rw [turnL_length]; omega)] at e
    have e2 := little2_inj (hsum_bd _) (hsum_bd _) e
    exact hsum_turn by1 (by omega) t0 t1 e2.symm
  · obtain ⟨c, hc⟩ : ∃ c, a = (cellH body).length + c := ⟨a - 15, by omega⟩
    subst hc
    rw [turn_app_right (by omega), List.drop_append_of_le_length (by omega), List.drop_of_length_le (by omega), List.nil_append, List.take_append_of_le_length (by omega), List.take_of_length_le (by omega)] at e
    have hc2 : c < (sumL key count (cellH body)).length := by omega
    have e3 : (turnL c t (sumL key count (cellH body)))[c]'(by rw [turnL_length]; exact hc2) = (sumL key count (cellH body))[c] := by simp only [e]
    rw [turnL_get hc2, if_pos rfl] at e3
    exact xorI_ne (sumL_byt _ _ _ _ (List.getElem_mem hc2)).1 t0 e3
/-- what was made is read -/
theorem read_made {key count : Int} {body : List Int} (hl : body.length ≤ 14) : readC key count (cellL key count body) = (0, body) := by
  have l1 := cellH_length hl
  have hd : (cellL key count body).drop 15 = sumL key count ((cellL key count body).take 15) := by
    unfold cellL
    rw [List.drop_append_of_le_length (by omega), List.drop_of_length_le (by omega), List.nil_append, List.take_append_of_le_length (by omega), List.take_of_length_le (by omega)]
  have ht : (cellL key count body).take 15 = cellH body := by
    unfold cellL
    rw [List.take_append_of_le_length (by omega), List.take_of_length_le (by omega)]
  have hz : (((cellL key count body).take 15).drop (1 + body.length)).all (· == 0) = true := by
    rw [ht]
    unfold cellH
    rw [Nat.add_comm 1, List.drop_succ_cons, List.drop_append_of_le_length (by omega), List.drop_of_length_le (by omega), List.nil_append]
    simp
  rw [readC_ok hd (m := body.length) rfl hl hz]
  congr 1
  unfold cellL cellH
  rw [List.cons_append, List.drop_succ_cons, List.drop_zero, List.append_assoc, List.take_append_of_le_length (by omega), List.take_of_length_le (by omega)]
theorem rl_get {P Q G : Int} {ss : List Int} {L : List Hp} {k : Nat} (h : k < L.length) : ∀ n, n ≤ L.length → k < n → (rlRun P Q G ss (L.take n)).1[k]? = some (rlStep P Q G ss (rlRun P Q G ss (L.take k)).2 L[k]).1
  | 0, _, hk => by omega
  | n + 1, hn, hk => by
    rw [rl_take (by omega)]
    show (_ ++ [_])[k]? = _
    have hl := rl_len (P := P) (Q := Q) (G := G) (ss := ss) (L := L) n (by omega)
    by_cases e : k = n
    · subst e
      rw [List.getElem?_append_right (by omega), hl, Nat.sub_self]; rfl
    · rw [List.getElem?_append_left (by omega)]
      exact rl_get h n (by omega) (by omega)
/-- of how many relays a way is, behind a hop -/
theorem step_keys {P Q G : Int} {ss : List Int} {s : Wy} {h : Hp} : (rlStep P Q G ss s h).2.keys.length = if h.kd = 1 ∧ (rlStep P Q G ss s h).1.1 = 0 then s.keys.length + 1 else s.keys.length := by
  by_cases h1 : h.kd = 1
  · by_cases h2 : s.keys.length = ss.length
    · have e : rlStep P Q G ss s h = ((7, []), s) := by unfold rlStep; rw [if_pos h1, if_pos h2]
      rw [e, if_neg (by rintro ⟨_, h⟩; exact absurd (show (7 : Int) = 0 from h) (by decide))]
    · by_cases h3 : h.k < 0 ∨ Q ≤ h.k ∨ h.l < 0 ∨ Q ≤ h.l
      · have e : rlStep P Q G ss s h = ((2, []), s) := by unfold rlStep; rw [if_pos h1, if_neg h2, if_pos h3]
        rw [e, if_neg (by rintro ⟨_, h⟩; exact absurd (show (2 : Int) = 0 from h) (by decide))]
      · have e : rlStep P Q G ss s h = ((0, littleL (keyOf P G (ss.getD s.keys.length 0) h.k h.l) 2), { s with keys := s.keys ++ [keyOf P G (ss.getD s.keys.length 0) h.k h.l] }) := by unfold rlStep; rw [if_pos h1, if_neg h2, if_neg h3]
        rw [e, if_pos ⟨h1, rfl⟩]; simp
  · have e : (rlStep P Q G ss s h).2.keys = s.keys := by
      unfold rlStep
      rw [if_neg h1]
      split
      · split <;> rfl
      · split
        · split <;> rfl
        · rfl
    rw [e, if_neg (fun h => h1 h.1)]
/-- what is sent and not turned: the code, the body -/
theorem send_right {keys : List Int} {count : Int} {h : Hp} (hz : h.zs.length = h.n) (hb : Byt h.zs) (h14 : h.n ≤ 14) (ht : h.tn = 0) : sendC keys count h = (0, h.zs) := by
  unfold sendC
  rw [ht, turnL_zero (cellL_byt (by omega) hb)]
  exact read_made (by omega)
theorem step_right {P Q G : Int} {ss : List Int} {s : Wy} {h : Hp} (hz : h.zs.length = h.n) (hb : Byt h.zs) (hk : h.kd = 2 ∨ h.kd = 3) (ht : h.tn = 0) :
    (rlStep P Q G ss s h).1 = if s.keys.length = 0 then (7, []) else if 14 < h.n then (1, []) else (0, h.zs) := by
  have hE : wrongE s.keys.length h = if s.keys.length = 0 then 7 else if 14 < h.n then 1 else 0 := by
    unfold wrongE
    split
    · rfl
    · split
      · rfl
      · rw [if_neg (by simp [ht])]
  have h1 : ¬ h.kd = 1 := by omega
  unfold rlStep
  rw [if_neg h1]
  by_cases e1 : s.keys.length = 0
  · have hE2 : wrongE s.keys.length h = 7 := by rw [hE, if_pos e1]
    rw [if_pos e1]
    rcases hk with hk | hk
    · rw [if_pos hk, if_neg (by omega), hE2]
    · rw [if_neg (by omega), if_pos hk, if_neg (by omega), hE2]
  · by_cases e2 : 14 < h.n
    · have hE2 : wrongE s.keys.length h = 1 := by rw [hE, if_neg e1, if_pos e2]
      rw [if_neg e1, if_pos e2]
      rcases hk with hk | hk
      · rw [if_pos hk, if_neg (by omega), hE2]
      · rw [if_neg (by omega), if_pos hk, if_neg (by omega), hE2]
    · have hE2 : wrongE s.keys.length h = 0 := by rw [hE, if_neg e1, if_neg e2]
      rw [if_neg e1, if_neg e2]
      rcases hk with hk | hk
      · rw [if_pos hk, if_pos hE2, send_right hz hb (by omega) ht]
      · rw [if_neg (by omega), if_pos hk, if_pos hE2, send_right hz hb (by omega) ht]
/-- what is turned does not come out -/
theorem step_turned {P Q G : Int} {ss : List Int} {s : Wy} {h : Hp} (hz : h.zs.length = h.n) (hb : Byt h.zs) (hk : h.kd = 2 ∨ h.kd = 3) (ht : ¬ h.tn = 0) (t0 : 0 ≤ h.tn) (t1 : h.tn < 256) : ∃ E : Int, ¬ E = 0 ∧ (rlStep P Q G ss s h).1 = (E, []) := by
  have h1 : ¬ h.kd = 1 := by omega
  unfold rlStep
  rw [if_neg h1]
  by_cases hE : wrongE s.keys.length h = 0
  · have hE2 := hE
    unfold wrongE at hE2
    have n1 : ¬ s.keys.length = 0 := fun e => by rw [if_pos e] at hE2; cases hE2
    rw [if_neg n1] at hE2
    have n2 : ¬ 14 < h.n := fun e => by rw [if_pos e] at hE2; cases hE2
    rw [if_neg n2] at hE2
    have n3 : ¬ (¬ h.tn = 0 ∧ (h.lk < 0 ∨ (s.keys.length : Int) ≤ h.lk ∨ h.at' < 0 ∨ 17 ≤ h.at')) := fun e => by rw [if_pos e] at hE2; cases hE2
    have hr : ∀ count, sendC s.keys count h = (8, []) := fun count => read_turned (by omega) hb (by omega) (by omega) t1
    rcases hk with hk | hk
    · rw [if_pos hk, if_pos hE]; exact ⟨8, by decide, hr _⟩
    · rw [if_neg (by omega), if_pos hk, if_pos hE]; exact ⟨8, by decide, hr _⟩
  · rcases hk with hk | hk
    · rw [if_pos hk, if_neg hE]; exact ⟨_, hE, rfl⟩
    · rw [if_neg (by omega), if_pos hk, if_neg hE]; exact ⟨_, hE, rfl⟩
end Lw
