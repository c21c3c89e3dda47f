/- Tables: is a row bad? The least and the greatest of a row. -/
import Derived.Test.YteeicpfjmahmeaaTab
namespace Lw
open Go Go.RowKit
def Big (m n : Nat) : Prop := m < n
def Odd (m n : Nat) : Prop := n ≠ m
instance (m n : Nat) : Decidable (Big m n) := inferInstanceAs (Decidable (m < n))
instance (m n : Nat) : Decidable (Odd m n) := inferInstanceAs (Decidable (n ≠ m))
theorem Big.t {m n : Nat} (h : Big m n) : (m : Int) < (n : Int) := by unfold Big at h; omega
theorem Big.f {m n : Nat} (h : ¬ Big m n) : ¬ (m : Int) < (n : Int) := by unfold Big at h; omega
theorem Odd.t {m n : Nat} (h : Odd m n) : ((n : Int) == (m : Int)) = false := by unfold Odd at h; simp; omega
theorem Odd.f {m n : Nat} (h : ¬ Odd m n) : ((n : Int) == (m : Int)) = true := by unfold Odd at h; simp; omega
theorem big16t {n : Nat} (h : Big 16 n) : (16 : Int) < (n : Int) := h.t
theorem big16f {n : Nat} (h : ¬ Big 16 n) : ¬ (16 : Int) < (n : Int) := Big.f h
theorem odd16t {n : Nat} (h : Odd 16 n) : ((n : Int) == (16 : Int)) = false := h.t
theorem odd16f {n : Nat} (h : ¬ Odd 16 n) : ((n : Int) == (16 : Int)) = true := Odd.f h
/-- what IndexFunc returns -/
def IdxT (b : Bool) (w : World) (e : Ending) (w' : World) : Prop := ∃ r : Int, e = .returned (.int .i64 r) ∧ w = w' ∧ ((b = false ∧ r = -1) ∨ (b = true ∧ 0 ≤ r))
theorem IdxT.ge {b : Bool} {r : Int} (h : (b = false ∧ r = -1) ∨ (b = true ∧ 0 ≤ r)) : decide (0 ≤ r) = b := by rcases h with ⟨rfl, rfl⟩ | ⟨rfl, h⟩ <;> simp_all
/-- what Min and Max return -/
def MinP (zs : List Int) (w : World) (e : Ending) (w' : World) : Prop := ∃ m : Int, e = .returned (.int .i64 m) ∧ w = w' ∧ m ∈ zs ∧ ∀ z ∈ zs, m ≤ z
def MaxP (zs : List Int) (w : World) (e : Ending) (w' : World) : Prop := ∃ m : Int, e = .returned (.int .i64 m) ∧ w = w' ∧ m ∈ zs ∧ ∀ z ∈ zs, z ≤ m
/-- a row with a number out of bounds -/
def outR (m : Int) (zs : List Int) : Bool := zs.any (fun x => decide (x < 0) || decide (m ≤ x))
theorem outR_min {zs : List Int} {m a : Int} (h : a ∈ zs) (h0 : a < 0) : outR m zs = true := List.any_eq_true.2 ⟨a, h, by simp [h0]⟩
theorem outR_max {zs : List Int} {m a : Int} (h : a ∈ zs) (h0 : m ≤ a) : outR m zs = true := List.any_eq_true.2 ⟨a, h, by simp [h0]⟩
theorem outR_no {zs : List Int} {m a b : Int} (h : ∀ z ∈ zs, a ≤ z) (h0 : ¬ a < 0) (h' : ∀ z ∈ zs, z ≤ b) (h1 : ¬ m ≤ b) : outR m zs = false := by
  rw [Bool.eq_false_iff]; intro e
  obtain ⟨z, hz, e⟩ := List.any_eq_true.1 e
  have := h z hz; have := h' z hz
  simp at e; omega
theorem mem_take_succ {zs : List Int} {k : Nat} (h : k < zs.length) {z : Int} : z ∈ zs.take (k + 1) ↔ z ∈ zs.take k ∨ z = zs[k] := by
  rw [List.take_succ_eq_append_getElem h, List.mem_append, List.mem_singleton]
end Lw
set_option linter.unusedVariables false
set_option linter.unusedSimpArgs false
namespace Go.Proofs.Yteeicpfjmahmeaa
open Go.RowKit
set_option maxHeartbeats 1000000 in
theorem idx_pad1 (A : Option Addr) (n c : Nat) (T : List Lw.TRow) (w : World) (h : Lw.Tab .i64 w A n T) (hn : n ≤ 1048576)  :
    Calls Try.prog 57 #[.slice A n c, .func (.func 40) #[] #[]] w (Lw.IdxT (T.any (fun r => decide (Lw.Big 16 r.n))) w) := by
  (try subst hA)
  have H := Lib.hid h
  clear h
  go_enter Try.func57, Try.ntmps57
  go_wp2
  go_loop [5, 8] (fun x i => ∃ k : Nat, i = .int .i64 (k : Int) ∧ k ≤ n ∧ Hid ((T.take k).any (fun r => decide (Lw.Big 16 r.n)) = false)) (fun _ i => n - (intOf i).toNat)
  case atStart => exact ⟨0, rfl, by omega, rfl⟩
  case round =>
    obtain ⟨k, rfl, k1, TK⟩ := hrel
    by_cases hlt : k < n
    · obtain ⟨hl, ad, hAd, had, hcell, _⟩ := H.out.at_ hlt
      first | subst hAd | (injection hAd with hAd; subst hAd)
      have N := Lib.hid (Lw.any_take hl TK.out)
      have D := Lib.hid (Lw.any_at (p := fun r : Lw.TRow => decide (Lw.Big 16 r.n)) hl)
      obtain ⟨⟨rA, rn, rc, rzs⟩, hr⟩ : ∃ r, T[k] = r := ⟨_, rfl⟩
      rw [hr] at hcell N D
      clear hr
      simp only at hcell
      by_cases h0 : Lw.Big 16 rn
      · have D1 := Lib.hid (D.out (by simpa using h0))
        have f0 := Lw.big16t h0
        clear N D h0
        go_wp2
        go_ret
        exact ⟨_, rfl, rfl, .inr ⟨D1.out, by omega⟩⟩
      · have N1 := Lib.hid (N.out (by simpa using h0))
        have f0 := Lw.big16f h0
        clear N D h0
        go_wp2
        go_round
        case rel => exact ⟨k + 1, by go_num, by omega, N1⟩
        case measure => simp [intOf]; omega
    · have hk : T.take k = T := List.take_of_length_le (by rw [H.out.len]; omega)
      have E : Hid (T.any (fun r => decide (Lw.Big 16 r.n)) = false) := by have := TK.out; rwa [hk] at this
      clear hk
      go_wp2
      go_ret
      exact ⟨_, rfl, rfl, .inl ⟨E.out, rfl⟩⟩

set_option maxHeartbeats 1000000 in
theorem idx_pad2 (A : Option Addr) (n c : Nat) (T : List Lw.TRow) (w : World) (h : Lw.Tab .i64 w A n T) (hn : n ≤ 1048576) (b m : Nat) (A0 : Option Addr) (c0 : Nat) (ad0 : Addr) (hA : A = some ad0) (hb : w.cell? ⟨b, 0, none⟩ = some (.slice A n c)) (hc0 : w.cell? ad0 = some (.slice A0 m c0)) (hn0 : 0 < n) :
    Calls Try.prog 57 #[.slice A n c, .func (.func 41) #[] #[.pointer (some ⟨b, 0, none⟩)]] w (Lw.IdxT (T.any (fun r => decide (Lw.Odd m r.n))) w) := by
  (try subst hA)
  have H := Lib.hid h
  clear h
  go_enter Try.func57, Try.ntmps57
  go_wp2
  go_loop [5, 8] (fun x i => ∃ k : Nat, i = .int .i64 (k : Int) ∧ k ≤ n ∧ Hid ((T.take k).any (fun r => decide (Lw.Odd m r.n)) = false)) (fun _ i => n - (intOf i).toNat)
  case atStart => exact ⟨0, rfl, by omega, rfl⟩
  case round =>
    obtain ⟨k, rfl, k1, TK⟩ := hrel
    by_cases hlt : k < n
    · obtain ⟨hl, ad, hAd, had, hcell, _⟩ := H.out.at_ hlt
      first | subst hAd | (injection hAd with hAd; subst hAd)
      have N := Lib.hid (Lw.any_take hl TK.out)
      have D := Lib.hid (Lw.any_at (p := fun r : Lw.TRow => decide (Lw.Odd m r.n)) hl)
      obtain ⟨⟨rA, rn, rc, rzs⟩, hr⟩ : ∃ r, T[k] = r := ⟨_, rfl⟩
      rw [hr] at hcell N D
      clear hr
      simp only at hcell
      by_cases h0 : Lw.Odd m rn
      · have D1 := Lib.hid (D.out (by simpa using h0))
        have f0 := Lw.Odd.t h0
        clear N D h0
        go_wp2
        go_ret
        exact ⟨_, rfl, rfl, .inr ⟨D1.out, by omega⟩⟩
      · have N1 := Lib.hid (N.out (by simpa using h0))
        have f0 := Lw.Odd.f h0
        clear N D h0
        go_wp2
        go_round
        case rel => exact ⟨k + 1, by go_num, by omega, N1⟩
        case measure => simp [intOf]; omega
    · have hk : T.take k = T := List.take_of_length_le (by rw [H.out.len]; omega)
      have E : Hid (T.any (fun r => decide (Lw.Odd m r.n)) = false) := by have := TK.out; rwa [hk] at this
      clear hk
      go_wp2
      go_ret
      exact ⟨_, rfl, rfl, .inl ⟨E.out, rfl⟩⟩

set_option maxHeartbeats 1000000 in
theorem idx_fei (A : Option Addr) (n c : Nat) (T : List Lw.TRow) (w : World) (h : Lw.Tab .i64 w A n T) (hn : n ≤ 1048576)  :
    Calls Try.prog 57 #[.slice A n c, .func (.func 58) #[] #[]] w (Lw.IdxT (T.any (fun r => decide (Lw.Odd 16 r.n))) w) := by
  (try subst hA)
  have H := Lib.hid h
  clear h
  go_enter Try.func57, Try.ntmps57
  go_wp2
  go_loop [5, 8] (fun x i => ∃ k : Nat, i = .int .i64 (k : Int) ∧ k ≤ n ∧ Hid ((T.take k).any (fun r => decide (Lw.Odd 16 r.n)) = false)) (fun _ i => n - (intOf i).toNat)
  case atStart => exact ⟨0, rfl, by omega, rfl⟩
  case round =>
    obtain ⟨k, rfl, k1, TK⟩ := hrel
    by_cases hlt : k < n
    · obtain ⟨hl, ad, hAd, had, hcell, _⟩ := H.out.at_ hlt
      first | subst hAd | (injection hAd with hAd; subst hAd)
      have N := Lib.hid (Lw.any_take hl TK.out)
      have D := Lib.hid (Lw.any_at (p := fun r : Lw.TRow => decide (Lw.Odd 16 r.n)) hl)
      obtain ⟨⟨rA, rn, rc, rzs⟩, hr⟩ : ∃ r, T[k] = r := ⟨_, rfl⟩
      rw [hr] at hcell N D
      clear hr
      simp only at hcell
      by_cases h0 : Lw.Odd 16 rn
      · have D1 := Lib.hid (D.out (by simpa using h0))
        have f0 := Lw.odd16t h0
        clear N D h0
        go_wp2
        go_ret
        exact ⟨_, rfl, rfl, .inr ⟨D1.out, by omega⟩⟩
      · have N1 := Lib.hid (N.out (by simpa using h0))
        have f0 := Lw.odd16f h0
        clear N D h0
        go_wp2
        go_round
        case rel => exact ⟨k + 1, by go_num, by omega, N1⟩
        case measure => simp [intOf]; omega
    · have hk : T.take k = T := List.take_of_length_le (by rw [H.out.len]; omega)
      have E : Hid (T.any (fun r => decide (Lw.Odd 16 r.n)) = false) := by have := TK.out; rwa [hk] at this
      clear hk
      go_wp2
      go_ret
      exact ⟨_, rfl, rfl, .inl ⟨E.out, rfl⟩⟩

end Go.Proofs.Yteeicpfjmahmeaa
