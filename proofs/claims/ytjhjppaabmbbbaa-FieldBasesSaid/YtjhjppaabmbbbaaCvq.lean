/- Modulo a polynomial that is no product there are no zero divisors, and few roots (plain). -/
import Derived.Test.YtjhjppaabmbbbaaCvp
namespace Lw
theorem Eqf.scale {p : Int} {f a b : Nat → Int} (k : Int) (h : Eqf p f a b) : Eqf p f (fun i => k * a i) (fun i => k * b i) := by
  obtain ⟨q, N, hq, h⟩ := h
  refine ⟨fun i => k * q i, N, hq.scale k, fun i => ?_⟩
  rw [cv_mul_l]
  obtain ⟨z, hz⟩ := h i
  exact ⟨k * z, by show k * a i - k * b i - _ = _; rw [show p * (k * z) = k * (p * z) by grind, ← hz, Int.mul_sub, Int.mul_sub]⟩
theorem top_not {P : Nat → Prop} : ∀ m, (∃ i, i < m ∧ P i) → ∃ k, k < m ∧ P k ∧ ∀ j, k < j → j < m → ¬ P j
  | 0, ⟨i, hi, _⟩ => by omega
  | m + 1, ⟨i, hi, hp⟩ => by
    by_cases h : P m
    · exact ⟨m, by omega, h, fun j h1 h2 => by omega⟩
    · have him : i ≠ m := fun e => h (e ▸ hp)
      obtain ⟨k, k1, k2, k3⟩ := top_not m ⟨i, by omega, hp⟩
      refine ⟨k, by omega, k2, fun j h1 h2 => ?_⟩
      by_cases e : j = m
      · subst e; exact h
      · exact k3 j h1 (by omega)
/-- no product of two of a degree from 1 on -/
def Irr (p : Int) (f : Nat → Int) (d : Nat) : Prop := ∀ (m : Nat) (a q : Nat → Int) (N : Nat), Fs (m + 1) a → 1 ≤ m → m < d → ¬ p ∣ a m → Fs N q → ¬ ∀ i, p ∣ f i - cv i q a
def zf : Nat → Int := fun _ => 0
theorem cv_zf (i : Nat) (a : Nat → Int) : cv i zf a = 0 := cv_zero_l a i _ fun _ => rfl
theorem cv_zf' (i : Nat) (a : Nat → Int) : cv i a zf = 0 := by rw [cv_comm, cv_zf]
theorem eqf_mul_zero {p : Int} {f a b : Nat → Int} {M : Nat} (hb : Fs M b) (h : Eqf p f a zf) : Eqf p f (fun i => cv i a b) zf := by
  have := h.mul_r hb
  rwa [show (fun i => cv i zf b) = zf from funext fun i => cv_zf i b] at this
theorem eqf_f {p : Int} {f b : Nat → Int} {M : Nat} (hb : Fs M b) : Eqf p f (fun i => cv i f b) zf :=
  ⟨b, M, hb, fun i => by show p ∣ cv i f b - (0 : Int) - cv i b f; rw [cv_comm i f b]; exact ⟨0, by omega⟩⟩
theorem fs_cut {p : Int} {f r : Nat → Int} {m : Nat} (h : ∀ j, m < j → p ∣ r j) : Eqf p f (fun i => if i ≤ m then r i else 0) r := .of_mod fun i => by
  by_cases hi : i ≤ m
  · rw [if_pos hi]; exact ⟨0, by omega⟩
  · rw [if_neg hi]
    obtain ⟨z, hz⟩ := h i (by omega)
    exact ⟨-z, by rw [Int.mul_neg, ← hz]; omega⟩
theorem nzd {p : Int} {f : Nat → Int} {d : Nat} (hu : ∀ x, ¬ p ∣ x → ∃ u, p ∣ u * x - 1) (hI : Irr p f d) (hf : Fs (d + 1) f) : ∀ (m : Nat) (a : Nat → Int), Fs (m + 1) a → ¬ p ∣ a m → m < d → ∀ (b : Nat → Int) (N : Nat), Fs N b → Eqf p f (fun i => cv i a b) zf → Eqf p f b zf := by
  intro m
  induction m using Nat.strongRecOn with
  | ind m ih =>
    intro a ha ham hmd b N hb h
    obtain ⟨u, hua⟩ := hu _ ham
    rcases Nat.eq_zero_or_pos m with h0 | h0
    · subst h0
      have e : ∀ i, cv i a b = a 0 * b i := fun i => by
        have : a = mono 0 (a 0) := funext fun j => by
          unfold mono
          by_cases hj : j = 0
          · rw [if_pos hj, hj]
          · rw [if_neg hj]; exact ha j (by omega)
        rw [this, cv_mono, if_pos (Nat.zero_le _)]; unfold mono; simp
      have h1 := h.scale u
      rw [show (fun i => u * zf i) = zf from funext fun i => by show u * (0 : Int) = 0; omega] at h1
      refine Eqf.trans (.of_mod fun i => ?_) h1
      rw [e]
      obtain ⟨z, hz⟩ := hua
      exact ⟨-(z * b i), by have : b i - u * (a 0 * b i) = -((u * a 0 - 1) * b i) := by grind
                            rw [this, hz]; grind⟩
    · obtain ⟨q, r, M, hq, hr, hd⟩ := fs_div ha hua (d + 1) f hf
      by_cases hall : ∀ i, p ∣ r i
      · exfalso
        refine hI m a q M ha h0 hmd ham hq fun i => ?_
        obtain ⟨z, hz⟩ := hd i
        obtain ⟨y, hy⟩ := hall i
        exact ⟨z + y, by rw [Int.mul_add, ← hz, ← hy]; omega⟩
      · obtain ⟨i, hi⟩ := Classical.not_forall.1 hall
        have him : i < m := by
          rcases Nat.lt_or_ge i m with h1 | h1
          · exact h1
          · exact absurd (by rw [hr i h1]; exact ⟨0, by omega⟩) hi
        obtain ⟨k, k1, k2, k3⟩ := top_not (P := fun i => ¬ p ∣ r i) m ⟨i, him, hi⟩
        have hk : ∀ j, k < j → p ∣ r j := fun j hj => by
          rcases Nat.lt_or_ge j m with h1 | h1
          · exact Classical.not_not.1 (k3 j hj h1)
          · rw [hr j h1]; exact ⟨0, by omega⟩
        refine ih k k1 (fun i => if i ≤ k then r i else 0) (fun j hj => if_neg (by omega)) (by rw [if_pos (Nat.le_refl _)]; exact k2) (by omega) b N hb ?_
        refine ((fs_cut hk).mul_r hb).trans ?_
        -- r is f less q a
        have e1 : Eqf p f r (fun i => f i - cv i q a) := .of_mod fun i => by
          obtain ⟨z, hz⟩ := hd i
          exact ⟨-z, by rw [Int.mul_neg, ← hz]; omega⟩
        refine (e1.mul_r hb).trans ?_
        have e2 : (fun i => cv i (fun j => f j - cv j q a) b) = fun i => cv i f b - cv i (fun j => cv j a b) q := funext fun i => by
          rw [cv_sub_l, cv_assoc, cv_comm i q]
        rw [e2]
        have := (eqf_f (p := p) (f := f) hb).sub (eqf_mul_zero hq h)
        rwa [show (fun i => zf i - zf i) = zf from funext fun i => by show (0 : Int) - 0 = 0; rfl] at this
theorem eqf_short {p : Int} {f : Nat → Int} {d : Nat} (hf : Fs (d + 1) f) (h1 : f d = 1) {N : Nat} {a : Nat → Int} (ha : Fs N a) : ∃ r, Fs d r ∧ Eqf p f a r := by
  obtain ⟨q, r, M, hq, hr, hd⟩ := fs_div (p := p) hf (u := 1) (by rw [h1]; exact ⟨0, by omega⟩) N a ha
  exact ⟨r, hr, q, M, hq, fun i => by obtain ⟨z, hz⟩ := hd i; exact ⟨z, by omega⟩⟩
theorem no_zero {p : Int} {f : Nat → Int} {d : Nat} (hu : ∀ x, ¬ p ∣ x → ∃ u, p ∣ u * x - 1) (hI : Irr p f d) (hf : Fs (d + 1) f) (h1 : f d = 1) {N M : Nat} {a b : Nat → Int} (ha : Fs N a) (hb : Fs M b) (h : Eqf p f (fun i => cv i a b) zf) : Eqf p f a zf ∨ Eqf p f b zf := by
  obtain ⟨r, hr, har⟩ := eqf_short (p := p) hf h1 ha
  by_cases hall : ∀ i, p ∣ r i
  · exact .inl (har.trans (.of_mod fun i => by obtain ⟨z, hz⟩ := hall i; exact ⟨z, by show r i - 0 = _; omega⟩))
  · obtain ⟨i, hi⟩ := Classical.not_forall.1 hall
    have hid : i < d := by
      rcases Nat.lt_or_ge i d with h1 | h1
      · exact h1
      · exact absurd (by rw [hr i h1]; exact ⟨0, by omega⟩) hi
    obtain ⟨k, k1, k2, k3⟩ := top_not (P := fun i => ¬ p ∣ r i) d ⟨i, hid, hi⟩
    have hk : ∀ j, k < j → p ∣ r j := fun j hj => by
      rcases Nat.lt_or_ge j d with h1 | h1
      · exact Classical.not_not.1 (k3 j hj h1)
      · rw [hr j h1]; exact ⟨0, by omega⟩
    refine .inr (nzd hu hI hf k (fun i => if i ≤ k then r i else 0) (fun j hj => if_neg (by omega)) (by rw [if_pos (Nat.le_refl _)]; exact k2) k1 b M hb ?_)
    exact (((fs_cut hk).trans har.symm).mul_r hb).trans h
/-- polynomials whose numbers are sequences -/
def evR : List (Nat → Int) → (Nat → Int) → Nat → Int
  | [], _ => zf
  | c :: l, x => fun i => c i + cv i x (evR l x)
def qtR : List (Nat → Int) → (Nat → Int) → List (Nat → Int)
  | [], _ => []
  | [_], _ => []
  | _ :: c :: l, r => evR (c :: l) r :: qtR (c :: l) r
def lastR : List (Nat → Int) → Nat → Int
  | [] => zf
  | [c] => c
  | _ :: c :: l => lastR (c :: l)
theorem qtR_len : ∀ (l : List (Nat → Int)) (r : Nat → Int), (qtR l r).length = l.length - 1
  | [], _ => rfl
  | [_], _ => rfl
  | _ :: c :: l, r => by show (qtR (c :: l) r).length + 1 = _; rw [qtR_len (c :: l) r]; simp
theorem qtR_last : ∀ (l : List (Nat → Int)) (r : Nat → Int), 2 ≤ l.length → lastR (qtR l r) = lastR l
  | [], _, h => by simp at h
  | [_], _, h => by simp at h
  | [_, c], r, _ => by
    show (fun i => c i + cv i r zf) = c
    funext i; rw [cv_zf']; omega
  | _ :: c :: c' :: l, r, _ => by
    have := qtR_last (c :: c' :: l) r (by simp)
    exact this
theorem qtR_ev (x r : Nat → Int) : ∀ (l : List (Nat → Int)) (i : Nat), evR l x i - evR l r i = cv i (fun j => x j - r j) (evR (qtR l r) x)
  | [], i => by show (0 : Int) - 0 = cv i _ zf; rw [cv_zf']; rfl
  | [c], i => by
    show c i + cv i x zf - (c i + cv i r zf) = cv i _ zf
    rw [cv_zf', cv_zf', cv_zf']; omega
  | a :: c :: l, i => by
    have ih := fun i => qtR_ev x r (c :: l) i
    show a i + cv i x (evR (c :: l) x) - (a i + cv i r (evR (c :: l) r)) = cv i (fun j => x j - r j) (fun j => evR (c :: l) r j + cv j x (evR (qtR (c :: l) r) x))
    rw [cv_add_r]
    have e1 : cv i (fun j => x j - r j) (fun j => cv j x (evR (qtR (c :: l) r) x)) = cv i x (fun j => evR (c :: l) x j - evR (c :: l) r j) := by
      rw [show (fun j => evR (c :: l) x j - evR (c :: l) r j) = fun j => cv j (fun j => x j - r j) (evR (qtR (c :: l) r) x) from funext fun j => ih j]
      rw [← cv_assoc, ← cv_assoc]; congr 1; funext j; exact cv_comm j _ _
    rw [e1, cv_sub_r, cv_sub_l]; omega
def AllFs (l : List (Nat → Int)) : Prop := ∀ c ∈ l, ∃ N, Fs N c
theorem evR_fs {x : Nat → Int} {M : Nat} (hx : Fs M x) : ∀ {l : List (Nat → Int)}, AllFs l → ∃ N, Fs N (evR l x)
  | [], _ => ⟨0, Fs.zero⟩
  | c :: l, h => by
    obtain ⟨N, hN⟩ := h c (List.mem_cons_self ..)
    obtain ⟨K, hK⟩ := evR_fs hx (fun c hc => h c (List.mem_cons_of_mem _ hc))
    exact ⟨_, hN.add (hx.cv hK)⟩
theorem qtR_fs {r : Nat → Int} {M : Nat} (hr : Fs M r) : ∀ {l : List (Nat → Int)}, AllFs l → AllFs (qtR l r)
  | [], _ => fun c hc => by cases hc
  | [_], _ => fun c hc => by cases hc
  | _ :: c :: l, h => fun a ha => by
    have h2 : AllFs (c :: l) := fun c hc => h c (List.mem_cons_of_mem _ hc)
    rcases List.mem_cons.1 ha with rfl | ha
    · exact evR_fs hr h2
    · exact qtR_fs hr h2 a ha
theorem rootsR {p : Int} {f : Nat → Int} {d : Nat} (hu : ∀ x, ¬ p ∣ x → ∃ u, p ∣ u * x - 1) (hI : Irr p f d) (hf : Fs (d + 1) f) (h1 : f d = 1) : ∀ (n : Nat) (l rs : List (Nat → Int)), AllFs l → AllFs rs → l.length = n + 1 → n + 1 ≤ rs.length →
    rs.Pairwise (fun a b => ¬ Eqf p f (fun i => b i - a i) zf) → (∀ r ∈ rs, Eqf p f (evR l r) zf) → Eqf p f (lastR l) zf
  | _, _, [], _, _, _, h, _, _ => by simp at h
  | 0, [], _, _, _, h, _, _, _ => by simp at h
  | 0, _ :: _ :: _, _, _, _, h, _, _, _ => by simp at h
  | 0, [c], r :: rs, _, _, _, _, _, h => by
    have := h r (List.mem_cons_self ..)
    rwa [show evR [c] r = c from funext fun i => by show c i + cv i r zf = c i; rw [cv_zf']; omega] at this
  | n + 1, l, r :: rs, hl, hr, h2, h3, hp, h => by
    obtain ⟨M, hM⟩ := hr r (List.mem_cons_self ..)
    have hp' := List.pairwise_cons.1 hp
    rw [← qtR_last l r (by omega)]
    refine rootsR hu hI hf h1 n (qtR l r) rs (qtR_fs hM hl) (fun c hc => hr c (List.mem_cons_of_mem _ hc)) (by rw [qtR_len]; omega) (by simp at h3; omega) hp'.2 fun x hx => ?_
    obtain ⟨K, hK⟩ := hr x (List.mem_cons_of_mem _ hx)
    obtain ⟨T, hT⟩ := evR_fs hK (qtR_fs hM hl)
    have e1 := (h x (List.mem_cons_of_mem _ hx)).sub (h r (List.mem_cons_self ..))
    rw [show (fun i => evR l x i - evR l r i) = fun i => cv i (fun j => x j - r j) (evR (qtR l r) x) from funext fun i => qtR_ev x r l i, show (fun i => zf i - zf i) = zf from funext fun i => by show (0 : Int) - 0 = 0; rfl] at e1
    rcases no_zero hu hI hf h1 (hK.sub hM) hT e1 with e2 | e2
    · exact absurd e2 (hp'.1 x hx)
    · exact e2
/-- powers -/
def pwR (x : Nat → Int) : Nat → Nat → Int
  | 0 => one1'
  | n + 1 => fun i => cv i (pwR x n) x
theorem one_fs : Fs 1 one1' := mono_fs 0 1
theorem pwR_fs {x : Nat → Int} {M : Nat} (hx : Fs M x) : ∀ n, ∃ N, Fs N (pwR x n)
  | 0 => ⟨1, one_fs⟩
  | n + 1 => by obtain ⟨N, hN⟩ := pwR_fs hx n; exact ⟨_, hN.cv hx⟩
def powR (n : Nat) : List (Nat → Int) := (fun i => -one1' i) :: (List.replicate n zf ++ [one1'])
theorem evR_rep (x : Nat → Int) : ∀ n, evR (List.replicate n zf ++ [one1']) x = pwR x n
  | 0 => by
    show (fun i => one1' i + cv i x zf) = one1'
    funext i; rw [cv_zf']; omega
  | n + 1 => by
    show (fun i => zf i + cv i x (evR (List.replicate n zf ++ [one1']) x)) = fun i => cv i (pwR x n) x
    rw [evR_rep x n]
    funext i
    show (0 : Int) + _ = _
    rw [cv_comm i x]; omega
theorem powR_ev (n : Nat) (x : Nat → Int) (i : Nat) : evR (powR n) x i = pwR x (n + 1) i - one1' i := by
  show -one1' i + cv i x (evR (List.replicate n zf ++ [one1']) x) = cv i (pwR x n) x - one1' i
  rw [evR_rep, cv_comm i x]; omega
theorem powR_last (n : Nat) : lastR (powR n) = one1' := by
  have : ∀ n (c : Nat → Int), lastR (c :: (List.replicate n zf ++ [one1'])) = one1' := by
    intro n
    induction n with
    | zero => intro c; rfl
    | succ n ih => intro c; exact ih zf
  exact this n _
theorem powR_fs (n : Nat) : AllFs (powR n) := fun c hc => by
  rcases List.mem_cons.1 hc with rfl | h
  · exact ⟨1, fun i hi => by show -one1' i = 0; rw [one_fs i hi]; rfl⟩
  · rcases List.mem_append.1 h with h | h
    · rw [List.eq_of_mem_replicate h]; exact ⟨0, Fs.zero⟩
    · rw [List.mem_singleton.1 h]; exact ⟨1, one_fs⟩
/-- few roots of 1 -/
theorem few_powR {p : Int} {f : Nat → Int} {d : Nat} (hp : ¬ p ∣ 1) (hu : ∀ x, ¬ p ∣ x → ∃ u, p ∣ u * x - 1) (hI : Irr p f d) (hf : Fs (d + 1) f) (h1 : f d = 1) (d1 : 1 ≤ d) (n : Nat) (hn : 0 < n) (rs : List (Nat → Int)) (hr : AllFs rs) (hl : n + 1 ≤ rs.length) (hd : rs.Pairwise (fun a b => ¬ Eqf p f (fun i => b i - a i) zf)) (hz : ∀ r ∈ rs, Eqf p f (pwR r n) one1') : False := by
  obtain ⟨n, rfl⟩ : ∃ k, n = k + 1 := ⟨n - 1, by omega⟩
  have h := rootsR hu hI hf h1 (n + 1) (powR n) rs (powR_fs n) hr (by simp [powR]) hl hd fun r hr' => by
    have := (hz r hr').sub (Eqf.refl p f one1')
    rw [show (fun i => one1' i - one1' i) = zf from funext fun i => by show _ = (0 : Int); omega] at this
    rwa [show evR (powR n) r = fun i => pwR r (n + 1) i - one1' i from funext fun i => powR_ev n r i]
  rw [powR_last] at h
  obtain ⟨q, N, hq, h⟩ := h
  have := (fs_rest hf (fun x hx => by rw [h1, Int.mul_one] at hx; exact hx) N q one1' hq (one_fs.mono d1) fun i => by
    have := h i
    rwa [show one1' i - zf i = one1' i by show _ - (0 : Int) = _; omega] at this).2 0
  exact hp this
end Lw
