/- Plain lemmas: a polynomial has no more roots by a prime than its degree. -/
import Derived.Test.YtlgegdmnbhoepaaFac
set_option linter.unusedVariables false
set_option linter.unusedSimpArgs false
namespace Lw
theorem Prime.dvd_mul_int {p : Nat} (hp : Prime p) {a b : Int} (h : (p : Int) ∣ a * b) : (p : Int) ∣ a ∨ (p : Int) ∣ b := by
  rw [Int.ofNat_dvd_left, Int.natAbs_mul] at h
  rw [Int.ofNat_dvd_left, Int.ofNat_dvd_left]
  exact hp.dvd_mul h
theorem Prime.not_dvd_one {p : Nat} (hp : Prime p) : ¬ (p : Int) ∣ 1 := by
  intro h
  rw [Int.ofNat_dvd_left] at h
  have := Nat.dvd_one.1 h
  have := hp.1
  omega
def ev : List Int → Int → Int
  | [], _ => 0
  | c :: cs, x => c + x * ev cs x
/-- the quotient by x - r -/
def qt : List Int → Int → List Int
  | [], _ => []
  | [_], _ => []
  | _ :: d :: cs, r => ev (d :: cs) r :: qt (d :: cs) r
theorem qt_length : ∀ (l : List Int) (r : Int), (qt l r).length = l.length - 1
  | [], _ => rfl
  | [_], _ => rfl
  | _ :: d :: cs, r => by simp only [qt, List.length_cons, qt_length (d :: cs) r]; omega
theorem qt_ev : ∀ (l : List Int) (r x : Int), ev l x - ev l r = (x - r) * ev (qt l r) x
  | [], _, _ => by simp [ev, qt]
  | [c], _, _ => by simp [ev, qt]
  | c :: d :: cs, r, x => by
    have ih := qt_ev (d :: cs) r x
    have e1 : ev (c :: d :: cs) x = c + x * ev (d :: cs) x := rfl
    have e2 : ev (c :: d :: cs) r = c + r * ev (d :: cs) r := rfl
    have e3 : ev (qt (c :: d :: cs) r) x = ev (d :: cs) r + x * ev (qt (d :: cs) r) x := rfl
    rw [e1, e2, e3]
    generalize ev (d :: cs) x = A at *
    generalize ev (d :: cs) r = B at *
    generalize ev (qt (d :: cs) r) x = C at *
    grind
def lastI : List Int → Int
  | [] => 0
  | [c] => c
  | _ :: d :: cs => lastI (d :: cs)
theorem qt_last : ∀ (l : List Int) (r : Int), 2 ≤ l.length → lastI (qt l r) = lastI l
  | [], _, h => by simp at h
  | [_], _, h => by simp at h
  | [c, d], r, _ => by simp [qt, lastI, ev]
  | c :: d :: e :: cs, r, _ => by
    have ih := qt_last (d :: e :: cs) r (by simp)
    have e1 : lastI (c :: d :: e :: cs) = lastI (d :: e :: cs) := rfl
    rw [e1, ← ih]
    rfl
/-- as many roots as numbers: the last number is 0 -/
theorem roots_last {p : Nat} (hp : Prime p) : ∀ (n : Nat) (l rs : List Int), l.length = n + 1 → n + 1 ≤ rs.length → rs.Pairwise (fun a b => ¬ (p : Int) ∣ b - a) → (∀ r, r ∈ rs → (p : Int) ∣ ev l r) → (p : Int) ∣ lastI l
  | 0, l, rs, hl, hr, _, hz => by
    match l, hl with
    | [c], _ =>
      match rs, hr with
      | r :: _, _ =>
        have := hz r (List.mem_cons_self ..)
        simpa [ev, lastI] using this
  | n + 1, l, rs, hl, hr, hd, hz => by
    match rs, hr with
    | r :: rs, hr =>
      have h0 := hz r (List.mem_cons_self ..)
      obtain ⟨hd1, hd2⟩ := List.pairwise_cons.1 hd
      have := roots_last hp n (qt l r) rs (by rw [qt_length, hl]; omega) (by simpa using hr) hd2 (fun s hs => by
        have h1 := hz s (List.mem_cons_of_mem _ hs)
        have h2 := Int.dvd_sub h1 h0
        rw [qt_ev] at h2
        rcases hp.dvd_mul_int h2 with h3 | h3
        · exact absurd h3 (hd1 s hs)
        · exact h3)
      rwa [qt_last l r (by omega)] at this
/-- x^n - 1, as a list -/
def powL (n : Nat) : List Int := -1 :: (List.replicate n 0 ++ [1])
theorem powL_ev (n : Nat) (x : Int) : ev (powL n) x = x ^ (n + 1) - 1 := by
  have h : ∀ n, ev (List.replicate n 0 ++ [1]) x = x ^ n := by
    intro n
    induction n with
    | zero => simp [ev]
    | succ n ih =>
      show (0 : Int) + x * ev (List.replicate n 0 ++ [1]) x = _
      rw [ih, Int.pow_succ, Int.mul_comm]; omega
  show -1 + x * ev (List.replicate n 0 ++ [1]) x = _
  rw [h, Int.pow_succ, Int.mul_comm]; omega
theorem powL_last (n : Nat) : lastI (powL n) = 1 := by
  have h : ∀ (l : List Int) (c : Int), lastI (c :: (l ++ [1])) = 1 := by
    intro l
    induction l with
    | nil => intro c; rfl
    | cons d l ih => intro c; exact ih d
  exact h _ _
/-- fewer than n + 1 different numbers have the n-th power 1 -/
theorem pow_roots {p : Nat} (hp : Prime p) (n : Nat) (hn : 0 < n) (rs : List Int) (hr : n + 1 ≤ rs.length) (hd : rs.Pairwise (fun a b => ¬ (p : Int) ∣ b - a)) (hz : ∀ r, r ∈ rs → (p : Int) ∣ r ^ n - 1) : False := by
  obtain ⟨m, rfl⟩ : ∃ m, n = m + 1 := ⟨n - 1, by omega⟩
  have := roots_last hp (m + 1) (powL m) rs (by simp [powL]) (by omega) hd (fun r h => by rw [powL_ev]; exact hz r h)
  rw [powL_last] at this
  exact hp.not_dvd_one this
end Lw
