/- RatchetPlays, plain: what each post of a script does. -/
import Derived.Test.YtlgegdmnbhoepaaRat
import Derived.Test.YtlgegdmnbhoepaaCnm
namespace Lw
open Go Go.RowKit Go.Maps
theorem xorI_back {a b : Int} (ha : 0 ≤ a) (hb : 0 ≤ b) : xorI (xorI a b) b = a := by
  obtain ⟨n, rfl⟩ := Int.eq_ofNat_of_zero_le ha
  obtain ⟨m, rfl⟩ := Int.eq_ofNat_of_zero_le hb
  rw [xorI_nat, xorI_nat, Nat.xor_assoc, Nat.xor_self, Nat.xor_zero]
theorem i64_xorI {a b : Int} (ha : 0 ≤ a) (ha' : a < 4294967296) (hb : 0 ≤ b) (hb' : b < 4294967296) : Go.bits .xor .i64 a b = xorI a b := by
  obtain ⟨n, rfl⟩ := Int.eq_ofNat_of_zero_le ha
  obtain ⟨m, rfl⟩ := Int.eq_ofNat_of_zero_le hb
  rw [i64_xor_nat n m (by omega) (by omega), xorI_nat]
theorem msgKey_bd (k : Int) (n : Nat) : 0 ≤ msgKey k n ∧ msgKey k n < 65536 := keyPart_bd _ _
/-- what the map of kept keys says -/
def KepR (key : Int) (ks : List Nat) (D : DataW Unit) : Prop := Tidy D ∧ ks.Nodup ∧ Maps.size D = ks.length ∧ (∀ z : Int, has D (.int .i64 z) = true ↔ ∃ k ∈ ks, (k : Int) = z) ∧
  ∀ k ∈ ks, D.atKey (.int .i64 (k : Int)) (.lit (.int .i64 0)) = .lit (.int .i64 (msgKey key k))
theorem kep_zero (key : Int) : KepR key [] (.map []) := ⟨tidy_empty, List.nodup_nil, rfl, fun z => ⟨fun h => (by cases h), fun ⟨k, h, _⟩ => (by cases h)⟩, fun k h => by cases h⟩
theorem kep_not {key : Int} {ks : List Nat} {D : DataW Unit} {k : Nat} (h : KepR key ks D) (hk : k ∉ ks) : has D (.int .i64 (k : Int)) = false := by
  cases e : has D (.int .i64 (k : Int)) with
  | false => rfl
  | true =>
    obtain ⟨j, hj, he⟩ := (h.2.2.2.1 _).1 e
    have : j = k := by omega
    subst this
    exact absurd hj hk
theorem kep_has {key : Int} {ks : List Nat} {D : DataW Unit} {k : Nat} (h : KepR key ks D) (hk : k ∈ ks) : has D (.int .i64 (k : Int)) = true := (h.2.2.2.1 _).2 ⟨k, hk, rfl⟩
theorem lit_ne {a b : Int} (h : a ≠ b) : (Lit.int .i64 a) ≠ .int .i64 b := fun e => by injection e with _ e; exact h e
theorem kep_put {key : Int} {ks : List Nat} {D : DataW Unit} {k : Nat} (h : KepR key ks D) (hk : k ∉ ks) (hl : WideAt.IsKeyLit (.int .i64 (k : Int))) : KepR key (ks ++ [k]) (D.put (.int .i64 (k : Int)) (.lit (.int .i64 (msgKey key k)))) := by
  obtain ⟨h1, h2, h3, h4, h5⟩ := h
  refine ⟨h1.put hl _, ?_, ?_, fun z => ?_, fun j hj => ?_⟩
  · rw [List.nodup_append]
    refine ⟨h2, by simp, fun a ha b hb => ?_⟩
    simp at hb
    subst hb
    exact fun e => hk (e ▸ ha)
  · rw [size_put h1, if_neg (by rw [kep_not ⟨h1, h2, h3, h4, h5⟩ hk]; simp), h3]; simp
  · by_cases e : z = (k : Int)
    · subst e
      rw [has_put_same h1.isMap hl]
      exact ⟨fun _ => ⟨k, by simp, rfl⟩, fun _ => rfl⟩
    · rw [has_put_other (lit_ne e), h4 z]
      refine ⟨fun ⟨j, hj, hy⟩ => ⟨j, by simp [hj], hy⟩, fun ⟨j, hj, hy⟩ => ?_⟩
      rcases List.mem_append.1 hj with h | h
      · exact ⟨j, h, hy⟩
      · simp at h; subst h; exact absurd hy.symm e
  · rcases List.mem_append.1 hj with h | h
    · have e : (j : Int) ≠ (k : Int) := fun e => hk (by have : j = k := by omega
                                                        exact this ▸ h)
      rw [atKey_put_other (lit_ne e)]
      exact h5 j h
    · simp at h; subst h
      rw [atKey_put_same h1.isMap hl]
theorem kep_del {key : Int} {ks : List Nat} {D : DataW Unit} {k : Nat} (h : KepR key ks D) (hk : k ∈ ks) : KepR key (ks.filter (fun x => x != k)) (D.del (.int .i64 (k : Int))) := by
  obtain ⟨h1, h2, h3, h4, h5⟩ := h
  refine ⟨h1.del _, h2.filter _, ?_, fun z => ?_, fun j hj => ?_⟩
  · have e := size_del (k := .int .i64 (k : Int)) h1
    rw [if_pos (kep_has ⟨h1, h2, h3, h4, h5⟩ hk), h3] at e
    have e2 : ks.erase k = ks.filter (fun x => x != k) := List.Nodup.erase_eq_filter h2 k
    rw [← e2, List.length_erase_of_mem hk]
    omega
  · by_cases e : z = (k : Int)
    · subst e
      rw [has_del_same]
      refine ⟨fun h => (by cases h), fun ⟨j, hj, hy⟩ => ?_⟩
      have : j = k := by omega
      subst this
      simp at hj
    · rw [has_del_other (lit_ne e), h4 z]
      refine ⟨fun ⟨j, hj, hy⟩ => ⟨j, ?_, hy⟩, fun ⟨j, hj, hy⟩ => ⟨j, (List.mem_filter.1 hj).1, hy⟩⟩
      exact List.mem_filter.2 ⟨hj, by simp; intro h; subst h; exact e hy.symm⟩
  · obtain ⟨hj1, hj2⟩ := List.mem_filter.1 hj
    have e : (j : Int) ≠ (k : Int) := by simp at hj2; omega
    rw [atKey_del_other (lit_ne e)]
    exact h5 j hj1
/-- where a script stands: what was sent, which keys are kept, to where it has come -/
structure RSt where
  nums : List Int
  ks : List Nat
  come : Nat
/-- the keys from one on, so many -/
def upTo (ks : List Nat) (c : Nat) : Nat → List Nat
  | 0 => ks
  | m + 1 => upTo ks c m ++ [c + m]
theorem upTo_length (ks : List Nat) (c : Nat) : ∀ m, (upTo ks c m).length = ks.length + m
  | 0 => rfl
  | m + 1 => by unfold upTo; rw [List.length_append, upTo_length ks c m]; simp; omega
theorem upTo_lt {ks : List Nat} {c : Nat} (h : ∀ k ∈ ks, k < c) : ∀ m, ∀ k ∈ upTo ks c m, k < c + m
  | 0 => h
  | m + 1 => fun k hk => by
    rcases List.mem_append.1 hk with h1 | h1
    · have := upTo_lt h m k h1; omega
    · simp at h1; omega
/-- what a post does -/
def rStep (key most : Int) (s : RSt) (kind msg n : Int) : (Int × Int) × RSt :=
  if kind = 1 then (if n < 0 ∨ 65535 < n then ((2, 0), s) else ((0, xorI n (msgKey key s.nums.length)), { s with nums := s.nums ++ [n] }))
  else if ¬ kind = 2 then ((6, 0), s)
  else if msg < 0 ∨ (s.nums.length : Int) ≤ msg then ((3, 0), s)
  else if msg < (s.come : Int) then (if msg.toNat ∈ s.ks then ((0, s.nums.getD msg.toNat 0), { s with ks := s.ks.filter (fun x => x != msg.toNat) }) else ((5, 0), s))
  else if most < (s.ks.length : Int) + msg - (s.come : Int) then ((1, 0), s)
  else ((0, s.nums.getD msg.toNat 0), { s with ks := upTo s.ks s.come (msg.toNat - s.come), come := msg.toNat + 1 })
/-- what may be of a state -/
def ROk (s : RSt) : Prop := s.come ≤ s.nums.length ∧ (∀ k ∈ s.ks, k < s.come) ∧ s.ks.length ≤ s.come ∧ ∀ z ∈ s.nums, 0 ≤ z ∧ z < 65536
theorem rstep_range {key most : Int} {s : RSt} {kind msg n : Int} (h : kind = 1) (h2 : n < 0 ∨ 65535 < n) : rStep key most s kind msg n = ((2, 0), s) := by unfold rStep; rw [if_pos h, if_pos h2]
theorem rstep_send {key most : Int} {s : RSt} {kind msg n : Int} (h : kind = 1) (h2 : ¬ (n < 0 ∨ 65535 < n)) : rStep key most s kind msg n = ((0, xorI n (msgKey key s.nums.length)), { s with nums := s.nums ++ [n] }) := by unfold rStep; rw [if_pos h, if_neg h2]
theorem rstep_kind {key most : Int} {s : RSt} {kind msg n : Int} (h : ¬ kind = 1) (h2 : ¬ kind = 2) : rStep key most s kind msg n = ((6, 0), s) := by unfold rStep; rw [if_neg h, if_pos h2]
theorem rstep_arg {key most : Int} {s : RSt} {kind msg n : Int} (h : kind = 2) (h2 : msg < 0 ∨ (s.nums.length : Int) ≤ msg) : rStep key most s kind msg n = ((3, 0), s) := by
  subst h; unfold rStep; rw [if_neg (by decide), if_neg (by decide), if_pos h2]
theorem rstep_kept {key most : Int} {s : RSt} {kind n : Int} {m : Nat} (h : kind = 2) (h2 : m < s.nums.length) (h3 : m < s.come) (h4 : m ∈ s.ks) : rStep key most s kind (m : Int) n = ((0, s.nums.getD m 0), { s with ks := s.ks.filter (fun x => x != m) }) := by
  subst h; unfold rStep; rw [if_neg (by decide), if_neg (by decide), if_neg (by omega), if_pos (by omega), Int.toNat_natCast, if_pos h4]
theorem rstep_none {key most : Int} {s : RSt} {kind n : Int} {m : Nat} (h : kind = 2) (h2 : m < s.nums.length) (h3 : m < s.come) (h4 : m ∉ s.ks) : rStep key most s kind (m : Int) n = ((5, 0), s) := by
  subst h; unfold rStep; rw [if_neg (by decide), if_neg (by decide), if_neg (by omega), if_pos (by omega), Int.toNat_natCast, if_neg h4]
theorem rstep_large {key most : Int} {s : RSt} {kind n : Int} {m : Nat} (h : kind = 2) (h2 : m < s.nums.length) (h3 : s.come ≤ m) (h4 : most < (s.ks.length : Int) + (m : Int) - (s.come : Int)) : rStep key most s kind (m : Int) n = ((1, 0), s) := by
  subst h; unfold rStep; rw [if_neg (by decide), if_neg (by decide), if_neg (by omega), if_neg (by omega), if_pos h4]
theorem rstep_take {key most : Int} {s : RSt} {kind n : Int} {m : Nat} (h : kind = 2) (h2 : m < s.nums.length) (h3 : s.come ≤ m) (h4 : ¬ most < (s.ks.length : Int) + (m : Int) - (s.come : Int)) :
    rStep key most s kind (m : Int) n = ((0, s.nums.getD m 0), { s with ks := upTo s.ks s.come (m - s.come), come := m + 1 }) := by
  subst h; unfold rStep; rw [if_neg (by decide), if_neg (by decide), if_neg (by omega), if_neg (by omega), if_neg h4, Int.toNat_natCast]
theorem rstep_ok (key most : Int) {s : RSt} (kind msg n : Int) (h : ROk s) : ROk (rStep key most s kind msg n).2 := by
  obtain ⟨h1, h2, h3, h4⟩ := h
  by_cases k1 : kind = 1
  · by_cases n1 : n < 0 ∨ 65535 < n
    · rw [rstep_range k1 n1]; exact ⟨h1, h2, h3, h4⟩
    · rw [rstep_send k1 n1]
      refine ⟨by simp; omega, h2, h3, fun z hz => ?_⟩
      rcases List.mem_append.1 hz with h | h
      · exact h4 z h
      · simp at h; omega
  · by_cases k2 : kind = 2
    · by_cases m1 : msg < 0 ∨ (s.nums.length : Int) ≤ msg
      · rw [rstep_arg k2 m1]; exact ⟨h1, h2, h3, h4⟩
      · obtain ⟨m, rfl⟩ := Int.eq_ofNat_of_zero_le (by omega : 0 ≤ msg)
        have hm : m < s.nums.length := by omega
        by_cases c1 : m < s.come
        · by_cases c2 : m ∈ s.ks
          · rw [rstep_kept k2 hm c1 c2]
            exact ⟨h1, fun k hk => h2 k (List.mem_filter.1 hk).1, Nat.le_trans (List.length_filter_le _ _) h3, h4⟩
          · rw [rstep_none k2 hm c1 c2]; exact ⟨h1, h2, h3, h4⟩
        · by_cases c2 : most < (s.ks.length : Int) + (m : Int) - (s.come : Int)
          · rw [rstep_large k2 hm (by omega) c2]; exact ⟨h1, h2, h3, h4⟩
          · rw [rstep_take k2 hm (by omega) c2]
            refine ⟨by simp only; omega, fun k hk => ?_, ?_, h4⟩
            · have := upTo_lt h2 _ k hk; simp only; omega
            · simp only; rw [upTo_length]; omega
    · rw [rstep_kind k1 k2]; exact ⟨h1, h2, h3, h4⟩
/-- a script, post by post -/
def rRun (key most : Int) (l : List (Int × Int × Int)) : List (Int × Int) × RSt := l.foldl (fun a p => (a.1 ++ [(rStep key most a.2 p.1 p.2.1 p.2.2).1], (rStep key most a.2 p.1 p.2.1 p.2.2).2)) ([], ⟨[], [], 0⟩)
theorem rrun_snoc (key most : Int) (l : List (Int × Int × Int)) (p : Int × Int × Int) : rRun key most (l ++ [p]) = ((rRun key most l).1 ++ [(rStep key most (rRun key most l).2 p.1 p.2.1 p.2.2).1], (rStep key most (rRun key most l).2 p.1 p.2.1 p.2.2).2) := by
  unfold rRun; rw [List.foldl_append]; rfl
theorem rrun_take {key most : Int} {l : List (Int × Int × Int)} {k : Nat} (h : k < l.length) : rRun key most (l.take (k + 1)) = ((rRun key most (l.take k)).1 ++ [(rStep key most (rRun key most (l.take k)).2 l[k].1 l[k].2.1 l[k].2.2).1], (rStep key most (rRun key most (l.take k)).2 l[k].1 l[k].2.1 l[k].2.2).2) := by
  rw [List.take_succ_eq_append_getElem h, rrun_snoc]
theorem rrun_ok (key most : Int) (l : List (Int × Int × Int)) : ∀ k, k ≤ l.length → ROk (rRun key most (l.take k)).2
  | 0, _ => ⟨Nat.le_refl _, fun k h => (by cases h), Nat.le_refl _, fun z h => (by cases h)⟩
  | k + 1, h => by rw [rrun_take (by omega)]; exact rstep_ok _ _ _ _ _ (rrun_ok key most l k (by omega))
theorem rrun_len (key most : Int) (l : List (Int × Int × Int)) : ∀ k, k ≤ l.length → (rRun key most (l.take k)).1.length = k
  | 0, _ => rfl
  | k + 1, h => by rw [rrun_take (by omega)]; simp [rrun_len key most l k (by omega)]
theorem rstep_nums (key most : Int) (s : RSt) (kind msg n : Int) : (rStep key most s kind msg n).2.nums.length ≤ s.nums.length + 1 := by
  unfold rStep
  (repeat' split) <;> simp
theorem rrun_nums (key most : Int) (l : List (Int × Int × Int)) : ∀ k, k ≤ l.length → (rRun key most (l.take k)).2.nums.length ≤ k
  | 0, _ => Nat.le_refl _
  | k + 1, h => by
    rw [rrun_take (by omega)]
    have := rrun_nums key most l k (by omega)
    have := rstep_nums key most (rRun key most (l.take k)).2 l[k].1 l[k].2.1 l[k].2.2
    simp only; omega
/-- what was sealed -/
def sealL (key : Int) (nums : List Int) : List Int := nums.zipIdx.map fun p => xorI p.1 (msgKey key p.2)
theorem sealL_length (key : Int) (nums : List Int) : (sealL key nums).length = nums.length := by simp [sealL]
theorem sealL_snoc (key : Int) (nums : List Int) (n : Int) : sealL key (nums ++ [n]) = sealL key nums ++ [xorI n (msgKey key nums.length)] := by simp [sealL, List.zipIdx_append]
theorem sealL_get {key : Int} {nums : List Int} {i : Nat} (h : i < nums.length) : (sealL key nums)[i]? = some (xorI (nums.getD i 0) (msgKey key i)) := by
  unfold sealL
  rw [List.getElem?_map, List.getElem?_zipIdx, List.getElem?_eq_getElem h, List.getD_eq_getElem?_getD, List.getElem?_eq_getElem h]
  simp
end Lw
