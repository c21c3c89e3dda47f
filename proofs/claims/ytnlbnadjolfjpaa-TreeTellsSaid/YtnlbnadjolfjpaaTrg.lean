/- (place).texts: what is summed, from a leaf up. -/
import Derived.Test.YtnlbnadjolfjpaaTrf
import Derived.Test.YtnlbnadjolfjpaaPad
namespace Lw
open Go Go.RowKit
/-- a text, or none -/
def topt (r : TRow) : Option (List Int) := if r.A = none then none else some r.zs
def nodO : List (Option (List Int)) → Int
  | [] => 0
  | none :: l => nodO l
  | some b :: _ => hsum b
/-- the sum of the last text of a list -/
def nodL (L : List (Option (List Int))) : Int := nodO L.reverse
theorem nodV_eq (T : List TRow) : nodV T = nodL (T.map topt) := by
  unfold nodV nodL
  rw [← List.map_reverse]
  generalize T.reverse = l
  induction l with
  | nil => rfl
  | cons r l ih =>
    show (if r.A = none then nodF l else hsum r.zs) = nodO (topt r :: l.map topt)
    unfold topt
    by_cases h : r.A = none
    · rw [if_pos h, if_pos h]; exact ih
    · rw [if_neg h, if_neg h]; rfl
theorem nodL_none (L : List (Option (List Int))) : nodL (L ++ [none]) = nodL L := by unfold nodL; simp [nodO]
theorem nodL_some (L : List (Option (List Int))) (b : List Int) : nodL (L ++ [some b]) = hsum b := by unfold nodL; simp [nodO]
theorem nodO_bd : ∀ l : List (Option (List Int)), 0 ≤ nodO l ∧ nodO l < 65536
  | [] => by decide
  | none :: l => nodO_bd l
  | some b :: _ => hsum_bd b
theorem nodL_bd (L : List (Option (List Int))) : 0 ≤ nodL L ∧ nodL L < 65536 := nodO_bd _
/-- the way up -/
def leadL : Nat → Nat → Nat → List (Option (List Int)) → List Int → Option (List (Option (List Int)) × List Int)
  | 0, _, _, L, ps => some (L, ps)
  | f + 1, n, i, L, ps => if n ≤ 1 then some (L, ps) else if i % 2 = 0 ∧ n ≤ i + 1 then leadL f ((n + 1) / 2) (i / 2) (L ++ [none]) ps else match ps with
    | [] => none
    | x :: ps => leadL f ((n + 1) / 2) (i / 2) (L ++ [some (if i % 2 = 1 then pairT x (nodL L) else pairT (nodL L) x)]) ps
theorem lead_end {f n i : Nat} {L : List (Option (List Int))} {ps : List Int} (h : n ≤ 1) : leadL f n i L ps = some (L, ps) := by
  cases f with
  | zero => rfl
  | succ f => unfold leadL; rw [if_pos h]
theorem lead_none {f n i : Nat} {L : List (Option (List Int))} {ps : List Int} (h : ¬ n ≤ 1) (hi : i % 2 = 0) (h2 : n ≤ i + 1) : leadL (f + 1) n i L ps = leadL f ((n + 1) / 2) (i / 2) (L ++ [none]) ps := by
  show (if n ≤ 1 then _ else if i % 2 = 0 ∧ n ≤ i + 1 then _ else _) = _
  rw [if_neg h, if_pos ⟨hi, h2⟩]
theorem lead_out {f n i : Nat} {L : List (Option (List Int))} (h : ¬ n ≤ 1) (h2 : ¬ (i % 2 = 0 ∧ n ≤ i + 1)) : leadL (f + 1) n i L [] = none := by
  show (if n ≤ 1 then _ else if i % 2 = 0 ∧ n ≤ i + 1 then _ else _) = _
  rw [if_neg h, if_neg h2]
theorem lead_odd {f n i : Nat} {L : List (Option (List Int))} {x : Int} {ps : List Int} (h : ¬ n ≤ 1) (hi : i % 2 = 1) : leadL (f + 1) n i L (x :: ps) = leadL f ((n + 1) / 2) (i / 2) (L ++ [some (pairT x (nodL L))]) ps := by
  show (if n ≤ 1 then _ else if i % 2 = 0 ∧ n ≤ i + 1 then _ else leadL f ((n + 1) / 2) (i / 2) (L ++ [some (if i % 2 = 1 then _ else _)]) ps) = _
  rw [if_neg h, if_neg (by omega), if_pos hi]
theorem lead_even {f n i : Nat} {L : List (Option (List Int))} {x : Int} {ps : List Int} (h : ¬ n ≤ 1) (hi : i % 2 = 0) (h2 : ¬ n ≤ i + 1) : leadL (f + 1) n i L (x :: ps) = leadL f ((n + 1) / 2) (i / 2) (L ++ [some (pairT (nodL L) x)]) ps := by
  show (if n ≤ 1 then _ else if i % 2 = 0 ∧ n ≤ i + 1 then _ else leadL f ((n + 1) / 2) (i / 2) (L ++ [some (if i % 2 = 1 then _ else _)]) ps) = _
  rw [if_neg h, if_neg (by omega), if_neg (by omega)]
/-- all texts, if the proof is one -/
def bigP (ps : List Int) : Bool := ps.any fun x => decide (65535 < x)
def okL : Option (List (Option (List Int)) × List Int) → Option (List (Option (List Int)))
  | some (L, []) => some L
  | _ => none
def textsL (n i : Nat) (leaf ps : List Int) : Option (List (Option (List Int))) := if bigP ps = true then none else okL (leadL 64 n i [some (0 :: leaf)] ps)
theorem texts_big {n i : Nat} {leaf ps : List Int} (h : bigP ps = true) : textsL n i leaf ps = none := if_pos h
theorem texts_of {n i : Nat} {leaf ps : List Int} (h : bigP ps = false) : textsL n i leaf ps = okL (leadL 64 n i [some (0 :: leaf)] ps) := if_neg (by simp [h])
/-- a list of texts in memory -/
def TxL (w : World) (C : Option Addr) (m : Nat) (T : List TRow) : Prop := Rd w 1 C m (T.map TRow.v) ∧ (∀ r ∈ T, TxtOk w r) ∧ T.length = m
/-- what texts hands back -/
def TxR (S : Option (List (Option (List Int)))) (w : World) (e : Ending) (w' : World) : Prop :=
  ∃ C m g ok, e = .returned (.tuple #[.slice C m g, .bool ok]) ∧ ok = S.isSome ∧ (∀ L, S = some L → ∃ T, TxL w' C m T ∧ T.map topt = L ∧ m ≤ 65) ∧ Below w.heap.size w w'
theorem txtOk_below {w w' : World} {r : TRow} (h : TxtOk w r) {B : Nat} (hB : w.heap.size ≤ B) (hb : Below B w w') : TxtOk w' r := ⟨h.1.below hB hb, h.2⟩
theorem txtOk_own {w : World} {base n c e : Nat} {A : Option Addr} {zs : List Int} (h : w.ownsRow base e 1 (.slice A n c) n (intsV .u8 zs)) (hb : Byt zs) (hn : n ≤ 1048576) : TxtOk w ⟨A, n, c, zs⟩ :=
  ⟨⟨Rd.of_own h, by unfold maxLen; exact Nat.le_trans hn (by decide), fun z hz => by
    obtain ⟨h1, h2⟩ := hb z hz
    show (Lit.int .u8 z).wf = true
    have e1 : IntKind.u8.min = 0 := rfl
    have e2 : IntKind.u8.max = 255 := rfl
    simp [Lit.wf, e1, e2]; omega⟩, hb, hn⟩
theorem topt_own {w : World} {base n c e : Nat} {A : Option Addr} {zs : List Int} (h : w.ownsRow base e 1 (.slice A n c) n (intsV .u8 zs)) (hn : 0 < n) : topt ⟨A, n, c, zs⟩ = some zs := by
  obtain ⟨ad, e, _⟩ := (Rd.of_own h).2 hn
  subst e
  exact if_neg (by simp)
end Lw
