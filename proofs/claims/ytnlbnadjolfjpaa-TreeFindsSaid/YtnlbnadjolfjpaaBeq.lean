/- bytes.Equal. -/
import Derived.Test.YtnlbnadjolfjpaaBytes3
import Derived.Laws.BytesArg
import Derived.Lib.Bytes
import Derived.Lib.Strings
namespace Lw
open Go Go.RowKit
theorem run_conv_rd {P : Program} {w : World} {src e : TypeId} (hs : P.underlying src = some (.slice e)) (he : P.underlying e = some (.int .u8)) {A : Option Addr} {n c : Nat} {xs : List Int} (R : Rd w 1 A n (intsV .u8 xs)) {dst : TypeId} (hd : P.underlying dst = some .string) :
    (convert src dst (.slice A n c)).run P w = .ok (.string (strOfNums xs)) w := by
  have hl0 : xs.length = n := by have := R.1; simpa [intsV] using this
  rcases A with _ | ad
  · have hn : n = 0 := by
      rcases Nat.eq_zero_or_pos n with h | h
      · exact h
      · obtain ⟨_, h2, _⟩ := R.2 h; cases h2
    subst hn
    have hx : xs = [] := List.eq_nil_of_length_eq_zero hl0
    subst hx
    exact run_convert_bytes_nil w src e hs he 0 c dst hd
  · have hl : (loadCells ad n).run P w = .ok (xs.map (Value.int .u8)).toArray w := by
      have := run_loadCells_list (P := P) w ad (xs.map (Value.int .u8)) (fun j v hj => by
        have hjl : j < xs.length := by have := (List.getElem?_eq_some_iff.1 hj).1; simpa using this
        obtain ⟨ad', e, _, hc⟩ := R.2 (by omega)
        injection e with e; subst e
        exact hc j v hj)
      simpa [hl0] using this
    rw [run_convert_bytes_string w src dst e _ n c hs he hd, run_bytesToString w _ n c xs hl, foldl_push_bytes]
    simp [strOfNums, ByteArray.empty, ByteArray.emptyWithCapacity]
    rfl
theorem bytesOf_eq {xs ys : List Int} (hx : Byt xs) (hy : Byt ys) : (Lib.bytesOf xs == Lib.bytesOf ys) = decide (xs = ys) := by
  have key : Lib.bytesOf xs = Lib.bytesOf ys ↔ xs = ys := by
    refine ⟨fun h => ?_, fun h => by rw [h]⟩
    have hl : xs.length = ys.length := by have := congrArg List.length h; simpa [Lib.bytesOf] using this
    apply List.ext_getElem hl
    intro i h1 h2
    have e : (Lib.bytesOf xs)[i]? = (Lib.bytesOf ys)[i]? := by rw [h]
    simp only [Lib.bytesOf, List.getElem?_map, List.getElem?_eq_getElem h1, List.getElem?_eq_getElem h2, Option.map_some, Option.some.injEq] at e
    have a := hx _ (List.getElem_mem h1)
    have b := hy _ (List.getElem_mem h2)
    have e2 := congrArg UInt8.toNat e
    simp at e2
    omega
  rw [Bool.eq_iff_iff]; simp [key]
end Lw
set_option linter.unusedVariables false
set_option linter.unusedSimpArgs false
namespace Go.Proofs.Ytnlbnadjolfjpaa
open Go.RowKit
set_option maxHeartbeats 1000000 in
theorem bytes_Equal (A B : Option Addr) (n m c d : Nat) (xs ys : List Int) (w : World) (R1 : Lw.Rd w 1 A n (Lw.intsV .u8 xs)) (R2 : Lw.Rd w 1 B m (Lw.intsV .u8 ys)) (h1 : Lw.Byt xs) (h2 : Lw.Byt ys) :
    Calls Try.prog 52 #[.slice A n c, .slice B m d] w fun e w' => e = .returned (.bool (decide (xs = ys))) ∧ w = w' := by
  have g1 := Lw.run_conv_rd (P := Try.prog) (c := c) Try.underlying40 Try.underlying5 R1 Try.underlying9
  have g2 := Lw.run_conv_rd (P := Try.prog) (c := d) Try.underlying40 Try.underlying5 R2 Try.underlying9
  rw [← Lw.bytesOf_eq h1 h2, ← Lib.strOfNums_toList, ← Lib.strOfNums_toList]
  clear R1 R2
  go_enter Try.func52, Try.ntmps52
  go_wp2
  go_ret
  exact ⟨rfl, rfl⟩
end Go.Proofs.Ytnlbnadjolfjpaa
