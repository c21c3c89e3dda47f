/-
  bits.Len64: the contract of the kit laid at the seat x2 (written by the kit lay-plain.mjs; the numbers are this seat own).
  Taking the operations of a region by hand, with a condition on the world.
  What the walks of this seat share: imports, and words on memory.
  A range over a function whose iterator keeps its state in one block of cells of its own (a captured variable that it turns): the word of its contract, and the law for the loop.
  Slices: a slice that reads as a list of cells; a slice that a call has made; the appends.
  append onto a row of the call's own, the source any slice that reads as a list (nil let in): the operation and what it leaves.
  Regions that draw, walked by hand, with calls that make memory: the condition on the world is that all blocks of a world w0 stand.
  Rows of the call's own beside others: an append onto one leaves those of other elements.
  An argument that is a row of integers, in the words of the walks.
  An argument that is a slice (of numbers, of truths, of structs of such, of slices): what its memory holds, in one predicate.
  Bits of words: parities, and how math/bits counts (plain).
  Berlekamp and Massey, plain: the length that the rounds keep is the least of a rule.
  The least rule by rows of different tops, plain; and by trying taps one by one.
  The reference's can, plain: elimination keeps whether there is a solution.
  math/bits.OnesCount64 (its parity), shift.odd.
  shift.word, shift.Run, the reference's Run and Bools.
-/
import Derived.Shelf.Strconv.Itoa0
import Derived.Ground.NamesProg
import Derived.Test.YtafefengppiobaaProg
import Derived.Deep.RegionHeld3
import Derived.Test.YtafefengppiobaaChecked
import Derived.WalkKit
import Derived.ProofKit
import Derived.OpenShut
import Derived.WalkSpells
import Derived.WalkLawsBesides
import Derived.Handy
import Derived.Below
import Derived.Lib.Hide
import Derived.Outline
import Derived.Deep.QuietTactic
import Derived.BigQuiet
import Derived.Laws.BitsAllLaws
import Derived.RangeFuncNested
import Derived.RangeFuncBound
import Derived.RangeFuncCalls
import Derived.RangeFuncLeaves
import Derived.Shelf.Abstract
import Derived.Shelf.RegionOpen
import Derived.OwnWalkIn
import Derived.TacticsInMore
import Derived.LoopNIn
import Derived.LoopIn
import Derived.OneCell
import Derived.Laws.OwnMore
import Derived.Maps.AppendAt
import Derived.Lib.AppendZeros
import Derived.BigFrame
import Derived.Laws.MakeOwn
import Derived.Deep.Slices
import Derived.Deep.Fields
import Derived.ChangeSame
import Derived.ChangeShapes
namespace Go.Proofs
open Go.Shelf
def Try.len64_ren : Go.Shelf.Ren := ⟨fun | 129 => 20 | n => n, fun | 53 => 38 | 3 => 3 | 4 => 4 | 46 => 47 | 5 => 5 | 9 => 9 | n => n, fun | n => n⟩
theorem Try.len64 : Go.Proofs.Lays.n129 Try.prog Try.len64_ren := {
  mixed := by kernel_rfl
  f129 := Try.func20.trans (congrArg some (by kernel_rfl))
  t3 := Try.underlying3
  a3 := Try.isAgg3
  z3 := Try.sizeOf3
  v3 := Try.zeroValue3
  t4 := Try.underlying4
  a4 := Try.isAgg4
  z4 := Try.sizeOf4
  v4 := Try.zeroValue4
  t5 := Try.underlying5
  a5 := Try.isAgg5
  z5 := Try.sizeOf5
  v5 := Try.zeroValue5
  t9 := Try.underlying9
  a9 := Try.isAgg9
  z9 := Try.sizeOf9
  v9 := Try.zeroValue9
  t46 := Try.underlying47
  a46 := Try.isAgg47
  z46 := Try.sizeOf47
  v46 := Try.zeroValue47
  t53 := Try.underlying38
  a53 := Try.isAgg38
  z53 := Try.sizeOf38
  v53 := Try.zeroValue38 }
end Go.Proofs
namespace Lw
open Go
section
variable {P : Program} {ops : Array Oper} {Q : Exit → Act → World → Prop} {md : Region.Mode} {S : World → Prop}
theorem at_drop {i : Nat} {oi : Oper} {tl : List Oper} (hd : ops.toList.drop i = oi :: tl) : ops[i]? = some oi := by
  rw [← Array.getElem?_toList]
  have := List.getElem?_drop (xs := ops.toList) (i := i) (j := 0)
  rw [hd] at this
  simpa using this.symm
theorem take1 {i : Nat} {oi : Oper} {tl : List Oper} {v : Value} {fuel : Nat} {listed : Array Bool} {a : Act} {w : World} (hd : ops.toList.drop i = oi :: tl)
    (hs : Region.noSelect ops = true) (hf : Region.free md ops listed i = true) (hr : (Region.ready md ops listed).contains i = true)
    (hQ : ∀ c a w, Q (.panic c) (a.put oi.dst v) w → Q (.panic c) a w) (hy : YieldsIf P ops S oi v a) (hS : S w)
    (h : wpAnyH P md ops Q S fuel (listed.setIfInBounds i true) (a.put oi.dst v) w) : wpAnyH P md ops Q S (fuel + 1) listed a w :=
  wpAnyH_take (at_drop hd) hs hf hr hQ hy hS h
theorem cons1 {fuel : Nat} {listed : Array Bool} {a : Act} {w : World} {i : Nat} {o : Oper} {tl : List Oper} {rs : List Nat} (hd : ops.toList.drop i = o :: tl)
    (h : ∀ K' : Act → World → Prop, Shut (∀ a w, S w → (S w → wpAnyH P md ops Q S fuel (listed.setIfInBounds i true) a w) → K' a w) → if Region.wanted o (yielded ops a.tmps) = true then Oper.wp P o a w K' Q else K' (a.put o.dst undef) w)
    (hs : AllReadyH P md ops Q S fuel listed a w rs) : AllReadyH P md ops Q S fuel listed a w (i :: rs) := AllReadyH.cons (at_drop hd) h hs
end
end Lw
namespace Lw
open Go Go.RowKit

/-- A slice of integers that came in: nil, or a row of 'cap' cells, the numbers 'zs', of which the first 'len' are its elements. -/
def IsRow (k : IntKind) (w : World) (a : Option Addr) (len cap : Nat) (zs : List Int) : Prop :=
  (a = none ∧ len = 0 ∧ cap = 0 ∧ zs = []) ∨
  ∃ x, a = some x ∧ len ≤ cap ∧ cap ≤ maxLen ∧ zs.length = cap ∧ (∀ i, i < zs.length → w.cell? (x.add i) = some (.int k (zs.getD i 0))) ∧ ∀ n ∈ zs, (Lit.int k n).wf = true

/-- Behind a call that leaves the old blocks alone every old cell and every old mark reads as before. -/
theorem bcell {W w1 : World} (hb : Below W.heap.size W w1) : (∀ b o, b < W.heap.size → w1.cell? ⟨b, o, none⟩ = W.cell? ⟨b, o, none⟩) ∧ (∀ b o, b < W.heap.size → w1.frozen? ⟨b, o, none⟩ = W.frozen? ⟨b, o, none⟩) :=
  ⟨fun b o h => hb.cell (p := ⟨b, o, none⟩) h, fun b o h => hb.frozen (p := ⟨b, o, none⟩) h⟩
theorem bt {w W1 w1 : World} (h : Below w.heap.size w W1) (hb : Below W1.heap.size W1 w1) : Below w.heap.size w w1 := h.trans (hb.mono h.size)
theorem quiet {P : Program} {f : FuncId} {args : Array Value} {w : World} {n : Nat} {v : Value} (h : Calls P f args (w.drewN n) fun e w' => e = .returned v ∧ w.drewN n = w') : Calls P f args (w.drewN n) fun e w'' => e = .returned v ∧ ∃ m, w'' = w.drewN m :=
  h.mono fun _ _ ⟨he, hm⟩ => ⟨he, n, hm.symm⟩
theorem ret_int {k : IntKind} {a b : Int} (h : a = b) : Ending.returned (.int k a) = .returned (.int k b) := by rw [h]
theorem ret_bool {a b : Bool} (h : a = b) : Ending.returned (.bool a) = .returned (.bool b) := by rw [h]
theorem ret_ii {k l : IntKind} {a b c d : Int} (h : a = b) (g : c = d) : Ending.returned (.tuple #[.int k a, .int l c]) = .returned (.tuple #[.int k b, .int l d]) := by rw [h, g]
theorem ret_bi {l : IntKind} {a b : Bool} {c d : Int} (h : a = b) (g : c = d) : Ending.returned (.tuple #[.bool a, .int l c]) = .returned (.tuple #[.bool b, .int l d]) := by rw [h, g]
end Lw
set_option linter.unusedVariables false
set_option linter.unusedSimpArgs false
namespace Lw
open Go Go.RowKit
/-- J abides new blocks, and whatever is written into block c. -/
def AbC {β : Type} (c : Nat) (J : β → World → Prop) : Prop :=
  ∀ s W W' row, J s W → W.grownBy W' row → (∀ r, row = some r → r = c) → J s W'

/-- An iterator over the list xs whose own state is block c: for every loop body that leaves block c alone. -/
def CellSeq {α : Type} (F : Fence) (n : Nat) (P : Program) (g : Nat) (lb : Array Value) (encs : α → Array Value) (c : Nat) (xs : List α) (w : World) : Prop :=
  ∀ (l : Nat) (J Jx : List α → World → Prop) (W : World), W.heap[c]? = w.heap[c]? → AbC c J → AbC c Jx →
    (∀ pre x W1, J pre W1 → pre ++ [x] <+: xs → YieldAt F (n - 1) P l (encs x) W1 fun e W' =>
      (e = .returned (.bool true) ∧ J (pre ++ [x]) W' ∧ W'.heap[c]? = W1.heap[c]?) ∨ (e = .returned (.bool false) ∧ Jx (pre ++ [x]) W')) →
    J [] W →
    CallsIn F n P g (#[.func (.yield l) #[] #[]] ++ lb) W fun e W' => (∃ v, e = .returned v) ∧ (J xs W' ∨ ∃ pre, pre <+: xs ∧ Jx pre W')

variable {F : Fence} {n : Nat} {P : Program}

theorem wpIn_rangeC {α : Type} {g : Operand} {ps : Array Tmp} {assign body : Code} {Q : Exit → Act → World → Prop} {a : Act} {w : World}
    (hro : F.round = none) (h1 : 1 ≤ n) {gf : Nat} {lb : Array Value} (hg : a.eval g = .func (.func gf) #[] lb) (hFg : F.fn gf) (eg : ∀ args w, (callFunc gf args).run P w = .ok (.enter gf args) w)
    {encs : α → Array Value} {c : Nat} {xs : List α} (hseq : CellSeq F (n - 1) P gf lb encs c xs w) (hc : c < w.heap.size) (hps : ∀ x, (encs x).size = ps.size)
    (I : List α → World → Prop) (Ix : Code → List α → World → Prop) (hI : OwnFrom w.heap.size I) (hIc : AbC c I) (hIx : ∀ k, OwnFrom w.heap.size (Ix k)) (hIxc : ∀ k, AbC c (Ix k)) (h0 : I [] w)
    (Ax : α → Act → World → Prop) (hAx : ∀ x a', OwnFrom w.heap.size (fun (_ : Unit) W => Ax x a' W))
    (hassign : ∀ (l : Nat) (pre : List α) (x : α) (W : World) (K : Act → World → Prop), I pre W → (∀ a' W', KeepsFrom w.heap.size W W' → W'.heap[c]? = W.heap[c]? → I pre W' → Ax x a' W' → K a' W') →
      assign.wpIn (F.inRound l) (n - 1 - 1) P (Exit.then K (fun _ _ _ => False)) { tmps := (ps.zip (encs x)).foldl (fun t (p, v) => t.setIfInBounds p v) a.tmps, defers := [] } W)
    (hbody : ∀ (l : Nat) (pre : List α) (x : α) (a' : Act) (W : World), w.heap.size ≤ l → (∃ r, W.heap[l]? = some (.loop r)) → I pre W → Ax x a' W → pre ++ [x] <+: xs → body.wpIn (F.inRound l) (n - 1 - 1) P (ownPostG w.heap.size (fun A B => B.heap[c]? = A.heap[c]?) I Ix (pre ++ [x]) W) a' W)
    (hdone : ∀ (D : Nat) (W : World), w.heap.size ≤ D → I xs W → W.heap[D]? = some (.deferred (some [])) → Q .normal { a with defers := { target := .collected D, args := #[] } :: a.defers } W)
    (hstop : ∀ (D : Nat) (k : Code) (pre : List α) (W : World), w.heap.size ≤ D → pre <+: xs → Ix k pre W → W.heap[D]? = some (.deferred (some [])) → k.wpIn F n P Q { a with defers := { target := .collected D, args := #[] } :: a.defers } W) :
    (Code.rangeFunc g ps assign body).wpIn F n P Q a w := by
  refine wpIn_rangeFunc fun fn hfn => ?_
  rw [hro]
  obtain ⟨rec, hrec⟩ : ∃ rec : LoopState → Option Code → Loop, rec = fun st pe => { state := st, pending := pe, fn, tmps := a.tmps, params := ps, assign, body, defers := w.heap.size } := ⟨_, rfl⟩
  obtain ⟨W1, hW1⟩ : ∃ W1, (w.alloc (.deferred (some []))).alloc (.loop (rec .ready none)) = W1 := ⟨_, rfl⟩
  have hL1 : W1.heap[w.heap.size + 1]? = some (.loop (rec .ready none)) := by
    rw [← hW1]; have := World.alloc_heap_new (w.alloc (.deferred (some []))) (.loop (rec .ready none)); rwa [World.size_alloc] at this
  have hK1 : W1.heap[w.heap.size]? = some (.deferred (some [])) := by
    rw [← hW1]; exact (Below.heap_alloc _ _ _ (by simp)).trans (World.alloc_heap_new w _)
  have hc1 : W1.heap[c]? = w.heap[c]? := by
    rw [← hW1]; exact (Below.heap_alloc _ _ _ (by simp; omega)).trans (Below.heap_alloc _ _ _ hc)
  have hI1 : I [] W1 := by rw [← hW1]; exact hI.alloc _ (hI.alloc _ h0)
  refine ⟨w.heap.size + 1, [{ target := .collected w.heap.size, args := #[] }], W1, { target := .fn (.func gf) lb, args := #[.func (.yield (w.heap.size + 1)) #[] #[]] }, W1, gf,
    #[.func (.yield (w.heap.size + 1)) #[] #[]] ++ lb, W1, ?_, ?_, ?_, ?_, fun _ => h1, ?_⟩
  · rw [← hW1, hrec]; exact run_enterLoop_outer _ _ _ _ _
  · simp only [resolve, hg]
    simp [go_sem]
  · intro f' hf'; simp [Target.leads] at hf'; subst hf'; exact hFg
  · simp [invoke, go_sem, eg]
  · have keep : ∀ {A B : World} {row : Option Nat} {k : Nat}, A.grownBy B row → (∀ r, row = some r → r = c) → w.heap.size ≤ k → ∀ {o : Obj}, A.heap[k]? = some o → B.heap[k]? = some o := by
      intro A B row k hg' hr hk o ho
      have hk2 : k < A.heap.size := (Array.getElem?_eq_some_iff.1 ho).1
      rw [hg'.block k hk2 (fun e => by have := hr k e.symm; omega)]; exact ho
    refine (hseq (w.heap.size + 1)
      (fun pre W => I pre W ∧ W.heap[w.heap.size + 1]? = some (.loop (rec .ready none)) ∧ W.heap[w.heap.size]? = some (.deferred (some [])))
      (fun pre W => ∃ k, Ix k pre W ∧ W.heap[w.heap.size + 1]? = some (.loop (rec .done (some k))) ∧ W.heap[w.heap.size]? = some (.deferred (some [])))
      W1 hc1
      (fun s A B row hs hg' hr => ⟨hIc s A B row hs.1 hg' hr, keep hg' hr (by omega) hs.2.1, keep hg' hr (Nat.le_refl _) hs.2.2⟩)
      (fun s A B row hs hg' hr => by
        obtain ⟨k, hk, hl, hd⟩ := hs
        exact ⟨k, hIxc k s A B row hk hg' hr, keep hg' hr (by omega) hl, keep hg' hr (Nat.le_refl _) hd⟩)
      ?_ ⟨hI1, hL1, hK1⟩).mono ?_
    · rintro pre x W ⟨hi, hl, hk⟩ hx
      have hy := run_yield (P := P) (args := encs x) hl (by rw [hrec]; exact hps x)
      rw [hrec] at hy
      refine ⟨fn, _, assign, body, hy, roundIn_of_wpIn hfn (hassign _ pre x W _ hi ?_)⟩
      clear hy
      intro a' Wa hkfa hca hia hax
      have hla := hkfa.same _ _ (by omega) hl rfl
      have hka := hkfa.same _ _ (Nat.le_refl _) hk rfl
      have hlt : w.heap.size + 1 < Wa.heap.size := (Array.getElem?_eq_some_iff.1 hla).1
      refine ⟨_, run_beginRound hla (by rw [hrec]), ?_⟩
      obtain ⟨Wb, hWb⟩ : ∃ Wb, Wa.putObj (w.heap.size + 1) (.loop { rec .ready none with state := .busy }) = Wb := ⟨_, rfl⟩
      have hl2 : Wb.heap[w.heap.size + 1]? = some (.loop { rec .ready none with state := .busy }) := by rw [← hWb]; exact World.putObj_heap_same hlt
      have hk2 : Wb.heap[w.heap.size]? = some (.deferred (some [])) := by rw [← hWb]; exact (World.putObj_heap_other (by omega)).trans hka
      have hc2 : Wb.heap[c]? = Wa.heap[c]? := by rw [← hWb]; exact World.putObj_heap_other (by omega)
      have hi2 : I pre Wb := by rw [← hWb]; exact hI.putObj _ hia (by omega) hla rfl
      have hx2 : Ax x a' Wb := by rw [← hWb]; exact (hAx x a').putObj (s := ()) _ hax (by omega) hla rfl
      rw [hWb]
      refine wpIn_mono (hbody _ pre x a' _ (by omega) ⟨_, hl2⟩ hi2 hx2 hx) ?_
      have fin : ∀ (jump : Option Code) (W3 : World), KeepsFrom w.heap.size Wb W3 →
          (Instr.endRound (w.heap.size + 1) jump).run P W3 = .ok (.bool jump.isNone) (W3.putObj (w.heap.size + 1) (.loop (rec (if jump.isNone then .ready else .done) jump))) ∧
          W3.heap[w.heap.size + 1]? = some (.loop { rec .ready none with state := .busy }) ∧
          (W3.putObj (w.heap.size + 1) (.loop (rec (if jump.isNone then .ready else .done) jump))).heap[w.heap.size + 1]? = some (.loop (rec (if jump.isNone then .ready else .done) jump)) ∧
          (W3.putObj (w.heap.size + 1) (.loop (rec (if jump.isNone then .ready else .done) jump))).heap[w.heap.size]? = some (.deferred (some [])) := fun jump W3 hk3 => by
        have hl3 := hk3.same _ _ (by omega) hl2 rfl
        have := run_endRound (P := P) jump hl3
        rw [hrec] at this ⊢
        exact ⟨this, by rw [hrec] at hl3; exact hl3, World.putObj_heap_same (Array.getElem?_eq_some_iff.1 hl3).1, (World.putObj_heap_other (by omega)).trans (hk3.same _ _ (Nat.le_refl _) hk2 rfl)⟩
      have jumps : ∀ (k : Code) (W3 : World), KeepsFrom w.heap.size Wb W3 → Ix k (pre ++ [x]) W3 → _ := fun k W3 hk3 hi3 => (⟨fin (some k) W3 hk3, (hIx k).putObj (.loop (rec .done (some k))) hi3 (by omega) (fin (some k) W3 hk3).2.1 rfl⟩ : _ ∧ _)
      rintro e a3 W3 hp
      cases e with
      | normal =>
        obtain ⟨hk3, hkp3, hi3⟩ := hp
        obtain ⟨hr, hl3, hl4, hk4⟩ := fin none W3 hk3
        exact ⟨_, _, hr, .inl ⟨rfl, ⟨hI.putObj _ hi3 (by omega) hl3 rfl, hl4, hk4⟩, (World.putObj_heap_other (by omega)).trans (hkp3.trans (hc2.trans hca))⟩⟩
      | ret => obtain ⟨⟨hr, _, hl4, hk4⟩, hj⟩ := jumps .ret W3 hp.1 hp.2; exact ⟨_, _, hr, .inr ⟨rfl, .ret, hj, hl4, hk4⟩⟩
      | exit id => obtain ⟨⟨hr, _, hl4, hk4⟩, hj⟩ := jumps (.exit id) W3 hp.1 hp.2; exact ⟨_, _, hr, .inr ⟨rfl, .exit id, hj, hl4, hk4⟩⟩
      | goto t => obtain ⟨⟨hr, _, hl4, hk4⟩, hj⟩ := jumps (.goto t) W3 hp.1 hp.2; exact ⟨_, _, hr, .inr ⟨rfl, .goto t, hj, hl4, hk4⟩⟩
      | panic ch => exact hp.elim
      | outgrown => exact hp.elim
    · rintro e W2 ⟨⟨v, rfl⟩, (⟨hi, hl, hk⟩ | ⟨pre, hSp, k, hi, hl, hk⟩)⟩
      · exact ⟨none, _, by have := run_endLoop (P := P) hl (by rw [hrec]; simp); rw [hrec] at this; exact this, hdone _ _ (Nat.le_refl _) (hI.putObj _ hi (by omega) hl rfl) ((World.putObj_heap_other (by omega)).trans hk)⟩
      · exact ⟨some k, _, by have := run_endLoop (P := P) hl (by rw [hrec]; simp); rw [hrec] at this; exact this, hstop _ k pre _ (Nat.le_refl _) hSp ((hIx k).putObj _ hi (by omega) hl rfl) ((World.putObj_heap_other (by omega)).trans hk)⟩

/-! ### small words for the invariants -/
theorem blk_kept {W W' : World} {row : Option Nat} {b : Nat} {o : Obj} (h : W.heap[b]? = some o) (hg : W.grownBy W' row) (hr : row ≠ some b) : W'.heap[b]? = some o := by
  rw [hg.block b (Array.getElem?_eq_some_iff.1 h).1 (fun e => hr e.symm)]; exact h
theorem blk_own {β : Type} (B b : Nat) (o : β → Obj) (ho : ∀ s, (o s).isCells = true) : OwnFrom B (fun (s : β) W => W.heap[b]? = some (o s)) :=
  fun s W W' row h hg hr => blk_kept h hg (fun e => by obtain ⟨_, o', h', hn⟩ := hr b e; rw [h] at h'; cases h'; rw [ho] at hn; cases hn)
theorem blk_abc {β : Type} {c b : Nat} (h : b ≠ c) (o : β → Obj) : AbC c (fun (s : β) W => W.heap[b]? = some (o s)) :=
  fun s W W' row hs hg hr => blk_kept hs hg (fun e => h (hr b e))
theorem below_abc {β : Type} {c B : Nat} {w : World} (h : B ≤ c) (hB : B ≤ w.heap.size) : AbC c (fun (_ : β) W => Below B w W) :=
  fun s W W' row hs hg hr => hs.grown hg (by have := hs.size; omega) (fun k e => by rw [hr k e]; exact h)
theorem AbC.and {β : Type} {c : Nat} {I J : β → World → Prop} (h : AbC c I) (k : AbC c J) : AbC c (fun s W => I s W ∧ J s W) :=
  fun s W W' row hs hg hr => ⟨h s W W' row hs.1 hg hr, k s W W' row hs.2 hg hr⟩
theorem AbC.ex {β γ : Type} {c : Nat} {I : γ → β → World → Prop} (h : ∀ x, AbC c (I x)) : AbC c (fun s W => ∃ x, I x s W) :=
  fun s W W' row ⟨x, hs⟩ hg hr => ⟨x, h x s W W' row hs hg hr⟩
theorem abc_pure {β : Type} {c : Nat} (p : β → Prop) : AbC c (fun s (_ : World) => p s) := fun s W W' row hs hg hr => hs
theorem own_ex {β γ : Type} {B : Nat} {I : γ → β → World → Prop} (h : ∀ x, OwnFrom B (I x)) : OwnFrom B (fun s W => ∃ x, I x s W) :=
  fun s W W' row ⟨x, hs⟩ hg hr => ⟨x, h x s W W' row hs hg hr⟩
theorem own_pure {β : Type} {B : Nat} (p : β → Prop) : OwnFrom B (fun s (_ : World) => p s) := fun s W W' row hs hg hr => hs
theorem own_and {β : Type} {B : Nat} {I J : β → World → Prop} (h : OwnFrom B I) (k : OwnFrom B J) : OwnFrom B (fun s W => I s W ∧ J s W) :=
  fun s W W' row hs hg hr => ⟨h s W W' row hs.1 hg hr, k s W W' row hs.2 hg hr⟩
theorem own_below {β : Type} {B B' : Nat} {w : World} (h : B' ≤ B) (hB : B' ≤ w.heap.size) : OwnFrom B (fun (_ : β) W => Below B' w W) :=
  fun s W W' row hs hg hr => hs.grown hg (by have := hs.size; omega) (fun k e => by have := (hr k e).1; omega)
theorem own_size {β : Type} {B : Nat} (k : Nat) : OwnFrom B (fun (_ : β) W => k < W.heap.size) := fun s W W' row hs hg hr => Nat.lt_of_lt_of_le hs hg.size
theorem abc_size {β : Type} {c : Nat} (k : Nat) : AbC c (fun (_ : β) W => k < W.heap.size) := fun s W W' row hs hg hr => Nat.lt_of_lt_of_le hs hg.size
theorem blk_new (W : World) (cs : Array Value) (t : TypeId) : (W.alloc (.cells cs t)).heap[W.heap.size]? = some (.cells cs t) := World.alloc_heap_new W _
theorem blk_new' {W : World} {b : Nat} (hb : W.heap.size = b) (cs : Array Value) (t : TypeId) : (W.alloc (.cells cs t)).heap[b]? = some (.cells cs t) := by rw [← hb]; exact blk_new W cs t
theorem blk_alloc {W : World} {b : Nat} {o : Obj} (h : W.heap[b]? = some o) (o' : Obj) : (W.alloc o').heap[b]? = some o :=
  (Below.heap_alloc W o' b (Array.getElem?_eq_some_iff.1 h).1).trans h
theorem blk_lt {W : World} {b : Nat} {o : Obj} (h : W.heap[b]? = some o) : b < W.heap.size := (Array.getElem?_eq_some_iff.1 h).1
theorem blk_cell {W : World} {b : Nat} {cs : Array Value} {t : TypeId} (h : W.heap[b]? = some (.cells cs t (0, 0))) (i : Nat) : W.cell? ⟨b, i, none⟩ = cs[i]? := by simp [World.cell?, h]
theorem blk_free {W : World} {b : Nat} {cs : Array Value} {t : TypeId} (h : W.heap[b]? = some (.cells cs t (0, 0))) (i : Nat) : W.frozen? ⟨b, i, none⟩ = false := by simp [World.frozen?, h]
theorem blk_set_other {W : World} {b b' : Nat} {o : Obj} (h : W.heap[b]? = some o) (hne : b ≠ b') (i : Nat) (v : Value) : (W.setCell ⟨b', i, none⟩ v).heap[b]? = some o :=
  (Below.heap_setCell W ⟨b', i, none⟩ v b hne).trans h
theorem blk_set_same {W : World} {b : Nat} {cs : Array Value} {t : TypeId} (h : W.heap[b]? = some (.cells cs t (0, 0))) (i : Nat) (v : Value) : (W.setCell ⟨b, i, none⟩ v).heap[b]? = some (.cells (cs.setIfInBounds i v) t (0, 0)) := by
  simp [World.setCell, Array.getElem?_modify, h]
end Lw
set_option linter.unusedVariables false
set_option linter.unusedSimpArgs false
namespace Lw
open Go Go.RowKit
/-- the n elements of a slice, of sz cells each, are the cells xs -/
def Rd (w : World) (sz : Nat) (A : Option Addr) (n : Nat) (xs : List Value) : Prop :=
  xs.length = n * sz ∧ (0 < n → ∃ ad, A = some ad ∧ ad.block < w.heap.size ∧ ∀ j u, xs[j]? = some u → w.cell? (ad.add j) = some u)
theorem belowDrewN {B : Nat} {a w : World} (h : Below B a w) (n : Nat) : Below B a (w.drewN n) := ⟨h.os, h.tape, h.output, h.size, h.block⟩
theorem balloc {w W : World} (h : Below w.heap.size w W) (o : Obj) : Below w.heap.size w (W.alloc o) := h.alloc h.size o
theorem bset {w W : World} {p : Addr} (h : Below w.heap.size w W) (hp : w.heap.size ≤ p.block) (v : Value) : Below w.heap.size w (W.setCell p v) := h.setCell hp v
theorem bdrewN {w W : World} (h : Below w.heap.size w W) (n : Nat) : Below w.heap.size w (W.drewN n) := belowDrewN h n
theorem add_block (a : Addr) (n : Nat) : (a.add n).block = a.block := by unfold Addr.add; split <;> rfl
theorem add_add (a : Addr) (i j : Nat) : (a.add i).add j = a.add (i + j) := by
  unfold Addr.add
  by_cases hi : i = 0 <;> by_cases hj : j = 0 <;> simp [hi, hj, Nat.add_assoc]
theorem Rd.nil (w : World) (sz : Nat) (A : Option Addr) : Rd w sz A 0 [] := ⟨by simp, fun h => absurd h (by omega)⟩
theorem Rd.below {w w' : World} {sz n : Nat} {A : Option Addr} {xs : List Value} (h : Rd w sz A n xs) {B : Nat} (hB : w.heap.size ≤ B) (hb : Below B w w') : Rd w' sz A n xs :=
  ⟨h.1, fun hn => by
    obtain ⟨ad, e, hlt, hc⟩ := h.2 hn
    exact ⟨ad, e, by have := hb.size; omega, fun j u hu => (hb.cell (p := ad.add j) (by rw [add_block]; omega)).trans (hc j u hu)⟩⟩
theorem Rd.alloc {w : World} {sz n : Nat} {A : Option Addr} {xs : List Value} (h : Rd w sz A n xs) (o : Obj) : Rd (w.alloc o) sz A n xs :=
  h.below (Nat.le_refl _) ((Below.refl _ _).alloc (Nat.le_refl _) o)
theorem Rd.drewN {w : World} {sz n : Nat} {A : Option Addr} {xs : List Value} (h : Rd w sz A n xs) (k : Nat) : Rd (w.drewN k) sz A n xs := h
/-- the slice value, its cells, in the walk's words -/
theorem Rd.at_ {w : World} {sz n k : Nat} {A : Option Addr} {xs : List Value} (h : Rd w sz A n xs) (hk : k < n) :
    ∃ ad, A = some ad ∧ ad.block < w.heap.size ∧ ∀ j u, xs[k * sz + j]? = some u → w.cell? ((ad.add (k * sz)).add j) = some u := by
  obtain ⟨ad, e, hlt, hc⟩ := h.2 (by omega)
  exact ⟨ad, e, hlt, fun j u hu => by rw [add_add]; exact hc _ _ hu⟩
theorem add_zero' (a : Addr) : a.add 0 = a := rfl
theorem add_succ' (a : Addr) (j : Nat) : a.add (j + 1) = ⟨a.block, a.off + (j + 1), none⟩ := by unfold Addr.add; simp
/-- elements of one cell -/
theorem Rd.at1 {w : World} {n k : Nat} {A : Option Addr} {xs : List Value} {x : Value} (h : Rd w 1 A n xs) (hk : k < n) (h0 : xs[k]? = some x) :
    ∃ ad, A = some ad ∧ ad.block < w.heap.size ∧ w.cell? (ad.add k) = some x := by
  obtain ⟨ad, e, hb, hc⟩ := h.2 (by omega)
  exact ⟨ad, e, hb, hc _ _ h0⟩
/-- elements of two cells, as the walk spells their addresses -/
theorem Rd.at2 {w : World} {n k : Nat} {A : Option Addr} {xs : List Value} {x y : Value} (h : Rd w 2 A n xs) (hk : k < n) (h0 : xs[k * 2 + 0]? = some x) (h1 : xs[k * 2 + 1]? = some y) :
    ∃ ad, A = some ad ∧ ad.block < w.heap.size ∧ w.cell? (ad.add (k * 2)) = some x ∧ w.cell? ⟨(ad.add (k * 2)).block, (ad.add (k * 2)).off + 1, none⟩ = some y := by
  obtain ⟨ad, e, hb, hc⟩ := h.at_ hk
  refine ⟨ad, e, hb, ?_, ?_⟩
  · have := hc 0 _ h0; rwa [add_zero'] at this
  · have := hc 1 _ h1; rwa [add_succ'] at this
theorem Rd.of_own {w : World} {base sz n c : Nat} {A : Option Addr} {e : TypeId} {xs : List Value} (h : w.ownsRow base e sz (.slice A n c) n xs) : Rd w sz A n xs := by
  refine ⟨h.1, fun hn => ?_⟩
  rcases h.2 with ⟨_, h0⟩ | ⟨g, cap, cur, hv, hb, hh, _⟩
  · omega
  · have hA : A = some ⟨g, 0, none⟩ := by injection hv
    subst hA
    exact ⟨_, rfl, (Array.getElem?_eq_some_iff.1 hh).1, h.cells (g := g) rfl⟩
/-- four cells of a block of the call's own are kept over a call that makes memory -/
theorem gs_keep {w w1 w2 : World} {b : Nat} {x0 x1 x2 x3 : Value} (h0 : w1.cell? ⟨b, 0, none⟩ = some x0) (h1 : w1.cell? ⟨b, 1, none⟩ = some x1) (h2 : w1.cell? ⟨b, 2, none⟩ = some x2) (h3 : w1.cell? ⟨b, 3, none⟩ = some x3) (hl : b < w1.heap.size) (hB : Below w.heap.size w w1) (hb : Below w1.heap.size w1 w2) :
    w2.cell? ⟨b, 0, none⟩ = some x0 ∧ w2.cell? ⟨b, 1, none⟩ = some x1 ∧ w2.cell? ⟨b, 2, none⟩ = some x2 ∧ w2.cell? ⟨b, 3, none⟩ = some x3 ∧ b < w2.heap.size ∧ Below w.heap.size w w2 :=
  ⟨(hb.cell (p := ⟨b, 0, none⟩) hl).trans h0, (hb.cell (p := ⟨b, 1, none⟩) hl).trans h1, (hb.cell (p := ⟨b, 2, none⟩) hl).trans h2, (hb.cell (p := ⟨b, 3, none⟩) hl).trans h3, by have := hb.size; omega, bt hB hb⟩
/-- a slice of a block that is known whole -/
theorem Rd.lit {w : World} {b n sz : Nat} {cs : Array Value} {t : TypeId} {xs : List Value} (h : w.heap[b]? = some (.cells cs t (0, 0))) (hx : cs.toList = xs) (hl : xs.length = n * sz) : Rd w sz (some ⟨b, 0, none⟩) n xs :=
  ⟨hl, fun _ => ⟨_, rfl, (Array.getElem?_eq_some_iff.1 h).1, fun j u hu => by
    have e : (⟨b, 0, none⟩ : Addr).add j = ⟨b, j, none⟩ := by unfold Addr.add; split <;> simp_all
    rw [e, cell_of_row _ _ _ cs t (0, 0) h, ← Array.getElem?_toList, hx]; exact hu⟩⟩
theorem ownsForm {w : World} {base sz n : Nat} {v : Value} {e : TypeId} {xs : List Value} (h : w.ownsRow base e sz v n xs) : ∃ A c, v = .slice A n c ∧ n ≤ c ∧ c ≤ maxLen ∧ (A = none ∨ ∃ g, A = some ⟨g, 0, none⟩ ∧ base ≤ g ∧ g < w.heap.size) := by
  rcases h.2 with ⟨rfl, rfl⟩ | ⟨g, cap, cur, rfl, hb, hh, hc, hm, _⟩
  · exact ⟨none, 0, rfl, Nat.le_refl _, by unfold maxLen; omega, .inl rfl⟩
  · exact ⟨_, cap, rfl, hc, hm, .inr ⟨g, rfl, hb, (Array.getElem?_eq_some_iff.1 hh).1⟩⟩
theorem ownsBelow {w w' : World} {base B sz n : Nat} {v : Value} {e : TypeId} {xs : List Value} (h : w.ownsRow base e sz v n xs) (hB : w.heap.size ≤ B) (hb : Below B w w') : w'.ownsRow base e sz v n xs := by
  refine ⟨h.1, ?_⟩
  rcases h.2 with hn | ⟨g, cap, cur, rfl, hg, hh, rest⟩
  · exact .inl hn
  · have hlt := (Array.getElem?_eq_some_iff.1 hh).1
    exact .inr ⟨g, cap, cur, rfl, hg, (hb.block g (by omega)).trans hh, rest⟩
theorem ownsBase {w : World} {base base' sz n : Nat} {v : Value} {e : TypeId} {xs : List Value} (h : w.ownsRow base e sz v n xs) (hb : base' ≤ base) : w.ownsRow base' e sz v n xs := by
  refine ⟨h.1, ?_⟩
  rcases h.2 with hn | ⟨g, cap, cur, rfl, hg, rest⟩
  · exact .inl hn
  · exact .inr ⟨g, cap, cur, rfl, by omega, rest⟩
/-- what a call hands back that has made a slice -/
def OwnRes (T sz : Nat) (xs : List Value) (n : Nat) (w : World) (e : Ending) (w' : World) : Prop :=
  ∃ A c, e = .returned (.slice A n c) ∧ w'.ownsRow w.heap.size T sz (.slice A n c) n xs ∧ Below w.heap.size w w'
/-- behind an append onto a row of the call's own -/
theorem grown_own {w0 w w' : World} {base sz n : Nat} {v : Value} {e : TypeId} {xs : List Value} (hB : Below w0.heap.size w0 w) (h : w.ownsRow base e sz v n xs) (hb : w0.heap.size ≤ base) (hg : w.grownBy w' v.ownBlock) : Below w0.heap.size w0 w' :=
  hB.grown hg hB.size (fun k hk => by have := (h.lt k hk).1; omega)
theorem cells_new (w : World) (cs : Array Value) (t : TypeId) : ∀ j u, cs.toList[j]? = some u → (w.alloc (.cells cs t)).cell? ((⟨w.heap.size, 0, none⟩ : Addr).add j) = some u := by
  intro j u hu
  have e : (⟨w.heap.size, 0, none⟩ : Addr).add j = ⟨w.heap.size, j, none⟩ := by unfold Addr.add; split <;> simp_all
  rw [e, cell_of_row _ _ _ cs t (0, 0) (heap_alloc_new w _)]
  simpa using hu
/-- integers as cells -/
def intsV (k : IntKind) (zs : List Int) : List Value := zs.map (.int k)
theorem intsV_length (k : IntKind) (zs : List Int) : (intsV k zs).length = zs.length := by simp [intsV]
theorem intsV_get {k : IntKind} {zs : List Int} {i : Nat} (h : i < zs.length) : (intsV k zs)[i]? = some (.int k zs[i]) := by simp [intsV, h]
theorem intsV_one (k : IntKind) (zs : List Int) : ∀ u ∈ intsV k zs, u.oneCell' = true := by
  intro u hu; obtain ⟨x, _, rfl⟩ := List.mem_map.1 hu; rfl
theorem one1 (k : IntKind) (a : Int) : ∀ u ∈ [Value.int k a], u.oneCell' = true := by intro u hu; simp at hu; subst hu; rfl
theorem one2 (k l : IntKind) (a b : Int) : ∀ u ∈ [Value.int k a, Value.int l b], u.oneCell' = true := by intro u hu; simp at hu; rcases hu with rfl | rfl <;> rfl
theorem max_of {n : Nat} (h : n ≤ 140737488355328) : n ≤ maxLen := by unfold maxLen; omega
theorem grow_ok {w0 w : World} (hB : Below w0.heap.size w0 w) (o : Obj) : w0.heap.size ≤ (w.alloc o).heap.size := by have := hB.size; simp; omega
/-- pairs of integers as cells: structs of two integer fields -/
def pairsV (k l : IntKind) (zs : List (Int × Int)) : List Value := zs.flatMap fun x => [.int k x.1, .int l x.2]
theorem pairsV_length (k l : IntKind) (zs : List (Int × Int)) : (pairsV k l zs).length = zs.length * 2 := by
  induction zs with
  | nil => rfl
  | cons x zs ih => simp only [pairsV, List.flatMap_cons, List.length_append, List.length_cons, List.length_nil] at *; omega
theorem pairsV_append (k l : IntKind) (a b : List (Int × Int)) : pairsV k l (a ++ b) = pairsV k l a ++ pairsV k l b := by simp [pairsV]
theorem pairsV_get {k l : IntKind} : ∀ {zs : List (Int × Int)} {i : Nat} (h : i < zs.length), (pairsV k l zs)[i * 2 + 0]? = some (.int k zs[i].1) ∧ (pairsV k l zs)[i * 2 + 1]? = some (.int l zs[i].2)
  | x :: zs, 0, _ => by simp [pairsV]
  | x :: zs, i + 1, h => by
    have ih := pairsV_get (k := k) (l := l) (zs := zs) (i := i) (by simpa using h)
    have e : pairsV k l (x :: zs) = [.int k x.1, .int l x.2] ++ pairsV k l zs := by simp [pairsV]
    rw [e, List.getElem?_append_right (by simp; omega), List.getElem?_append_right (by simp; omega)]
    simp only [List.length_cons, List.length_nil, List.getElem_cons_succ]
    rw [show (i + 1) * 2 + 0 - (0 + 1 + 1) = i * 2 + 0 from by omega, show (i + 1) * 2 + 1 - (0 + 1 + 1) = i * 2 + 1 from by omega]
    exact ih
/-- elements of three cells -/
theorem Rd.at3 {w : World} {n k : Nat} {A : Option Addr} {xs : List Value} {x y z : Value} (h : Rd w 3 A n xs) (hk : k < n) (h0 : xs[k * 3 + 0]? = some x) (h1 : xs[k * 3 + 1]? = some y) (h2 : xs[k * 3 + 2]? = some z) :
    ∃ ad, A = some ad ∧ ad.block < w.heap.size ∧ w.cell? (ad.add (k * 3)) = some x ∧ w.cell? ⟨(ad.add (k * 3)).block, (ad.add (k * 3)).off + 1, none⟩ = some y ∧ w.cell? ⟨(ad.add (k * 3)).block, (ad.add (k * 3)).off + 2, none⟩ = some z := by
  obtain ⟨ad, e, hb, hc⟩ := h.at_ hk
  refine ⟨ad, e, hb, ?_, ?_, ?_⟩
  · have := hc 0 _ h0; rwa [add_zero'] at this
  · have := hc 1 _ h1; rwa [add_succ'] at this
  · have := hc 2 _ h2; rwa [add_succ'] at this
/-- structs of three integer fields -/
def tripsV (zs : List (Int × Int × Int)) : List Value := zs.flatMap fun x => [.int .i64 x.1, .int .i64 x.2.1, .int .i64 x.2.2]
theorem tripsV_length (zs : List (Int × Int × Int)) : (tripsV zs).length = zs.length * 3 := by
  induction zs with
  | nil => rfl
  | cons x zs ih => simp only [tripsV, List.flatMap_cons, List.length_append, List.length_cons, List.length_nil] at *; omega
theorem tripsV_get : ∀ {zs : List (Int × Int × Int)} {i : Nat} (h : i < zs.length), (tripsV zs)[i * 3 + 0]? = some (.int .i64 zs[i].1) ∧ (tripsV zs)[i * 3 + 1]? = some (.int .i64 zs[i].2.1) ∧ (tripsV zs)[i * 3 + 2]? = some (.int .i64 zs[i].2.2)
  | x :: zs, 0, _ => by simp [tripsV]
  | x :: zs, i + 1, h => by
    have ih := tripsV_get (zs := zs) (i := i) (by simpa using h)
    have e : tripsV (x :: zs) = [.int .i64 x.1, .int .i64 x.2.1, .int .i64 x.2.2] ++ tripsV zs := by simp [tripsV]
    rw [e, List.getElem?_append_right (by simp; omega), List.getElem?_append_right (by simp; omega), List.getElem?_append_right (by simp; omega)]
    simp only [List.length_cons, List.length_nil, List.getElem_cons_succ]
    rw [show (i + 1) * 3 + 0 - (0 + 1 + 1 + 1) = i * 3 + 0 from by omega, show (i + 1) * 3 + 1 - (0 + 1 + 1 + 1) = i * 3 + 1 from by omega, show (i + 1) * 3 + 2 - (0 + 1 + 1 + 1) = i * 3 + 2 from by omega]
    exact ih
/-- only block b, and what is new, has turned -/
theorem grown_set {a w : World} {b : Nat} {i : Nat} (h : Below a.heap.size a w) (v : Value) : a.grownBy (w.setCell ⟨b, i, none⟩ v) (some b) :=
  ⟨h.os, h.tape, h.output, by simpa [World.setCell] using h.size, fun j hj hne => (Below.heap_setCell w ⟨b, i, none⟩ v j (by rintro rfl; exact hne rfl)).trans (h.block j hj)⟩
theorem grown_below {a w : World} {b B : Nat} (h : a.grownBy w (some b)) (hB : B ≤ b) (hs : B ≤ a.heap.size) : Below B a w :=
  ⟨h.os, h.tape, h.output, h.size, fun j hj => h.block j (by omega) (by intro e; injection e; omega)⟩
end Lw
set_option linter.unusedVariables false
set_option linter.unusedSimpArgs false
namespace Lw
open Go Go.RowKit
/-- what the program says of a slice type t, its elements' type e: the element's zero value, its cells, its bytes -/
def El (P : Program) (t e : TypeId) (z : Value) (size bytes : Nat) : Prop :=
  P.underlying t = some (.slice e) ∧ z.cells.size = size ∧ 0 < size ∧ bytes ≤ 4096 ∧ ∃ i, P.info? e = some i ∧ i.zero = some z ∧ i.size = size ∧ i.bytes = bytes
theorem El.mk' {P : Program} {t e : TypeId} {z : Value} {size bytes : Nat} (h : P.underlying t = some (.slice e)) (hi : (P.info? e).map (fun i => (i.zero, i.size, i.bytes)) = some (some z, size, bytes)) (hz : z.cells.size = size) (h0 : 0 < size) (hb : bytes ≤ 4096) : El P t e z size bytes :=
  ⟨h, hz, h0, hb, info_parts hi⟩
section
variable {P : Program} {w : World}
theorem run_app {t ty e : TypeId} {z : Value} {size bytes base : Nat} (hel : El P t e z size bytes) {v : Value} {n : Nat} {xs : List Value} (hown : w.ownsRow base e size v n xs) {A : Option Addr} {m c : Nat} {news : List Value} (R : Rd w size A m news) (h1 : ∀ u ∈ news, u.oneCell' = true) (hm : n + m ≤ 16777216) (hbase : base ≤ w.heap.size) :
    ∃ v' w', (Builtin.append_ #[t, t] ty #[v, .slice A m c]).run P w = .ok v' w' ∧ w'.ownsRow base e size v' (n + m) (xs ++ news) ∧ w.grownBy w' v.ownBlock ∧ (v'.ownBlock = v.ownBlock ∨ v'.ownBlock = some w.heap.size) := by
  obtain ⟨ht, hz, h0, hb, i, hi, hiz, hsz, hby⟩ := hel
  have hbound : (n + m) * bytes ≤ 140737488355328 := by
    have := Nat.mul_le_mul hm hb; omega
  rcases A with _ | ad
  · have hm0 : m = 0 := by
      rcases Nat.eq_zero_or_pos m with h | h
      · exact h
      · obtain ⟨_, h2, _⟩ := R.2 h; cases h2
    subst hm0
    have hn : news = [] := List.eq_nil_of_length_eq_zero (by simpa using R.1)
    subst hn
    refine ⟨v, w, ?_, by simpa using hown, World.grownBy.refl w _, .inl rfl⟩
    rcases hown.2 with ⟨rfl, rfl⟩ | ⟨g, cap, cur, rfl, _, _, hnc, _⟩
    · simp [Builtin.append_, run_underlying ht, Go.sizeOf, typeInfo, hi, Builtin.lenOf, Builtin.firstCells]
    · simp [Builtin.append_, run_underlying ht, Go.sizeOf, typeInfo, hi, Builtin.lenOf, Builtin.firstCells, hnc, storeCells]
  · have hc : ∀ j u, news[j]? = some u → w.cell? (ad.add j) = some u := by
      intro j u hu
      rcases Nat.eq_zero_or_pos m with h | h
      · subst h
        have hn : news = [] := List.eq_nil_of_length_eq_zero (by simpa using R.1)
        subst hn; simp at hu
      · obtain ⟨ad', h2, _, h3⟩ := R.2 h
        injection h2 with h2; subst h2; exact h3 j u hu
    obtain ⟨v', w', a, b, c', _, d⟩ := run_append_own_at (P := P) w base t ty e i z size bytes ht hi hiz hsz hby hz h0 v n xs hown ad m c news R.1 hc h1 (max_of (by omega)) hbound hbase
    exact ⟨v', w', a, b, c', d⟩
theorem wp_app {o : Oper} {a : Act} {K : Act → World → Prop} {Q : Exit → Act → World → Prop} {t e : TypeId} {z : Value} {size bytes base : Nat} (hel : El P t e z size bytes) (s x : Operand)
    (ho : o.op = .call { callee := .builtin .append, args := #[s, x], argTypes := #[t, t] }) {v : Value} {n : Nat} {xs : List Value} (hs : a.eval s = v) (hown : w.ownsRow base e size v n xs) {A : Option Addr} {m c : Nat} {news : List Value} (hx : a.eval x = .slice A m c) (R : Rd w size A m news) (h1 : ∀ u ∈ news, u.oneCell' = true) (hm : n + m ≤ 16777216)
    {w0 : World} (hB : Below w0.heap.size w0 w) (hb0 : w0.heap.size ≤ base) (hbase : base ≤ w.heap.size)
    (h : ∀ v' w', w'.ownsRow base e size v' (n + m) (xs ++ news) → Below w0.heap.size w0 w' → w.grownBy w' v.ownBlock → (v'.ownBlock = v.ownBlock ∨ v'.ownBlock = some w.heap.size) → K (a.put o.dst v') w') : o.wp P a w K Q := by
  obtain ⟨v', w', hr, h2, h3, h4⟩ := run_app (ty := o.type) (c := c) hel hown R h1 hm hbase
  unfold Oper.wp execOp
  simp only [ho, resolve, invoke, builtin, Sem.run_bind, Sem.run_pure, Result.andThen_ok, List.map_toArray, List.map_cons, List.map_nil, hs, hx, hr]
  exact h v' w' h2 (grown_own hB hown hb0 h3) h3 h4
theorem wpList_app {ops : Array Oper} {rest : List Oper} {o : Oper} {a : Act} {Q : Exit → Act → World → Prop} {t e : TypeId} {z : Value} {size bytes base : Nat} (hel : El P t e z size bytes) (hgd : o.guard = none) (s x : Operand)
    (ho : o.op = .call { callee := .builtin .append, args := #[s, x], argTypes := #[t, t] }) {v : Value} {n : Nat} {xs : List Value} (hs : a.eval s = v) (hown : w.ownsRow base e size v n xs) {A : Option Addr} {m c : Nat} {news : List Value} (hx : a.eval x = .slice A m c) (R : Rd w size A m news) (h1 : ∀ u ∈ news, u.oneCell' = true) (hm : n + m ≤ 16777216)
    {w0 : World} (hB : Below w0.heap.size w0 w) (hb0 : w0.heap.size ≤ base) (hbase : base ≤ w.heap.size)
    (h : ∀ v' w', w'.ownsRow base e size v' (n + m) (xs ++ news) → Below w0.heap.size w0 w' → w.grownBy w' v.ownBlock → (v'.ownBlock = v.ownBlock ∨ v'.ownBlock = some w.heap.size) → wpList P ops Q rest (a.put o.dst v') w') : wpList P ops Q (o :: rest) a w :=
  wpList_plain hgd fun _ hK => wp_app hel s x ho hs hown hx R h1 hm hB hb0 hbase fun v' w' h2 h3 h4 h5 => hK _ _ (h v' w' h2 h3 h4 h5)
theorem wpList_app_g {ops : Array Oper} {rest : List Oper} {o : Oper} {a : Act} {Q : Exit → Act → World → Prop} {t e : TypeId} {z : Value} {size bytes base : Nat} (hel : El P t e z size bytes) (hw : Region.wanted o (yielded ops a.tmps) = true) (s x : Operand)
    (ho : o.op = .call { callee := .builtin .append, args := #[s, x], argTypes := #[t, t] }) {v : Value} {n : Nat} {xs : List Value} (hs : a.eval s = v) (hown : w.ownsRow base e size v n xs) {A : Option Addr} {m c : Nat} {news : List Value} (hx : a.eval x = .slice A m c) (R : Rd w size A m news) (h1 : ∀ u ∈ news, u.oneCell' = true) (hm : n + m ≤ 16777216)
    {w0 : World} (hB : Below w0.heap.size w0 w) (hb0 : w0.heap.size ≤ base) (hbase : base ≤ w.heap.size)
    (h : ∀ v' w', w'.ownsRow base e size v' (n + m) (xs ++ news) → Below w0.heap.size w0 w' → w.grownBy w' v.ownBlock → (v'.ownBlock = v.ownBlock ∨ v'.ownBlock = some w.heap.size) → wpList P ops Q rest (a.put o.dst v') w') : wpList P ops Q (o :: rest) a w :=
  BigFrame.wpList_want hw fun _ hK => wp_app hel s x ho hs hown hx R h1 hm hB hb0 hbase fun v' w' h2 h3 h4 h5 => hK _ _ (h v' w' h2 h3 h4 h5)
theorem step_app {ops : Array Oper} {o : Oper} {a : Act} {K : Act → World → Prop} {Q : Exit → Act → World → Prop} {E : Prop} {t e : TypeId} {z : Value} {size bytes base : Nat} (hel : El P t e z size bytes) (hgd : o.guard = none) (s x : Operand)
    (ho : o.op = .call { callee := .builtin .append, args := #[s, x], argTypes := #[t, t] }) {v : Value} {n : Nat} {xs : List Value} (hs : a.eval s = v) (hown : w.ownsRow base e size v n xs) {A : Option Addr} {m c : Nat} {news : List Value} (hx : a.eval x = .slice A m c) (R : Rd w size A m news) (h1 : ∀ u ∈ news, u.oneCell' = true) (hm : n + m ≤ 16777216)
    {w0 : World} (hB : Below w0.heap.size w0 w) (hb0 : w0.heap.size ≤ base) (hbase : base ≤ w.heap.size)
    (h : ∀ v' w', w'.ownsRow base e size v' (n + m) (xs ++ news) → Below w0.heap.size w0 w' → w.grownBy w' v.ownBlock → (v'.ownBlock = v.ownBlock ∨ v'.ownBlock = some w.heap.size) → K (a.put o.dst v') w') : if Region.wanted o (yielded ops a.tmps) = true then Oper.wp P o a w K Q else E := by
  have hw : Region.wanted o (yielded ops a.tmps) = true := by simp [Region.wanted, hgd]
  rw [if_pos hw]
  exact wp_app hel s x ho hs hown hx R h1 hm hB hb0 hbase h
/-- a new row of zeros: 'append(nil, make([]T, n)...)' -/
theorem made_own {t tn ty e : TypeId} {z : Value} {bytes : Nat} (hel : El P t e z 1 bytes) {kn k : IntKind} (htn : P.underlying tn = some (.int kn)) (n : Nat) (h0 : 0 < n) (hn : n ≤ 16777216) :
    ∃ c cs, (Builtin.append_ #[t, tn] ty #[.slice none 0 0, .int k n]).run P w = .ok (.slice (some ⟨w.heap.size, 0, none⟩) n c) (w.drew.alloc (.cells cs e)) ∧ n ≤ c ∧ c ≤ maxLen ∧ cs.size = c := by
  obtain ⟨ht, hz, h0', hb, i, hi, hiz, hsz, hby⟩ := hel
  have hbound : n * i.bytes ≤ 281474976710656 := by
    rw [hby]; have := Nat.mul_le_mul hn hb; omega
  refine ⟨_, _, Lib.run_append_nil_zeros w t tn ty e i z k kn ht htn hi hiz n h0 (by omega) (by omega) hbound, grownCap_ge .., grownCap_le_maxLen _ _ _ _ (max_of (by omega)), ?_⟩
  have := grownCap_ge w n 0 e
  simp only [Array.size_append, size_zeroCells, hz]
  omega
end
/-- an element of a row of the call's own is set -/
theorem own_set {w : World} {base e n c g i : Nat} {v : Value} {xs : List Value} (h : w.ownsRow base e 1 (.slice (some ⟨g, 0, none⟩) n c) n xs) (hi : i < n) : (w.setCell ⟨g, i, none⟩ v).ownsRow base e 1 (.slice (some ⟨g, 0, none⟩) n c) n (xs.set i v) := by
  obtain ⟨hl, h2⟩ := h
  refine ⟨by simpa using hl, ?_⟩
  rcases h2 with ⟨h0, _⟩ | ⟨g', cap, cur, hv, hbg, hh, hnc, hcm, hcs, htake⟩
  · cases h0
  · injection hv with e1 e2 e3
    injection e1 with e1
    injection e1 with e1
    subst e1 e3
    refine .inr ⟨g, c, cur.setIfInBounds i v, rfl, hbg, ?_, hnc, hcm, by simpa using hcs, ?_⟩
    · simp [World.setCell, Array.getElem?_modify, hh]
    · rw [← htake, Array.toList_setIfInBounds, List.take_set]
/-- its cell, and that it may be written -/
theorem own_cell {w : World} {base e n c g i : Nat} {v : Value} {xs : List Value} (h : w.ownsRow base e 1 (.slice (some ⟨g, 0, none⟩) n c) n xs) (hv : xs[i]? = some v) : w.cell? ⟨g, i, none⟩ = some v ∧ w.frozen? ⟨g, i, none⟩ = false ∧ base ≤ g ∧ g < w.heap.size := by
  have h1 := h.cells (g := g) rfl i v hv
  have e : (⟨g, 0, none⟩ : Addr).add i = ⟨g, i, none⟩ := by unfold Addr.add; split <;> simp_all
  rw [e] at h1
  refine ⟨h1, ?_⟩
  rcases h.2 with ⟨h0, _⟩ | ⟨g', cap, cur, hv, hbg, hh, _⟩
  · cases h0
  · injection hv with e1 e2 e3
    injection e1 with e1
    injection e1 with e1
    subst e1
    exact ⟨by simp [World.frozen?, hh], hbg, blk_lt hh⟩
/-- a block that is known whole is the call's own -/
theorem own_blk {w : World} {base g e size n : Nat} {cs : List Value} (h : w.heap[g]? = some (.cells cs.toArray e (0, 0))) (hn : cs.length = n * size) (hm : n ≤ 16777216) (hb : base ≤ g) : w.ownsRow base e size (.slice (some ⟨g, 0, none⟩) n n) n cs :=
  ⟨hn, .inr ⟨g, n, cs.toArray, rfl, hb, h, Nat.le_refl _, max_of (by omega), by simpa using hn, by rw [← hn]; exact List.take_length⟩⟩
/-- 'make([]T, n)' -/
theorem run_mk {P : Program} {t e : TypeId} {z : Value} {bytes : Nat} (hel : El P t e z 1 bytes) (hz : z.cells = #[z]) (kl kc : IntKind) (n : Nat) (hn : n ≤ 16777216) (w : World) :
    (Instr.makeSlice t (.int kl (n : Int)) (.int kc (n : Int))).run P w = .ok (.slice (some ⟨w.heap.size, 0, none⟩) n n) (w.alloc (.cells (List.replicate n z).toArray e)) := by
  obtain ⟨ht, _, h0, hb, i, hi, hiz, hsz, hby⟩ := hel
  have hbound : (i.bytes : Int) * (n : Int) ≤ 281474976710656 := by
    rw [hby, Int.mul_comm]
    have := Nat.mul_le_mul hn hb
    have h2 : ((n * bytes : Nat) : Int) ≤ 281474976710656 := by omega
    rwa [Int.natCast_mul] at h2
  have hr := run_make w t e i z ht hi hiz kl kc n n (by omega) (by omega) hbound (by omega)
  rw [hr]
  simp only [Int.toNat_natCast, hsz, Nat.mul_one]
  have : madeCells z.cells n = (List.replicate n z).toArray := by
    rw [hz]
    apply Array.ext
    · simp [madeCells]
    · intro j h1 h2
      simp [madeCells, Nat.mod_one]
  rw [this]
/-- an element of an array of integers -/
theorem run_index_arr {P : Program} {t e : TypeId} {n : Nat} {k kk : IntKind} {cs : Array Value} (ht : P.underlying t = some (.array n e)) (he : P.underlying e = some (.int kk)) (hs : (P.info? e).map (·.size) = some 1) (i : Nat) (hi : i < n) {v : Value} (hv : cs[i]? = some v) (w : World) :
    (Instr.index t (.agg cs) (.int k (i : Int))).run P w = .ok v w := by
  have h1 : (0 : Int) ≤ (i : Int) := by omega
  obtain ⟨j, hj, hj1⟩ : ∃ j, P.info? e = some j ∧ j.size = 1 := by
    rcases h : P.info? e with _ | j
    · rw [h] at hs; simp at hs
    · rw [h] at hs; exact ⟨j, rfl, by simpa using hs⟩
  simp [Instr.index, asIntOf, run_underlying ht, run_underlying he, Go.sizeOf, typeInfo, hj, hj1, part, isAgg, hi, hv]
/-- a literal slice is the call's own -/
theorem own_lit (w : World) {base e size n : Nat} {cs : Array Value} {xs : List Value} (hx : cs.toList = xs) (hn : xs.length = n * size) (hm : n ≤ 16777216) (hb : base ≤ w.heap.size) : (w.alloc (.cells cs e)).ownsRow base e size (.slice (some ⟨w.heap.size, 0, none⟩) n n) n xs := by
  subst hx
  refine ⟨hn, .inr ⟨w.heap.size, n, cs, rfl, hb, heap_alloc_new _ _, Nat.le_refl _, max_of (by omega), by simpa using hn, ?_⟩⟩
  rw [← hn]; exact List.take_length
end Lw
namespace Lw
open Go Go.RowKit
/-- what stood in w0 stands in w -/
def Sm (w0 w : World) : Prop := (∀ p : Addr, p.block < w0.heap.size → w.cell? p = w0.cell? p) ∧ (∀ p : Addr, p.block < w0.heap.size → w.frozen? p = w0.frozen? p) ∧ w0.heap.size ≤ w.heap.size ∧ Below w0.heap.size w0 w
theorem sm_of {w0 w : World} (h : Below w0.heap.size w0 w) : Sm w0 w := ⟨fun _ hp => h.cell hp, fun _ hp => h.frozen hp, h.size, h⟩
theorem sm_bel {w0 w : World} (h : Sm w0 w) : Below w0.heap.size w0 w := h.2.2.2
theorem sm_drew (w0 : World) : Sm w0 w0.drew := sm_of (Below.drew (Below.refl _ _))
theorem sm_drew' {w0 w : World} (h : Sm w0 w) : Sm w0 w.drew := sm_of (Below.drew h.2.2.2)
theorem own_drew {w : World} {base e size n : Nat} {v : Value} {xs : List Value} (h : w.ownsRow base e size v n xs) : w.drew.ownsRow base e size v n xs := h
theorem Rd.drew {w : World} {sz n : Nat} {A : Option Addr} {xs : List Value} (h : Rd w sz A n xs) : Rd w.drew sz A n xs := h
theorem blk_drew {W : World} {b : Nat} {o : Option Obj} (h : W.heap[b]? = o) : W.drew.heap[b]? = o := h
theorem sm_keep {w0 w w' : World} (h : Sm w0 w) (hb : Below w.heap.size w w') : Sm w0 w' := sm_of (bt h.2.2.2 hb)
end Lw
namespace Lw
open Go Go.RowKit
theorem own_keep' {w w' : World} {b1 b2 e1 e2 s1 s2 n m : Nat} {u v : Value} {xs ys : List Value} (h : w.ownsRow b1 e1 s1 u n xs) (hv : w.ownsRow b2 e2 s2 v m ys) (he : e1 ≠ e2) (hg : w.grownBy w' v.ownBlock) : w'.ownsRow b1 e1 s1 u n xs := by
  obtain ⟨hl, h2⟩ := h
  refine ⟨hl, ?_⟩
  rcases h2 with ⟨h0, h1⟩ | ⟨g, cap, cur, hu, hbg, hh, rest⟩
  · exact .inl ⟨h0, h1⟩
  · refine .inr ⟨g, cap, cur, hu, hbg, ?_, rest⟩
    refine (hg.block g (Array.getElem?_eq_some_iff.1 hh).1 (fun e => ?_)).trans hh
    rcases hv.2 with ⟨h0, _⟩ | ⟨g2, cap2, cur2, hu2, _, hh2, _⟩
    · subst h0; cases e
    · subst hu2
      have : g2 = g := by injection e.symm
      subst this
      rw [hh] at hh2
      injection hh2 with hh2
      injection hh2 with _ h3
      exact he h3
theorem own_other {base e s n : Nat} {w : World} {v : Value} {xs : List Value} (h : w.ownsRow base e s v n xs) {k : Nat} {cs : Array Value} {t : TypeId} {z : Nat × Nat} (hk : w.heap[k]? = some (.cells cs t z)) (ht : t ≠ e) : v.ownBlock ≠ some k := by
  intro ek
  rcases h.2 with ⟨h0, _⟩ | ⟨g, cap, cur, hu, hbg, hh, _⟩
  · subst h0; cases ek
  · subst hu
    have : g = k := by injection ek
    subst this
    rw [hk] at hh; injection hh with hh; injection hh with _ h3; exact ht h3
theorem own_setk {base e s n : Nat} {w : World} {v : Value} {xs : List Value} (h : w.ownsRow base e s v n xs) {k i : Nat} {u : Value} (hk : v.ownBlock ≠ some k) : (w.setCell ⟨k, i, none⟩ u).ownsRow base e s v n xs := by
  obtain ⟨hl, h2⟩ := h
  refine ⟨hl, ?_⟩
  rcases h2 with ⟨h0, h1⟩ | ⟨g, cap, cur, hv, hbg, hh, rest⟩
  · exact .inl ⟨h0, h1⟩
  · refine .inr ⟨g, cap, cur, hv, hbg, ?_, rest⟩
    rw [Below.heap_setCell w ⟨k, i, none⟩ u g (by subst hv; intro e; exact hk (by rw [show g = k from e]; rfl))]
    exact hh
end Lw
namespace Lw
open Go Go.RowKit
theorem cell_lt {w : World} {p : Addr} {v : Value} (h : w.cell? p = some v) : p.block < w.heap.size := by
  rcases Nat.lt_or_ge p.block w.heap.size with h1 | h1
  · exact h1
  · simp [World.cell?, Array.getElem?_eq_none h1] at h
theorem IsRow.rd {k : IntKind} {w : World} {a : Option Addr} {len cap : Nat} {zs : List Int} (h : IsRow k w a len cap zs) :
    Rd w 1 a len (intsV k (zs.take len)) ∧ len ≤ cap ∧ (zs.take len).length = len ∧ cap ≤ maxLen ∧ ∀ z ∈ zs.take len, (Lit.int k z).wf = true := by
  rcases h with ⟨rfl, rfl, rfl, rfl⟩ | ⟨x, rfl, h1, h2, h3, h4, h5⟩
  · exact ⟨Rd.nil _ _ _, Nat.le_refl _, rfl, by unfold maxLen; omega, by simp⟩
  · have hl : (zs.take len).length = len := by rw [List.length_take]; omega
    refine ⟨⟨by rw [intsV_length, hl]; omega, fun h0 => ⟨x, rfl, ?_, fun j u hu => ?_⟩⟩, h1, hl, h2, fun z hz => h5 z (List.mem_of_mem_take hz)⟩
    · have := cell_lt (h4 0 (by omega))
      rwa [add_block] at this
    · have hj : j < len := by
        have := (List.getElem?_eq_some_iff.1 hu).1
        rwa [intsV_length, hl] at this
      have hj2 : j < zs.length := by omega
      rw [intsV_get (by rw [hl]; exact hj)] at hu
      injection hu with hu
      subst hu
      rw [h4 j hj2]
      simp [List.getElem_take, List.getD_eq_getElem?_getD, hj2]
end Lw
namespace Lw
open Go Go.RowKit Go.ChangeShapes Go.WideShapes Go.Deep
/-- each cell meets its predicate -/
inductive All2 : List (Value → Prop) → List Value → Prop
  | nil : All2 [] []
  | cons {p : Value → Prop} {v : Value} {ps : List (Value → Prop)} {vs : List Value} : p v → All2 ps vs → All2 (p :: ps) (v :: vs)
theorem All2.length_eq {ps : List (Value → Prop)} {vs : List Value} (h : All2 ps vs) : ps.length = vs.length := by
  induction h with
  | nil => rfl
  | cons _ _ ih => simp [ih]
/-- a number of a kind; a truth -/
def IsI (k : IntKind) (v : Value) : Prop := ∃ n, v = .int k n ∧ (Lit.int k n).wf = true
def IsB (v : Value) : Prop := ∃ b, v = .bool b
/-- a slice whose elements are cells that meet ps, one by one -/
def IsSl (w : World) (ps : List (Value → Prop)) (A : Option Addr) (len cap : Nat) : Prop :=
  len ≤ cap ∧ cap ≤ maxLen ∧ ((A = none ∧ len = 0) ∨ ∃ x, A = some x ∧ ∀ i, i < len → ∃ vs : List Value, All2 ps vs ∧ ∀ j u, vs[j]? = some u → w.cell? (x.add (i * ps.length + j)) = some u)
/-- a value that is such a slice -/
def IsS (w : World) (ps : List (Value → Prop)) (v : Value) : Prop := ∃ A len cap, v = .slice A len cap ∧ IsSl w ps A len cap
section
variable {H : Type} {enc : TypeId × Value → H} {P : Program} {w : World} {base : Nat} {spare : Nat → Bool} {held : Bool}
/-- whatever reads at type t meets p -/
def Meets (enc : TypeId × Value → H) (P : Program) (w : World) (base : Nat) (spare : Nat → Bool) (held : Bool) (t : TypeId) (p : Value → Prop) : Prop := ∀ n v y, DataW.trod enc P w base spare held n t [v] = some y → p v
theorem meets_int {t : TypeId} {k : IntKind} (h : P.underlying t = some (.int k)) : Meets enc P w base spare held t (IsI k) := by
  intro n v y hv
  obtain ⟨m, e, _, wf⟩ := DataW.trod_int h hv
  simp at e
  exact ⟨m, e, wf⟩
theorem meets_bool {t : TypeId} (h : P.underlying t = some .bool) : Meets enc P w base spare held t IsB := by
  intro n v y hv
  obtain ⟨m, e, _⟩ := DataW.trod_bool h hv
  simp at e
  exact ⟨m, e⟩
def FOk (enc : TypeId × Value → H) (P : Program) (w : World) (base : Nat) (spare : Nat → Bool) (held : Bool) : List Field → List (Value → Prop) → Prop
  | [], [] => True
  | f :: fs, p :: ps => Meets enc P w base spare held f.type p ∧ FOk enc P w base spare held fs ps
  | _, _ => False
theorem fok_nil : FOk enc P w base spare held [] [] := trivial
theorem fok_cons {f : Field} {fs : List Field} {p : Value → Prop} {ps : List (Value → Prop)} (h : Meets enc P w base spare held f.type p) (h2 : FOk enc P w base spare held fs ps) : FOk enc P w base spare held (f :: fs) (p :: ps) := ⟨h, h2⟩
theorem fok_len {fs : List Field} {ps : List (Value → Prop)} : FOk enc P w base spare held fs ps → fs.length = ps.length := by
  induction fs generalizing ps with
  | nil => intro h; cases ps with
    | nil => rfl
    | cons p ps => cases h
  | cons f fs ih => intro h; cases ps with
    | nil => cases h
    | cons p ps => simp [ih h.2]
theorem fok_all {fs : List Field} {ps : List (Value → Prop)} (hf : FOk enc P w base spare held fs ps) {vs : List Value} (hl : vs.length = fs.length)
    (h : ∀ (j : Nat) (f : Field), fs[j]? = some f → ∃ (n : Nat) (y : DataW H × List MemPlace) (v : Value), vs[j]? = some v ∧ DataW.trod enc P w base spare held n f.type [v] = some y) : All2 ps vs := by
  induction fs generalizing ps vs with
  | nil => cases ps with
    | nil => cases vs with
      | nil => exact .nil
      | cons v vs => simp at hl
    | cons p ps => cases hf
  | cons f fs ih => cases ps with
    | nil => cases hf
    | cons p ps => cases vs with
      | nil => simp at hl
      | cons v vs =>
        obtain ⟨n, y, v', hv, ht⟩ := h 0 f rfl
        simp at hv; subst hv
        refine .cons (hf.1 n _ y ht) (ih hf.2 (by simpa using hl) fun j f' hj => ?_)
        exact h (j + 1) f' (by simpa using hj)
theorem sl_fields {t e : TypeId} {fs : Array Field} {ps : List (Value → Prop)} (ht : P.underlying t = some (.slice e)) (he : P.underlying e = some (.struct fs)) (hone : oneCellFields P fs = true) (hC : P.cellsOf e = fs.size)
    (hf : FOk enc P w base spare held fs.toList ps) {A : Option Addr} {len cap n : Nat} {y : DataW H × List MemPlace} (h : DataW.trod enc P w base spare held n t [.slice A len cap] = some y) : IsSl w ps A len cap := by
  have hpl : ps.length = fs.size := by rw [← fok_len hf]; simp
  rcases open_slice ht h with ⟨h0, _⟩ | ⟨a, l, c, m, n', D, Pl, hcs, hb, hl, hm, hmm, hx, hi⟩
  · simp at h0; obtain ⟨rfl, rfl, rfl⟩ := h0
    exact ⟨Nat.le_refl _, by unfold maxLen; omega, .inl ⟨rfl, rfl⟩⟩
  · simp at hcs; obtain ⟨rfl, rfl, rfl⟩ := hcs
    refine ⟨hl, hm, .inr ⟨a, rfl, fun i hil => ?_⟩⟩
    have him : i < m := by rw [hmm]; split <;> omega
    obtain ⟨cs', hc, ht'⟩ := hi i him
    rw [hC] at hc
    obtain ⟨ys, n'', hn', hy, hlen, hyl, hfd⟩ := DataW.trod_struct he ht'
    obtain ⟨_, hcl, hat⟩ := World.cells?_some hc
    refine ⟨cs', fok_all hf (by simpa using hcl) fun j f hj => ?_, fun j u hu => ?_⟩
    · have hj' : fs[j]? = some f := by simpa using hj
      obtain ⟨ho, hk⟩ := hone_of hone j f hj'
      have hjl : j < fs.size := (Array.getElem?_eq_some_iff.1 hj').1
      have h1 := hfd j f hj'
      rw [ho, hk, take1_drop cs' j undef (by omega)] at h1
      have hys : ys[j]? = some (ys[j]'(by omega)) := List.getElem?_eq_getElem (by omega)
      have e : cs'.getD j undef = cs'[j]'(by omega) := by rw [List.getD_eq_getElem?_getD, List.getElem?_eq_getElem (by omega)]; rfl
      rw [e] at h1
      exact ⟨n'', ys[j]'(by omega), cs'[j]'(by omega), List.getElem?_eq_getElem (by omega), h1.trans hys⟩
    · have hjl : j < fs.size := by have := (List.getElem?_eq_some_iff.1 hu).1; omega
      rw [hpl, ← Go.Deep.add_add, hat j hjl]
      exact hu
theorem sl_one {t e : TypeId} {p : Value → Prop} (ht : P.underlying t = some (.slice e)) (hC : P.cellsOf e = 1) (hf : Meets enc P w base spare held e p) {A : Option Addr} {len cap n : Nat} {y : DataW H × List MemPlace}
    (h : DataW.trod enc P w base spare held n t [.slice A len cap] = some y) : IsSl w [p] A len cap := by
  rcases open_slice1 ht hC h with ⟨h0, _⟩ | ⟨a, l, c, m, n', V, D, Pl, hcs, hb, hl, hm, hmm, hx, hi⟩
  · simp at h0; obtain ⟨rfl, rfl, rfl⟩ := h0
    exact ⟨Nat.le_refl _, by unfold maxLen; omega, .inl ⟨rfl, rfl⟩⟩
  · simp at hcs; obtain ⟨rfl, rfl, rfl⟩ := hcs
    refine ⟨hl, hm, .inr ⟨a, rfl, fun i hil => ?_⟩⟩
    have him : i < m := by rw [hmm]; split <;> omega
    obtain ⟨hc, ht'⟩ := hi i him
    refine ⟨[V i], .cons (hf _ _ _ ht') .nil, fun j u hu => ?_⟩
    match j, hu with
    | 0, hu => simp at hu; subst hu; simpa using hc
theorem meets_slice {t e : TypeId} {ps : List (Value → Prop)} (ht : P.underlying t = some (.slice e)) (hf : ∀ (A : Option Addr) (len cap n : Nat) (y : DataW H × List MemPlace), DataW.trod enc P w base spare held n t [.slice A len cap] = some y → IsSl w ps A len cap) : Meets enc P w base spare held t (IsS w ps) := by
  intro n v y hv
  rcases open_slice ht hv with ⟨h0, _⟩ | ⟨a, l, c, m, n', D, Pl, hcs, _⟩
  · simp at h0; subst h0; exact ⟨_, _, _, rfl, hf _ _ _ _ _ hv⟩
  · simp at hcs; subst hcs; exact ⟨_, _, _, rfl, hf _ _ _ _ _ hv⟩
end
/-- the elements, as a list of rows of cells -/
theorem IsSl.list {w : World} {ps : List (Value → Prop)} {A : Option Addr} {len cap : Nat} (h : IsSl w ps A len cap) (h0 : 0 < ps.length) :
    ∃ L : List (List Value), L.length = len ∧ (∀ vs ∈ L, All2 ps vs) ∧ Rd w ps.length A len L.flatten := by
  obtain ⟨hl, hm, h⟩ := h
  rcases h with ⟨rfl, rfl⟩ | ⟨x, rfl, hi⟩
  · exact ⟨[], rfl, by simp, Rd.nil _ _ _⟩
  · have key : ∀ n, n ≤ len → ∃ L : List (List Value), L.length = n ∧ (∀ vs ∈ L, All2 ps vs) ∧ L.flatten.length = n * ps.length ∧ ∀ j u, L.flatten[j]? = some u → w.cell? (x.add j) = some u := by
      intro n
      induction n with
      | zero => intro _; exact ⟨[], rfl, by simp, by simp, by simp⟩
      | succ n ih =>
        intro hn
        obtain ⟨L, h1, h2, h3, h4⟩ := ih (by omega)
        obtain ⟨vs, hv, hc⟩ := hi n (by omega)
        have hvl : ps.length = vs.length := hv.length_eq
        refine ⟨L ++ [vs], by simp [h1], fun z hz => ?_, ?_, fun j u hu => ?_⟩
        · rcases List.mem_append.1 hz with hz | hz
          · exact h2 z hz
          · simp at hz; subst hz; exact hv
        · simp only [List.flatten_append, List.length_append, h3, List.flatten_cons, List.flatten_nil, List.append_nil, ← hvl, Nat.succ_mul]
        · simp only [List.flatten_append, List.flatten_cons, List.flatten_nil, List.append_nil] at hu
          by_cases hj : j < n * ps.length
          · rw [List.getElem?_append_left (by omega)] at hu; exact h4 j u hu
          · rw [List.getElem?_append_right (by omega), h3] at hu
            have := hc _ u hu
            rwa [show n * ps.length + (j - n * ps.length) = j by omega] at this
    obtain ⟨L, h1, h2, h3, h4⟩ := key len (Nat.le_refl _)
    refine ⟨L, h1, h2, h3, fun hp => ⟨x, rfl, ?_, h4⟩⟩
    have : 0 < L.flatten.length := by rw [h3]; exact Nat.mul_pos hp h0
    have := cell_lt (h4 0 _ (List.getElem?_eq_getElem this))
    rwa [add_block] at this
/-- rows of three numbers -/
theorem list3 {k0 k1 k2 : IntKind} : ∀ {L : List (List Value)}, (∀ vs ∈ L, All2 [IsI k0, IsI k1, IsI k2] vs) → ∃ T : List (Int × Int × Int), L = T.map (fun t => [.int k0 t.1, .int k1 t.2.1, .int k2 t.2.2]) ∧ ∀ t ∈ T, (Lit.int k0 t.1).wf = true ∧ (Lit.int k1 t.2.1).wf = true ∧ (Lit.int k2 t.2.2).wf = true
  | [], _ => ⟨[], rfl, by simp⟩
  | vs :: L, h => by
    obtain ⟨T, hT, hw⟩ := list3 (L := L) fun z hz => h z (by simp [hz])
    have h0 := h vs (by simp)
    cases h0 with | cons a h1 => cases h1 with | cons b h2 => cases h2 with | cons c h3 => cases h3 with | nil =>
      obtain ⟨n0, rfl, w0⟩ := a
      obtain ⟨n1, rfl, w1⟩ := b
      obtain ⟨n2, rfl, w2⟩ := c
      exact ⟨(n0, n1, n2) :: T, by simp [hT], by intro t ht; simp at ht; rcases ht with rfl | ht; exact ⟨w0, w1, w2⟩; exact hw t ht⟩
/-- rows of two numbers -/
theorem list2 {k0 k1 : IntKind} : ∀ {L : List (List Value)}, (∀ vs ∈ L, All2 [IsI k0, IsI k1] vs) → ∃ T : List (Int × Int), L = T.map (fun t => [.int k0 t.1, .int k1 t.2]) ∧ ∀ t ∈ T, (Lit.int k0 t.1).wf = true ∧ (Lit.int k1 t.2).wf = true
  | [], _ => ⟨[], rfl, by simp⟩
  | vs :: L, h => by
    obtain ⟨T, hT, hw⟩ := list2 (L := L) fun z hz => h z (by simp [hz])
    have h0 := h vs (by simp)
    cases h0 with | cons a h1 => cases h1 with | cons b h2 => cases h2 with | nil =>
      obtain ⟨n0, rfl, w0⟩ := a
      obtain ⟨n1, rfl, w1⟩ := b
      exact ⟨(n0, n1) :: T, by simp [hT], by intro t ht; simp at ht; rcases ht with rfl | ht; exact ⟨w0, w1⟩; exact hw t ht⟩
end Lw
namespace Lw
/-- whether an odd number of the first n is true -/
def xorT : Nat → (Nat → Bool) → Bool
  | 0, _ => false
  | n + 1, f => xorT n f ^^ f n
theorem xorT_congr {f g : Nat → Bool} : ∀ {n : Nat}, (∀ k, k < n → f k = g k) → xorT n f = xorT n g
  | 0, _ => rfl
  | n + 1, h => by unfold xorT; rw [xorT_congr (n := n) fun k hk => h k (by omega), h n (by omega)]
theorem xorT_add (f : Nat → Bool) (m : Nat) : ∀ n : Nat, xorT (m + n) f = (xorT m f ^^ xorT n fun k => f (m + k))
  | 0 => by simp [xorT]
  | n + 1 => by
    show (xorT (m + n) f ^^ f (m + n)) = _
    rw [xorT_add f m n]
    show _ = (xorT m f ^^ (xorT n (fun k => f (m + k)) ^^ f (m + n)))
    rw [Bool.xor_assoc]
theorem xorT_false {f : Nat → Bool} : ∀ {n : Nat}, (∀ k, k < n → f k = false) → xorT n f = false
  | 0, _ => rfl
  | n + 1, h => by unfold xorT; rw [xorT_false (n := n) fun k hk => h k (by omega), h n (by omega)]; rfl
theorem xorT_more {f : Nat → Bool} {m n : Nat} (hmn : m ≤ n) (h : ∀ k, m ≤ k → k < n → f k = false) : xorT n f = xorT m f := by
  obtain ⟨d, rfl⟩ : ∃ d, n = m + d := ⟨n - m, by omega⟩
  rw [xorT_add, xorT_false (n := d) fun k hk => h _ (by omega) (by omega), Bool.xor_false]
theorem xorT_xor (f g : Nat → Bool) : ∀ n : Nat, xorT n (fun k => f k ^^ g k) = (xorT n f ^^ xorT n g)
  | 0 => rfl
  | n + 1 => by
    show (xorT n (fun k => f k ^^ g k) ^^ (f n ^^ g n)) = ((xorT n f ^^ f n) ^^ (xorT n g ^^ g n))
    rw [xorT_xor f g n]
    cases xorT n f <;> cases xorT n g <;> cases f n <;> cases g n <;> rfl
/-- whether an odd number of bits is set -/
def oddN (x : Nat) : Bool := xorT 64 x.testBit
theorem tb (a y j : Nat) (ha : a < 256) : (a + 256 * y).testBit j = if j < 8 then a.testBit j else y.testBit (j - 8) := by
  rw [Nat.add_comm]
  exact Nat.testBit_two_pow_mul_add y (i := 8) ha j
theorem and_dig (a c y M : Nat) (ha : a < 256) (hc : c < 256) : (a + 256 * y) &&& (c + 256 * M) = (a &&& c) + 256 * (y &&& M) := by
  apply Nat.eq_of_testBit_eq
  intro j
  rw [Nat.testBit_and, tb _ _ _ ha, tb _ _ _ hc, tb _ _ _ (Nat.lt_of_le_of_lt Nat.and_le_left ha)]
  split <;> simp [Nat.testBit_and]
theorem shr_dig (s a c y M : Nat) (ha : a < 256) (hc : c * 2 ^ s < 256) (hs : s ≤ 8) : (a + 256 * y) / 2 ^ s &&& (c + 256 * M) = (a / 2 ^ s &&& c) + 256 * (y / 2 ^ s &&& M) := by
  have hc2 : c < 256 := Nat.lt_of_le_of_lt (Nat.le_mul_of_pos_right c (Nat.two_pow_pos s)) hc
  have ha2 : a / 2 ^ s < 256 := Nat.lt_of_le_of_lt (Nat.div_le_self _ _) ha
  apply Nat.eq_of_testBit_eq
  intro j
  rw [Nat.testBit_and, Nat.testBit_div_two_pow, tb _ _ _ ha, tb _ _ _ hc2, tb _ _ _ (Nat.lt_of_le_of_lt Nat.and_le_left ha2)]
  by_cases h8 : j < 8
  · rw [if_pos h8, if_pos h8, Nat.testBit_and, Nat.testBit_div_two_pow]
    by_cases h : j + s < 8
    · rw [if_pos h]
    · have : c.testBit j = false := by
        apply Nat.testBit_lt_two_pow
        rcases Nat.lt_or_ge c (2 ^ j) with h1 | h1
        · exact h1
        · exfalso
          have h2 : 2 ^ j * 2 ^ s ≤ c * 2 ^ s := Nat.mul_le_mul_right _ h1
          rw [← Nat.pow_add] at h2
          have h3 : 2 ^ 8 ≤ 2 ^ (j + s) := Nat.pow_le_pow_right (by omega) (by omega)
          omega
      rw [this, Bool.and_false, Bool.and_false]
  · rw [if_neg h8, if_neg h8, if_neg (by omega), Nat.testBit_and, Nat.testBit_div_two_pow, show j + s - 8 = j - 8 + s by omega]
theorem digs (x : Nat) (hx : x < 18446744073709551616) : ∃ a b c d e f g h : Nat, (a < 256 ∧ b < 256 ∧ c < 256 ∧ d < 256) ∧ (e < 256 ∧ f < 256 ∧ g < 256 ∧ h < 256) ∧ x = a + 256 * (b + 256 * (c + 256 * (d + 256 * (e + 256 * (f + 256 * (g + 256 * (h + 256 * 0))))))) := by
  refine ⟨x % 256, x / 256 % 256, x / 65536 % 256, x / 16777216 % 256, x / 4294967296 % 256, x / 1099511627776 % 256, x / 281474976710656 % 256, x / 72057594037927936 % 256, ⟨?_, ?_, ?_, ?_⟩, ⟨?_, ?_, ?_, ?_⟩, ?_⟩ <;> omega
def sw1 (x : Nat) : Nat := (x / 2 &&& 6148914691236517205) + (x &&& 6148914691236517205)
def sw2 (x : Nat) : Nat := (x / 4 &&& 3689348814741910323) + (x &&& 3689348814741910323)
def g1 (a : Nat) : Nat := (a / 2 &&& 85) + (a &&& 85)
def g2 (a : Nat) : Nat := (a / 4 &&& 51) + (a &&& 51)
theorem g_facts : ∀ a, a < 256 → g1 a < 256 ∧ g2 (g1 a) % 16 ≤ 4 ∧ g2 (g1 a) / 16 ≤ 4 ∧ (decide ((g2 (g1 a) % 16 + g2 (g1 a) / 16) % 2 = 1) = xorT 8 a.testBit) := by decide +kernel
theorem sw1_digs (a b c d e f g h : Nat) (h1 : a < 256 ∧ b < 256 ∧ c < 256 ∧ d < 256) (h2 : e < 256 ∧ f < 256 ∧ g < 256 ∧ h < 256) :
    sw1 (a + 256 * (b + 256 * (c + 256 * (d + 256 * (e + 256 * (f + 256 * (g + 256 * (h + 256 * 0)))))))) = g1 a + 256 * (g1 b + 256 * (g1 c + 256 * (g1 d + 256 * (g1 e + 256 * (g1 f + 256 * (g1 g + 256 * (g1 h + 256 * 0))))))) := by
  obtain ⟨ha, hb, hc, hd⟩ := h1
  obtain ⟨he, hf, hg, hh⟩ := h2
  unfold sw1
  rw [show (6148914691236517205 : Nat) = 85 + 256 * (85 + 256 * (85 + 256 * (85 + 256 * (85 + 256 * (85 + 256 * (85 + 256 * (85 + 256 * 0))))))) from rfl]
  have S := fun a y M h => shr_dig 1 a 85 y M h (by omega) (by omega)
  have A := fun a y M h => and_dig a 85 y M h (by omega)
  simp only [show (2 : Nat) ^ 1 = 2 from rfl] at S
  rw [S _ _ _ ha, S _ _ _ hb, S _ _ _ hc, S _ _ _ hd, S _ _ _ he, S _ _ _ hf, S _ _ _ hg, S _ _ _ hh, A _ _ _ ha, A _ _ _ hb, A _ _ _ hc, A _ _ _ hd, A _ _ _ he, A _ _ _ hf, A _ _ _ hg, A _ _ _ hh]
  unfold g1
  generalize (a / 2 &&& 85) = x1; generalize (b / 2 &&& 85) = x2; generalize (c / 2 &&& 85) = x3; generalize (d / 2 &&& 85) = x4; generalize (e / 2 &&& 85) = x5; generalize (f / 2 &&& 85) = x6; generalize (g / 2 &&& 85) = x7; generalize (h / 2 &&& 85) = x8
  simp only [Nat.zero_div, Nat.zero_and]
  omega
theorem sw2_digs (a b c d e f g h : Nat) (h1 : a < 256 ∧ b < 256 ∧ c < 256 ∧ d < 256) (h2 : e < 256 ∧ f < 256 ∧ g < 256 ∧ h < 256) :
    sw2 (a + 256 * (b + 256 * (c + 256 * (d + 256 * (e + 256 * (f + 256 * (g + 256 * (h + 256 * 0)))))))) = g2 a + 256 * (g2 b + 256 * (g2 c + 256 * (g2 d + 256 * (g2 e + 256 * (g2 f + 256 * (g2 g + 256 * (g2 h + 256 * 0))))))) := by
  obtain ⟨ha, hb, hc, hd⟩ := h1
  obtain ⟨he, hf, hg, hh⟩ := h2
  unfold sw2
  rw [show (3689348814741910323 : Nat) = 51 + 256 * (51 + 256 * (51 + 256 * (51 + 256 * (51 + 256 * (51 + 256 * (51 + 256 * (51 + 256 * 0))))))) from rfl]
  have S := fun a y M h => shr_dig 2 a 51 y M h (by omega) (by omega)
  have A := fun a y M h => and_dig a 51 y M h (by omega)
  simp only [show (2 : Nat) ^ 2 = 4 from rfl] at S
  rw [S _ _ _ ha, S _ _ _ hb, S _ _ _ hc, S _ _ _ hd, S _ _ _ he, S _ _ _ hf, S _ _ _ hg, S _ _ _ hh, A _ _ _ ha, A _ _ _ hb, A _ _ _ hc, A _ _ _ hd, A _ _ _ he, A _ _ _ hf, A _ _ _ hg, A _ _ _ hh]
  unfold g2
  generalize (a / 4 &&& 51) = x1; generalize (b / 4 &&& 51) = x2; generalize (c / 4 &&& 51) = x3; generalize (d / 4 &&& 51) = x4; generalize (e / 4 &&& 51) = x5; generalize (f / 4 &&& 51) = x6; generalize (g / 4 &&& 51) = x7; generalize (h / 4 &&& 51) = x8
  simp only [Nat.zero_div, Nat.zero_and]
  omega
def nib (x : Nat) : Nat := (x / 16 + x) &&& 1085102592571150095
theorem g_facts' (a : Nat) (h : a < 256) : g1 a < 256 ∧ ∃ p q, p ≤ 4 ∧ q ≤ 4 ∧ g2 (g1 a) = 16 * q + p ∧ decide ((q + p) % 2 = 1) = xorT 8 a.testBit := by
  obtain ⟨h1, h2, h3, h4⟩ := g_facts a h
  exact ⟨h1, _, _, h2, h3, by omega, by rw [Nat.add_comm]; exact h4⟩
theorem nib_digs (a0 a1 b0 b1 c0 c1 d0 d1 e0 e1 f0 f1 g0 g1 h0 h1 : Nat) (a2 : a0 ≤ 4) (a3 : a1 ≤ 4) (b2 : b0 ≤ 4) (b3 : b1 ≤ 4) (c2 : c0 ≤ 4) (c3 : c1 ≤ 4) (d2 : d0 ≤ 4) (d3 : d1 ≤ 4) (e2 : e0 ≤ 4) (e3 : e1 ≤ 4) (f2 : f0 ≤ 4) (f3 : f1 ≤ 4) (g2 : g0 ≤ 4) (g3 : g1 ≤ 4) (h2 : h0 ≤ 4) (h3 : h1 ≤ 4) :
    nib (16 * a1 + a0 + 256 * (16 * b1 + b0 + 256 * (16 * c1 + c0 + 256 * (16 * d1 + d0 + 256 * (16 * e1 + e0 + 256 * (16 * f1 + f0 + 256 * (16 * g1 + g0 + 256 * (16 * h1 + h0 + 256 * 0)))))))) = (a1 + a0) + 256 * ((b1 + b0) + 256 * ((c1 + c0) + 256 * ((d1 + d0) + 256 * ((e1 + e0) + 256 * ((f1 + f0) + 256 * ((g1 + g0) + 256 * ((h1 + h0) + 256 * 0))))))) := by
  unfold nib
  have D : ∀ p q Y : Nat, p ≤ 4 → (16 * q + p + 256 * Y) / 16 = q + 16 * Y := by intro p q Y h; omega
  rw [D _ _ _ a2]
  have E2 : a1 + 16 * (16 * b1 + b0 + 256 * (16 * c1 + c0 + 256 * (16 * d1 + d0 + 256 * (16 * e1 + e0 + 256 * (16 * f1 + f0 + 256 * (16 * g1 + g0 + 256 * (16 * h1 + h0 + 256 * 0))))))) + (16 * a1 + a0 + 256 * (16 * b1 + b0 + 256 * (16 * c1 + c0 + 256 * (16 * d1 + d0 + 256 * (16 * e1 + e0 + 256 * (16 * f1 + f0 + 256 * (16 * g1 + g0 + 256 * (16 * h1 + h0 + 256 * 0))))))))
      = (16 * (a1 + b0) + (a1 + a0)) + 256 * ((16 * (b1 + c0) + (b1 + b0)) + 256 * ((16 * (c1 + d0) + (c1 + c0)) + 256 * ((16 * (d1 + e0) + (d1 + d0)) + 256 * ((16 * (e1 + f0) + (e1 + e0)) + 256 * ((16 * (f1 + g0) + (f1 + f0)) + 256 * ((16 * (g1 + h0) + (g1 + g0)) + 256 * ((16 * h1 + (h1 + h0)) + 256 * 0))))))) := by
    have Q : ∀ a1 a0 b1 b0 Y X : Nat, a1 + 16 * (16 * b1 + b0 + 256 * Y) + (16 * a1 + a0 + 256 * X) = (16 * (a1 + b0) + (a1 + a0)) + 256 * (b1 + 16 * Y + X) := by intro a1 a0 b1 b0 Y X; omega
    rw [Q, Q, Q, Q, Q, Q, Q]
    have L : h1 + 16 * 0 + (16 * h1 + h0 + 256 * 0) = 16 * h1 + (h1 + h0) + 256 * 0 := by omega
    rw [L]
  rw [E2, show (1085102592571150095 : Nat) = 15 + 256 * (15 + 256 * (15 + 256 * (15 + 256 * (15 + 256 * (15 + 256 * (15 + 256 * (15 + 256 * 0))))))) from rfl]
  clear E2 D
  have A := fun x y Y M (h : y ≤ 8) (hx : x ≤ 8) => and_dig (16 * x + y) 15 Y M (by omega) (by omega)
  rw [A _ _ _ _ (by omega) (by omega), A _ _ _ _ (by omega) (by omega), A _ _ _ _ (by omega) (by omega), A _ _ _ _ (by omega) (by omega), A _ _ _ _ (by omega) (by omega), A _ _ _ _ (by omega) (by omega), A _ _ _ _ (by omega) (by omega), A _ _ _ _ (by omega) (by omega)]
  have m : ∀ x y : Nat, y ≤ 8 → 16 * x + y &&& 15 = y := fun x y h => by rw [show (16 * x + y &&& 15) = (16 * x + y) % 16 from Nat.and_two_pow_sub_one_eq_mod _ 4]; omega
  rw [m _ (a1 + a0) (by omega), m _ (b1 + b0) (by omega), m _ (c1 + c0) (by omega), m _ (d1 + d0) (by omega), m _ (e1 + e0) (by omega), m _ (f1 + f0) (by omega), m _ (g1 + g0) (by omega), m _ (h1 + h0) (by omega), Nat.zero_and]
theorem fold_M : ∀ a b c d e f g h : Nat, a < 256 → b < 256 → c < 256 → d < 256 → e < 256 → f < 256 → g < 256 → h < 256 → (a + 256 * (b + 256 * (c + 256 * (d + 256 * (e + 256 * (f + 256 * (g + 256 * (h + 256 * 0)))))))) % 18446744073709551616 = a + 256 * (b + 256 * (c + 256 * (d + 256 * (e + 256 * (f + 256 * (g + 256 * (h + 256 * 0))))))) := by
    intro a b c d e f g h ha hb hc hd he hf hg hh
    have s7 : h + 256 * 0 ≤ 255 := by omega
    generalize h + 256 * 0 = t7 at *
    have s6 : g + 256 * t7 ≤ 65535 := by omega
    generalize g + 256 * t7 = t6 at *
    have s5 : f + 256 * t6 ≤ 16777215 := by omega
    generalize f + 256 * t6 = t5 at *
    have s4 : e + 256 * t5 ≤ 4294967295 := by omega
    generalize e + 256 * t5 = t4 at *
    have s3 : d + 256 * t4 ≤ 1099511627775 := by omega
    generalize d + 256 * t4 = t3 at *
    have s2 : c + 256 * t3 ≤ 281474976710655 := by omega
    generalize c + 256 * t3 = t2 at *
    have s1 : b + 256 * t2 ≤ 72057594037927935 := by omega
    generalize b + 256 * t2 = t1 at *
    exact Nat.mod_eq_of_lt (by omega)
theorem fold_D1 : ∀ x Y : Nat, x < 256 → (x + 256 * Y) / 256 = Y := by intro x Y h; omega
theorem fold_D2 : ∀ x x' Y : Nat, x < 256 → x' < 256 → (x + 256 * (x' + 256 * Y)) / 65536 = Y := by intro x x' Y h h'; omega
theorem fold_D4 : ∀ x x' x2 x3 Y : Nat, x < 256 → x' < 256 → x2 < 256 → x3 < 256 → (x + 256 * (x' + 256 * (x2 + 256 * (x3 + 256 * Y)))) / 4294967296 = Y := by intro x x' x2 x3 Y h h' i i'; omega
theorem fold_P : ∀ x y X Y : Nat, (x + 256 * X) + (y + 256 * Y) = (x + y) + 256 * (X + Y) := by intro x y X Y; omega
theorem fold_L : ∀ x Y : Nat, x < 128 → (x + 256 * Y) % 128 = x := by intro x Y h; omega
theorem fold8 (A B C D E F G H z u v : Nat) (bA : A ≤ 8) (bB : B ≤ 8) (bC : C ≤ 8) (bD : D ≤ 8) (bE : E ≤ 8) (bF : F ≤ 8) (bG : G ≤ 8) (bH : H ≤ 8) (y : Nat) (hy : y = A + 256 * (B + 256 * (C + 256 * (D + 256 * (E + 256 * (F + 256 * (G + 256 * (H + 256 * 0))))))))
    (h2 : z = (y + y / 256) % 18446744073709551616) (h3 : u = (z + z / 65536) % 18446744073709551616) (h4 : v = (u + u / 4294967296) % 18446744073709551616) : v % 128 = A + B + C + D + E + F + G + H := by
  have e2 : y / 256 = B + 256 * (C + 256 * (D + 256 * (E + 256 * (F + 256 * (G + 256 * (H + 256 * (0 + 256 * 0))))))) := by rw [hy, fold_D1 _ _ (by clear h2 h3 h4 hy; omega)]
  rw [e2, hy, fold_P, fold_P, fold_P, fold_P, fold_P, fold_P, fold_P, fold_P, fold_M _ _ _  _ _ _ _ _ (by clear h2 h3 h4 hy; omega) (by clear h2 h3 h4 hy; omega) (by clear h2 h3 h4 hy; omega) (by clear h2 h3 h4 hy; omega) (by clear h2 h3 h4 hy; omega) (by clear h2 h3 h4 hy; omega) (by clear h2 h3 h4 hy; omega) (by clear h2 h3 h4 hy; omega)] at h2
  have e3 : z / 65536 = C + D + 256 * (D + E + 256 * (E + F + 256 * (F + G + 256 * (G + H + 256 * (H + 0 + 256 * (0 + 256 * (0 + 256 * 0))))))) := by rw [h2, fold_D2 _ _ _ (by clear h2 h3 h4 hy; omega) (by clear h2 h3 h4 hy; omega)]
  rw [e3, h2, fold_P, fold_P, fold_P, fold_P, fold_P, fold_P, fold_P, fold_P, fold_M _ _ _  _ _ _ _ _ (by clear h2 h3 h4 hy; omega) (by clear h2 h3 h4 hy; omega) (by clear h2 h3 h4 hy; omega) (by clear h2 h3 h4 hy; omega) (by clear h2 h3 h4 hy; omega) (by clear h2 h3 h4 hy; omega) (by clear h2 h3 h4 hy; omega) (by clear h2 h3 h4 hy; omega)] at h3
  have e4 : u / 4294967296 = E + F + (G + H) + 256 * (F + G + (H + 0) + 256 * (G + H + 0 + 256 * (H + 0 + 0 + 256 * (0 + 256 * (0 + 256 * (0 + 256 * (0 + 256 * 0))))))) := by rw [h3, fold_D4 _ _ _ _ _ (by clear h2 h3 h4 hy; omega) (by clear h2 h3 h4 hy; omega) (by clear h2 h3 h4 hy; omega) (by clear h2 h3 h4 hy; omega)]
  rw [e4, h3, fold_P, fold_P, fold_P, fold_P, fold_P, fold_P, fold_P, fold_P, fold_M _ _ _  _ _ _ _ _ (by clear h2 h3 h4 hy; omega) (by clear h2 h3 h4 hy; omega) (by clear h2 h3 h4 hy; omega) (by clear h2 h3 h4 hy; omega) (by clear h2 h3 h4 hy; omega) (by clear h2 h3 h4 hy; omega) (by clear h2 h3 h4 hy; omega) (by clear h2 h3 h4 hy; omega)] at h4
  rw [h4, fold_L _ _ (by clear h2 h3 h4 hy e2 e3 e4; omega)]
  clear h2 h3 h4 hy e2 e3 e4
  omega
/-- how math/bits counts the bits of a word -/
theorem swar_odd (x y z u v : Nat) (hx : x < 18446744073709551616) (hy1 : y = nib (sw2 (sw1 x))) (hy2 : z = (y + y / 256) % 18446744073709551616) (hy3 : u = (z + z / 65536) % 18446744073709551616) (hy4 : v = (u + u / 4294967296) % 18446744073709551616) : v % 128 ≤ 64 ∧ decide (v % 128 % 2 = 1) = oddN x := by
  obtain ⟨a, b, c, d, e, f, g, h, hA, hE, rfl⟩ := digs x hx
  obtain ⟨ha, hb, hc, hd⟩ := hA
  obtain ⟨he, hf, hg, hh⟩ := hE
  obtain ⟨pa, a0, a1, qa, ra, ea, ta⟩ := g_facts' a ha
  obtain ⟨pb, b0, b1, qb, rb, eb, tb⟩ := g_facts' b hb
  obtain ⟨pc, c0, c1, qc, rc, ec, tc⟩ := g_facts' c hc
  obtain ⟨pd, d0, d1, qd, rd, ed, td⟩ := g_facts' d hd
  obtain ⟨pe, e0, e1, qe, re, ee, te⟩ := g_facts' e he
  obtain ⟨pf, f0, f1, qf, rf, ef, tf⟩ := g_facts' f hf
  obtain ⟨pg, g0, g1, qg, rg, eg, tg⟩ := g_facts' g hg
  obtain ⟨ph, h0, h1, qh, rh, eh, th⟩ := g_facts' h hh
  rw [sw1_digs a b c d e f g h ⟨ha, hb, hc, hd⟩ ⟨he, hf, hg, hh⟩, sw2_digs _ _ _ _ _ _ _ _ ⟨pa, pb, pc, pd⟩ ⟨pe, pf, pg, ph⟩, ea, eb, ec, ed, ee, ef, eg, eh, nib_digs _ _ _ _ _ _ _ _ _ _ _ _ _ _ _ _ qa ra qb rb qc rc qd rd qe re qf rf qg rg qh rh] at hy1
  have O : oddN (a + 256 * (b + 256 * (c + 256 * (d + 256 * (e + 256 * (f + 256 * (g + 256 * (h + 256 * 0)))))))) = (xorT 8 a.testBit ^^ (xorT 8 b.testBit ^^ (xorT 8 c.testBit ^^ (xorT 8 d.testBit ^^ (xorT 8 e.testBit ^^ (xorT 8 f.testBit ^^ (xorT 8 g.testBit ^^ xorT 8 h.testBit))))))) := by
    have S : ∀ n a y, a < 256 → xorT (8 + n) (a + 256 * y).testBit = (xorT 8 a.testBit ^^ xorT n y.testBit) := by
      intro n a y ha
      rw [xorT_add]
      congr 1
      · exact xorT_congr fun k hk => by rw [Lw.tb _ _ _ ha, if_pos hk]
      · exact xorT_congr fun k _ => by rw [Lw.tb _ _ _ ha, if_neg (by omega), show 8 + k - 8 = k by omega]
    unfold oddN
    rw [show (64 : Nat) = 8 + (8 + (8 + (8 + (8 + (8 + (8 + (8 + 0))))))) from rfl, S _ _ _ ha, S _ _ _ hb, S _ _ _ hc, S _ _ _ hd, S _ _ _ he, S _ _ _ hf, S _ _ _ hg, S _ _ _ hh]
    simp [xorT]
  rw [O, ← ta, ← tb, ← tc, ← td, ← te, ← tf, ← tg, ← th]
  clear O ta tb tc td te tf tg th pa pb pc pd pe pf pg ph ha hb hc hd he hf hg hh ea eb ec ed ee ef eg eh hx
  obtain ⟨A, eA⟩ : ∃ A, a1 + a0 = A := ⟨_, rfl⟩
  obtain ⟨B, eB⟩ : ∃ A, b1 + b0 = A := ⟨_, rfl⟩
  obtain ⟨C, eC⟩ : ∃ A, c1 + c0 = A := ⟨_, rfl⟩
  obtain ⟨D, eD⟩ : ∃ A, d1 + d0 = A := ⟨_, rfl⟩
  obtain ⟨E, eE⟩ : ∃ A, e1 + e0 = A := ⟨_, rfl⟩
  obtain ⟨F, eF⟩ : ∃ A, f1 + f0 = A := ⟨_, rfl⟩
  obtain ⟨G, eG⟩ : ∃ A, g1 + g0 = A := ⟨_, rfl⟩
  obtain ⟨H, eH⟩ : ∃ A, h1 + h0 = A := ⟨_, rfl⟩
  have bA : A ≤ 8 := eA ▸ Nat.add_le_add ra qa
  have bB : B ≤ 8 := eB ▸ Nat.add_le_add rb qb
  have bC : C ≤ 8 := eC ▸ Nat.add_le_add rc qc
  have bD : D ≤ 8 := eD ▸ Nat.add_le_add rd qd
  have bE : E ≤ 8 := eE ▸ Nat.add_le_add re qe
  have bF : F ≤ 8 := eF ▸ Nat.add_le_add rf qf
  have bG : G ≤ 8 := eG ▸ Nat.add_le_add rg qg
  have bH : H ≤ 8 := eH ▸ Nat.add_le_add rh qh
  rw [eA, eB, eC, eD, eE, eF, eG, eH] at hy1
  rw [eA, eB, eC, eD, eE, eF, eG, eH]
  clear eA eB eC eD eE eF eG eH qa ra qb rb qc rc qd rd qe re qf rf qg rg qh rh
  have v2 := fold8 A B C D E F G H z u v bA bB bC bD bE bF bG bH y hy1 hy2 hy3 hy4
  clear hy1 hy2 hy3 hy4
  rw [v2]
  clear v2
  refine ⟨by omega, ?_⟩
  have X : ∀ m n : Nat, (decide (m % 2 = 1) ^^ decide (n % 2 = 1)) = decide ((m + n) % 2 = 1) := by
    intro m n
    rcases Nat.mod_two_eq_zero_or_one m with h | h <;> rcases Nat.mod_two_eq_zero_or_one n with h' | h' <;> simp [h, h', Nat.add_mod]
  simp only [X]
  congr 2
  omega
end Lw
set_option linter.unusedVariables false
namespace Lw
theorem xorT_swap (f : Nat → Nat → Bool) (m : Nat) : ∀ n : Nat, xorT m (fun i => xorT n (f i)) = xorT n (fun j => xorT m (fun i => f i j))
  | 0 => by
    show xorT m (fun i => false) = false
    exact xorT_false fun _ _ => rfl
  | n + 1 => by
    have e : ∀ i, xorT (n + 1) (f i) = (xorT n (f i) ^^ f i n) := fun i => rfl
    have e2 : xorT (n + 1) (fun j => xorT m (fun i => f i j)) = (xorT n (fun j => xorT m (fun i => f i j)) ^^ xorT m (fun i => f i n)) := rfl
    rw [e2, ← xorT_swap f m n, ← xorT_xor]
    exact xorT_congr fun k _ => e k
theorem and_xorT (b : Bool) (f : Nat → Bool) : ∀ n : Nat, (b && xorT n f) = xorT n (fun i => b && f i)
  | 0 => by show (b && false) = false; simp
  | n + 1 => by
    show (b && (xorT n f ^^ f n)) = (xorT n (fun i => b && f i) ^^ (b && f n))
    rw [← and_xorT b f n]
    cases b <;> simp
def lx (l : List Bool) (i : Nat) : Bool := l.getD i false
/-- the rule t of L taps tells what follows, up to n -/
def RuL (l : List Bool) (t : Nat → Bool) (L n : Nat) : Prop := ∀ k, L ≤ k → k < n → lx l k = xorT L (fun i => t i && lx l (k - i - 1))
theorem RuL.mono {l : List Bool} {t : Nat → Bool} {L n : Nat} (h : RuL l t L (n + 1)) : RuL l t L n := fun k h1 h2 => h k h1 (by omega)
theorem massey_low {l : List Bool} {t t' : Nat → Bool} {L L' n : Nat} (h : RuL l t L n) (hd : lx l n ≠ xorT L (fun i => t i && lx l (n - i - 1))) (h' : RuL l t' L' (n + 1)) : n + 1 ≤ L + L' := by
  apply Classical.byContradiction
  intro hc
  apply hd
  rw [h' n (by omega) (by omega)]
  have e1 : xorT L' (fun i => t' i && lx l (n - i - 1)) = xorT L' (fun i => xorT L (fun j => t' i && (t j && lx l (n - i - 1 - j - 1)))) := xorT_congr fun i hi => by
    rw [h (n - i - 1) (by omega) (by omega), and_xorT]
  rw [e1, xorT_swap]
  refine xorT_congr fun j hj => ?_
  rw [h' (n - j - 1) (by omega) (by omega), and_xorT]
  refine xorT_congr fun i hi => ?_
  rw [show n - i - 1 - j - 1 = n - j - 1 - i - 1 from by omega]
  cases t' i <;> cases t j <;> simp
/-- a sum over all that lies behind -/
def conv (l : List Bool) (c : Nat → Bool) (k : Nat) : Bool := xorT (k + 1) (fun i => c i && lx l (k - i))
theorem conv_rule {l : List Bool} {c : Nat → Bool} {L k : Nat} (h0 : c 0 = true) (hL : ∀ i, L < i → c i = false) (hk : L ≤ k) : conv l c k = (lx l k ^^ xorT L (fun i => c (i + 1) && lx l (k - i - 1))) := by
  unfold conv
  rw [show k + 1 = 1 + k from by omega, xorT_add]
  have e1 : xorT 1 (fun i => c i && lx l (k - i)) = lx l k := by
    show (false ^^ (c 0 && lx l (k - 0))) = lx l k
    rw [h0]; simp
  rw [e1]
  congr 1
  rw [xorT_more (m := L) hk (fun i h1 h2 => by rw [hL (1 + i) (by omega)]; simp)]
  refine xorT_congr fun i hi => ?_
  rw [show 1 + i = i + 1 from by omega, show k - (i + 1) = k - i - 1 from by omega]
theorem rule_conv {l : List Bool} {c : Nat → Bool} {L n : Nat} (h0 : c 0 = true) (hL : ∀ i, L < i → c i = false) : RuL l (fun i => c (i + 1)) L n ↔ ∀ k, L ≤ k → k < n → conv l c k = false := by
  constructor
  · intro h k h1 h2
    rw [conv_rule h0 hL h1, ← h k h1 h2]; simp
  · intro h k h1 h2
    have := h k h1 h2
    rw [conv_rule h0 hL h1] at this
    generalize xorT L (fun i => c (i + 1) && lx l (k - i - 1)) = y at *
    generalize lx l k = x at *
    revert this
    cases x <;> cases y <;> simp
/-- behind a shift -/
def shC (b : Nat → Bool) (m : Nat) (i : Nat) : Bool := decide (m ≤ i) && b (i - m)
def addC (c b : Nat → Bool) (m : Nat) (i : Nat) : Bool := c i ^^ shC b m i
theorem conv_sh (l : List Bool) (b : Nat → Bool) (m k : Nat) : conv l (shC b m) k = (decide (m ≤ k) && conv l b (k - m)) := by
  by_cases h : m ≤ k
  · rw [decide_eq_true h, Bool.true_and]
    unfold conv
    rw [show k + 1 = m + (k - m + 1) from by omega, xorT_add, xorT_false (n := m) (fun i hi => by unfold shC; rw [decide_eq_false (by omega)]; simp)]
    rw [Bool.false_xor]
    refine xorT_congr fun i hi => ?_
    unfold shC
    rw [decide_eq_true (by omega : m ≤ m + i), Bool.true_and, show m + i - m = i from by omega, show k - (m + i) = k - m - i from by omega]
  · rw [decide_eq_false h, Bool.false_and]
    unfold conv
    exact xorT_false fun i hi => by unfold shC; rw [decide_eq_false (by omega)]; simp
theorem conv_add (l : List Bool) (c b : Nat → Bool) (m k : Nat) : conv l (addC c b m) k = (conv l c k ^^ (decide (m ≤ k) && conv l b (k - m))) := by
  rw [← conv_sh]
  unfold conv
  rw [← xorT_xor]
  refine xorT_congr fun i hi => ?_
  unfold addC
  cases c i <;> cases shC b m i <;> simp
/-- what the rounds keep -/
structure BmS (l : List Bool) (n : Nat) (c b : Nat → Bool) (L m : Nat) : Prop where
  c0 : c 0 = true
  cL : ∀ i, L < i → c i = false
  rule : ∀ k, L ≤ k → k < n → conv l c k = false
  min : ∀ L', L' < L → ∀ t', ¬ RuL l t' L' n
  Ln : L ≤ n
  m1 : 1 ≤ m
  mn : m ≤ n + 1
  zero : L = 0 → m = n + 1
  old : 0 < L → ∃ Lb, m ≤ n ∧ Lb + L = n - m + 1 ∧ (∀ i, Lb < i → b i = false) ∧ (∀ k, Lb ≤ k → k < n - m → conv l b k = false) ∧ conv l b (n - m) = true
  b0 : L = 0 → b 0 = true ∧ ∀ i, 0 < i → b i = false
theorem BmS.start (l : List Bool) : BmS l 0 (fun i => decide (i = 0)) (fun i => decide (i = 0)) 0 1 :=
  ⟨rfl, fun i h => by simp; omega, fun k _ h => by omega, fun L' h => by omega, by omega, by omega, by omega, fun _ => rfl, fun h => by omega, fun _ => ⟨rfl, fun i h => by simp; omega⟩⟩
theorem BmS.same {l : List Bool} {n L m : Nat} {c b : Nat → Bool} (h : BmS l n c b L m) (hd : conv l c n = false) : BmS l (n + 1) c b L (m + 1) := by
  refine ⟨h.c0, h.cL, fun k h1 h2 => ?_, fun L' h1 t' h2 => h.min L' h1 t' h2.mono, by have := h.Ln; omega, by omega, by have := h.mn; omega, fun e => by have := h.zero e; omega, fun e => ?_, h.b0⟩
  · by_cases e : k = n
    · rw [e]; exact hd
    · exact h.rule k h1 (by omega)
  · obtain ⟨Lb, a1, a2, a3, a4, a5⟩ := h.old e
    refine ⟨Lb, by omega, by omega, a3, fun k h1 h2 => a4 k h1 (by omega), ?_⟩
    rw [show n + 1 - (m + 1) = n - m from by omega]; exact a5
theorem BmS.low {l : List Bool} {n L m : Nat} {c b : Nat → Bool} (h : BmS l n c b L m) (hd : conv l c n = true) {L' : Nat} {t' : Nat → Bool} (h' : RuL l t' L' (n + 1)) : n + 1 ≤ L + L' := by
  refine massey_low ((rule_conv h.c0 h.cL).2 h.rule) ?_ h'
  intro e
  rw [conv_rule h.c0 h.cL h.Ln, e] at hd
  simp at hd
/-- the new coefficients -/
theorem BmS.next {l : List Bool} {n L m : Nat} {c b : Nat → Bool} (h : BmS l n c b L m) (hd : conv l c n = true) {L' : Nat} (h1 : L ≤ L') (h2 : n + 1 ≤ L + L') (h3 : L' ≤ n + 1) (h4 : L = 0 → L' = n + 1) : addC c b m 0 = true ∧ (∀ i, L' < i → addC c b m i = false) ∧ ∀ k, L' ≤ k → k < n + 1 → conv l (addC c b m) k = false := by
  have m1 := h.m1
  refine ⟨?_, fun i hi => ?_, fun k hk hk2 => ?_⟩
  · unfold addC shC
    rw [h.c0, decide_eq_false (by omega)]; rfl
  · unfold addC shC
    rw [h.cL i (by omega)]
    by_cases e : L = 0
    · have := h.zero e
      have := h4 e
      rw [(h.b0 e).2 (i - m) (by omega)]; simp
    · obtain ⟨Lb, a1, a2, a3, a4, a5⟩ := h.old (by omega)
      rw [a3 (i - m) (by omega)]; simp
  · rw [conv_add]
    by_cases e : L = 0
    · have := h4 e; omega
    · obtain ⟨Lb, a1, a2, a3, a4, a5⟩ := h.old (by omega)
      rw [decide_eq_true (by omega : m ≤ k), Bool.true_and]
      by_cases e2 : k = n
      · rw [e2, hd, a5]; rfl
      · rw [h.rule k (by omega) (by omega), a4 (k - m) (by omega) (by omega)]; rfl
theorem BmS.grow {l : List Bool} {n L m : Nat} {c b : Nat → Bool} (h : BmS l n c b L m) (hd : conv l c n = true) (h2 : 2 * L ≤ n) : BmS l (n + 1) (addC c b m) c (n + 1 - L) 1 := by
  obtain ⟨a1, a2, a3⟩ := h.next hd (L' := n + 1 - L) (by omega) (by omega) (by omega) (fun e => by omega)
  refine ⟨a1, a2, a3, fun L' h1 t' h3 => ?_, by omega, by omega, by omega, fun e => by have := h.Ln; omega, fun _ => ⟨L, by omega, by have := h.Ln; omega, h.cL, fun k k1 k2 => h.rule k k1 (by omega), ?_⟩, fun e => by have := h.Ln; omega⟩
  · have := h.low hd h3; omega
  · rw [show n + 1 - 1 = n from by omega]; exact hd
theorem BmS.stay {l : List Bool} {n L m : Nat} {c b : Nat → Bool} (h : BmS l n c b L m) (hd : conv l c n = true) (h2 : ¬ 2 * L ≤ n) : BmS l (n + 1) (addC c b m) b L (m + 1) := by
  have hLn := h.Ln
  obtain ⟨a1, a2, a3⟩ := h.next hd (L' := L) (by omega) (by omega) (by omega) (fun e => by omega)
  refine ⟨a1, a2, a3, fun L' h1 t' h3 => h.min L' h1 t' h3.mono, by omega, by omega, by have := h.mn; omega, fun e => by omega, fun e => ?_, fun e => by omega⟩
  obtain ⟨Lb, b1, b2, b3, b4, b5⟩ := h.old e
  refine ⟨Lb, by omega, by omega, b3, fun k h1 h2 => b4 k h1 (by omega), ?_⟩
  rw [show n + 1 - (m + 1) = n - m from by omega]; exact b5
/-- in the end: there is a rule, and none is shorter -/
theorem BmS.done {l : List Bool} {n L m : Nat} {c b : Nat → Bool} (h : BmS l n c b L m) : (∃ t, RuL l t L n) ∧ ∀ L', L' < L → ∀ t', ¬ RuL l t' L' n := ⟨⟨_, (rule_conv h.c0 h.cL).2 h.rule⟩, h.min⟩
end Lw
set_option linter.unusedVariables false
namespace Lw
/-- the parity of what a mask takes -/
def par (m : Nat) (y : Nat → Bool) : Bool := xorT 64 (fun k => m.testBit k && y k)
theorem par_xor (a b : Nat) (y : Nat → Bool) : par (a ^^^ b) y = (par a y ^^ par b y) := by
  unfold par
  rw [← xorT_xor]
  refine xorT_congr fun k _ => ?_
  rw [Nat.testBit_xor]
  cases a.testBit k <;> cases b.testBit k <;> cases y k <;> rfl
theorem par_zero (y : Nat → Bool) : par 0 y = false := by
  unfold par
  exact xorT_false fun k _ => by simp
theorem par_congr {m : Nat} {y z : Nat → Bool} (h : ∀ k, m.testBit k = true → y k = z k) : par m y = par m z := by
  unfold par
  refine xorT_congr fun k _ => ?_
  cases e : m.testBit k with
  | false => rfl
  | true => rw [h k e]
/-- rows by their tops -/
abbrev RowsM := Nat → Option (Nat × Bool)
def TopOk (rows : RowsM) (size : Nat) : Prop := ∀ t m w, rows t = some (m, w) → 1 ≤ t ∧ t ≤ size ∧ m.testBit (t - 1) = true ∧ ∀ j, t ≤ j → m.testBit j = false
def SatR (rows : RowsM) (y : Nat → Bool) : Prop := ∀ t m w, rows t = some (m, w) → par m y = w
/-- the mask of what lies behind k -/
def MaskOf (l : List Bool) (size k p : Nat) : Prop := ∀ i, p.testBit i = (decide (i < size) && lx l (k - i - 1))
theorem mask_par {l : List Bool} {size k p : Nat} (h : MaskOf l size k p) (hs : size ≤ 64) (y : Nat → Bool) : par p y = xorT size (fun i => y i && lx l (k - i - 1)) := by
  unfold par
  rw [xorT_more (m := size) hs (fun i h1 h2 => by rw [h i, decide_eq_false (by omega)]; simp)]
  refine xorT_congr fun i hi => ?_
  rw [h i, decide_eq_true hi, Bool.true_and]
  cases lx l (k - i - 1) <;> cases y i <;> rfl
theorem rul_snoc {l : List Bool} {y : Nat → Bool} {L n : Nat} (hn : L ≤ n) : RuL l y L (n + 1) ↔ RuL l y L n ∧ xorT L (fun i => y i && lx l (n - i - 1)) = lx l n := by
  constructor
  · intro h
    exact ⟨h.mono, (h n hn (by omega)).symm⟩
  · rintro ⟨h1, h2⟩ k k1 k2
    by_cases e : k = n
    · rw [e]; exact h2.symm
    · exact h1 k k1 (by omega)
/-- what the rows say is what the list says -/
structure LsS (l : List Bool) (size n : Nat) (rows : RowsM) : Prop where
  top : TopOk rows size
  sat : ∀ y, SatR rows y ↔ RuL l y size n
theorem LsS.start (l : List Bool) (size : Nat) : LsS l size size (fun _ => none) := ⟨fun t m w h => (by cases h), fun y => ⟨fun _ k h1 h2 => by omega, fun _ t m w h => (by cases h)⟩⟩
/-- a mask that is reduced -/
def RedS (rows : RowsM) (l : List Bool) (size n past : Nat) (b : Bool) : Prop := (∀ i, size ≤ i → past.testBit i = false) ∧ ∀ y, SatR rows y → (xorT size (fun i => y i && lx l (n - i - 1)) = lx l n ↔ par past y = b)
theorem RedS.start {rows : RowsM} {l : List Bool} {size n p : Nat} (h : MaskOf l size n p) (hs : size ≤ 64) : RedS rows l size n p (lx l n) := by
  refine ⟨fun i hi => by rw [h i, decide_eq_false (by omega)]; simp, fun y _ => ?_⟩
  rw [mask_par h hs y]
theorem RedS.step {rows : RowsM} {l : List Bool} {size n past t m : Nat} {b w : Bool} (h : RedS rows l size n past b) (hr : rows t = some (m, w)) (hT : TopOk rows size) : RedS rows l size n (past ^^^ m) (b != w) := by
  obtain ⟨t1, t2, t3, t4⟩ := hT t m w hr
  refine ⟨fun i hi => by rw [Nat.testBit_xor, h.1 i hi, t4 i (by omega)]; rfl, fun y hy => ?_⟩
  rw [h.2 y hy, par_xor, hy t m w hr]
  cases par past y <;> cases b <;> cases w <;> simp
theorem LsS.drop {rows : RowsM} {l : List Bool} {size n N : Nat} {b : Bool} (h : LsS l size n rows) (hr : RedS rows l size n 0 b) {x : Nat → Bool} (hx : RuL l x size N) (hn : n < N) (hs : size ≤ n) : LsS l size (n + 1) rows := by
  refine ⟨h.top, fun y => ?_⟩
  rw [rul_snoc hs]
  have hxn : RuL l x size n := fun k h1 h2 => hx k h1 (by omega)
  have e := hr.2 x ((h.sat x).2 hxn)
  rw [par_zero] at e
  have hb : false = b := e.1 (hx n hs hn).symm
  constructor
  · intro hy
    refine ⟨(h.sat y).1 hy, (hr.2 y hy).2 ?_⟩
    rw [par_zero]; exact hb
  · exact fun hy => (h.sat y).2 hy.1
def putR (rows : RowsM) (t m : Nat) (w : Bool) : RowsM := fun s => if s = t then some (m, w) else rows s
theorem LsS.put {rows : RowsM} {l : List Bool} {size n past t : Nat} {b : Bool} (h : LsS l size n rows) (hr : RedS rows l size n past b) (hs : size ≤ n) (ht : rows t = none) (h1 : 1 ≤ t) (h2 : past.testBit (t - 1) = true) (h3 : ∀ j, t ≤ j → past.testBit j = false) : LsS l size (n + 1) (putR rows t past b) := by
  have hts : t ≤ size := by
    apply Classical.byContradiction
    intro hc
    have := hr.1 (t - 1) (by omega)
    rw [h2] at this; cases this
  refine ⟨fun s m w hm => ?_, fun y => ?_⟩
  · unfold putR at hm
    split at hm
    · rename_i e
      simp only [Option.some.injEq, Prod.mk.injEq] at hm
      obtain ⟨rfl, rfl⟩ := hm
      rw [e]
      exact ⟨h1, hts, h2, h3⟩
    · exact h.top s m w hm
  · rw [rul_snoc hs, ← h.sat y]
    constructor
    · intro hy
      have h4 : SatR rows y := fun s m w hm => hy s m w (by
        unfold putR
        rw [if_neg (fun e => by rw [e, ht] at hm; cases hm)]; exact hm)
      refine ⟨h4, (hr.2 y h4).2 (hy t past b (by unfold putR; rw [if_pos rfl]))⟩
    · rintro ⟨h4, h5⟩ s m w hm
      unfold putR at hm
      split at hm
      · simp only [Option.some.injEq, Prod.mk.injEq] at hm
        obtain ⟨rfl, rfl⟩ := hm
        exact (hr.2 y h4).1 h5
      · exact h4 s m w hm
/-- the taps, from the first on -/
def tapB (rows : RowsM) (y : Nat → Bool) (i : Nat) : Bool := match rows (i + 1) with
  | some (m, w) => par m y != w
  | none => false
def tapF (rows : RowsM) : Nat → Nat → Bool
  | 0, _ => false
  | i + 1, k => if k = i then tapB rows (tapF rows i) i else tapF rows i k
theorem tapF_high (rows : RowsM) : ∀ i k, i ≤ k → tapF rows i k = false
  | 0, k, _ => rfl
  | i + 1, k, h => by
    show (if k = i then _ else _) = _
    rw [if_neg (by omega)]; exact tapF_high rows i k (by omega)
theorem tapF_low (rows : RowsM) {i : Nat} : ∀ n, i < n → ∀ k, k ≤ i → tapF rows n k = tapF rows (i + 1) k
  | 0, h, k, hk => by omega
  | n + 1, h, k, hk => by
    by_cases e : i = n
    · rw [e]
    · show (if k = n then _ else _) = _
      rw [if_neg (by omega)]; exact tapF_low rows n (by omega) k hk
theorem tapF_sat {rows : RowsM} {size : Nat} (hT : TopOk rows size) (hs : size ≤ 64) : SatR rows (tapF rows size) := by
  intro t m w hr
  obtain ⟨t1, t2, t3, t4⟩ := hT t m w hr
  obtain ⟨i, rfl⟩ : ∃ i, t = i + 1 := ⟨t - 1, by omega⟩
  have e1 : par m (tapF rows size) = par m (tapF rows (i + 1)) := par_congr fun k hk => by
    refine tapF_low rows size (by omega) k ?_
    apply Classical.byContradiction
    intro hc
    rw [t4 k (by omega)] at hk; cases hk
  rw [e1]
  have e2 : par m (tapF rows (i + 1)) = (par m (tapF rows i) ^^ tapB rows (tapF rows i) i) := by
    have e3 : (tapF rows (i + 1)) = fun k => (tapF rows i k ^^ (decide (k = i) && tapB rows (tapF rows i) i)) := by
      funext k
      show (if k = i then _ else _) = _
      by_cases e : k = i
      · rw [if_pos e, e, tapF_high rows i i (Nat.le_refl _)]; simp
      · rw [if_neg e, decide_eq_false e]; simp
    rw [e3]
    unfold par
    have e4 : xorT 64 (fun k => m.testBit k && (decide (k = i) && tapB rows (tapF rows i) i)) = tapB rows (tapF rows i) i := by
      rw [xorT_more (m := i + 1) (by omega) (fun k h1 h2 => by rw [decide_eq_false (by omega)]; simp)]
      show (xorT i _ ^^ _) = _
      rw [xorT_false (n := i) (fun k hk => by rw [decide_eq_false (by omega)]; simp)]
      show (false ^^ (m.testBit i && (decide (i = i) && tapB rows (tapF rows i) i))) = _
      rw [show m.testBit i = true from t3]; simp
    rw [← e4, ← xorT_xor, e4]
    refine xorT_congr fun k _ => ?_
    show (m.testBit k && (tapF rows i k ^^ (decide (k = i) && tapB rows (tapF rows i) i))) = ((m.testBit k && tapF rows i k) ^^ (m.testBit k && (decide (k = i) && tapB rows (tapF rows i) i)))
    generalize (decide (k = i) && tapB rows (tapF rows i) i) = z
    cases m.testBit k <;> cases tapF rows i k <;> cases z <;> rfl
  rw [e2]
  unfold tapB
  rw [hr]
  simp only
  generalize par m (tapF rows i) = a
  cases a <;> cases w <;> rfl
theorem tapF_least {rows : RowsM} {size i : Nat} (hT : TopOk rows size) (hs : size ≤ 64) (hi : i < size) {y : Nat → Bool} (hy : SatR rows y) (hl : ∀ j, j < i → y j = tapF rows size j) (ht : tapF rows size i = true) : y i = true := by
  have e1 : tapF rows size i = tapB rows (tapF rows i) i := by
    rw [tapF_low rows size hi i (Nat.le_refl _)]
    show (if i = i then _ else _) = _
    rw [if_pos rfl]
  rw [e1] at ht
  unfold tapB at ht
  cases hr : rows (i + 1) with
  | none => rw [hr] at ht; cases ht
  | some mw =>
    obtain ⟨m, w⟩ := mw
    rw [hr] at ht
    simp only at ht
    obtain ⟨t1, t2, t3, t4⟩ := hT _ m w hr
    have h1 := hy _ m w hr
    apply Classical.byContradiction
    intro hc
    have hyi : y i = false := by simpa using hc
    have e2 : par m y = par m (tapF rows i) := par_congr fun k hk => by
      have hk2 : k ≤ i := by
        apply Classical.byContradiction
        intro hc
        rw [t4 k (by omega)] at hk; cases hk
      by_cases e : k = i
      · rw [e, hyi, tapF_high rows i i (Nat.le_refl _)]
      · rw [hl k (by omega)]
        obtain ⟨j, rfl⟩ : ∃ j, i = j + 1 := ⟨i - 1, by omega⟩
        exact tapF_low rows size (by omega) k (by omega)
    rw [← e2, h1] at ht
    simp at ht
/-- is there a rule that begins so? -/
def CanP (l : List Bool) (beg : List Bool) (L : Nat) : Prop := ∃ y, RuL l y L l.length ∧ ∀ i (h : i < beg.length), y i = beg[i]
theorem can_least {l : List Bool} {rows : RowsM} {size : Nat} (h : LsS l size l.length rows) (hs : size ≤ 64) {i : Nat} (hi : i < size) (beg : List Bool) (hb : beg.length = i) (hbl : ∀ j (h : j < beg.length), beg[j] = tapF rows size j) : CanP l (beg ++ [false]) size ↔ tapF rows size i = false := by
  constructor
  · rintro ⟨y, hy, h2⟩
    apply Classical.byContradiction
    intro hc
    have ht : tapF rows size i = true := by simpa using hc
    have h3 := tapF_least h.top hs hi ((h.sat y).2 hy) (fun j hj => by
      rw [h2 j (by simp; omega), List.getElem_append_left (by omega)]; exact hbl j (by omega)) ht
    rw [h2 i (by simp; omega), List.getElem_append_right (by omega)] at h3
    simp at h3
  · intro ht
    refine ⟨tapF rows size, (h.sat _).1 (tapF_sat h.top hs), fun j hj => ?_⟩
    simp only [List.length_append, List.length_singleton] at hj
    by_cases e : j < beg.length
    · rw [List.getElem_append_left e]; exact (hbl j e).symm
    · have : j = i := by omega
      subst this
      rw [List.getElem_append_right (by omega), ht]; simp
end Lw
set_option linter.unusedVariables false
namespace Lw
def rg (r : List Bool) (i : Nat) : Bool := r.getD i false
def SatM (u : Nat) (rows : List (List Bool)) (x : Nat → Bool) : Prop := ∀ r ∈ rows, xorT u (fun i => rg r i && x i) = rg r u
def ZerM (c : Nat) (rows : List (List Bool)) : Prop := ∀ r ∈ rows, ∀ i, i < c → rg r i = false
def LenM (u : Nat) (rows : List (List Bool)) : Prop := ∀ r ∈ rows, r.length = u + 1
/-- the first row from k on that has c -/
def atM (rows : List (List Bool)) (c : Nat) : Nat → Option Nat
  | 0 => none
  | k + 1 => match atM rows c k with
    | some a => some a
    | none => if rg (rows.getD k []) c then some k else none
def nxtRow (c : Nat) (P r : List Bool) : List Bool := (List.range r.length).map fun i => rg r i != (rg r c && rg P i)
def nxtT (rows : List (List Bool)) (a c : Nat) : Nat → List (List Bool)
  | 0 => []
  | k + 1 => if k = a then nxtT rows a c k else nxtT rows a c k ++ [nxtRow c (rows.getD a []) (rows.getD k [])]
def stepM (rows : List (List Bool)) (c : Nat) : List (List Bool) := match atM rows c rows.length with
  | some a => nxtT rows a c rows.length
  | none => rows
def elM (rows : List (List Bool)) : Nat → List (List Bool)
  | 0 => rows
  | c + 1 => stepM (elM rows c) c
theorem atM_some {rows : List (List Bool)} {c a : Nat} : ∀ k, atM rows c k = some a → a < k ∧ rg (rows.getD a []) c = true
  | 0, h => by cases h
  | k + 1, h => by
    unfold atM at h
    cases h2 : atM rows c k with
    | some b =>
      rw [h2] at h
      simp only [Option.some.injEq] at h
      subst h
      obtain ⟨h3, h4⟩ := atM_some k h2
      exact ⟨by omega, h4⟩
    | none =>
      rw [h2] at h
      simp only at h
      split at h
      · rename_i h3
        simp only [Option.some.injEq] at h
        subst h
        exact ⟨by omega, h3⟩
      · cases h
theorem atM_none {rows : List (List Bool)} {c : Nat} : ∀ k, atM rows c k = none → ∀ j, j < k → rg (rows.getD j []) c = false
  | 0, _, j, hj => by omega
  | k + 1, h, j, hj => by
    unfold atM at h
    cases h2 : atM rows c k with
    | some b => rw [h2] at h; cases h
    | none =>
      rw [h2] at h
      simp only at h
      split at h
      · cases h
      · rename_i h3
        by_cases e : j = k
        · rw [e]; simpa using h3
        · exact atM_none k h2 j (by omega)
theorem nxtRow_len (c : Nat) (P r : List Bool) : (nxtRow c P r).length = r.length := by simp [nxtRow]
theorem nxtRow_get {c : Nat} {P r : List Bool} {i : Nat} (h : i < r.length) : rg (nxtRow c P r) i = (rg r i != (rg r c && rg P i)) := by
  unfold rg
  rw [List.getD_eq_getElem?_getD, List.getElem?_eq_getElem (by rw [nxtRow_len]; exact h)]
  simp [nxtRow, rg]
theorem nxtT_mem {rows : List (List Bool)} {a c : Nat} : ∀ k r, r ∈ nxtT rows a c k ↔ ∃ j, j < k ∧ j ≠ a ∧ r = nxtRow c (rows.getD a []) (rows.getD j [])
  | 0, r => by
    unfold nxtT
    simp
  | k + 1, r => by
    unfold nxtT
    split
    · rename_i e
      rw [nxtT_mem k r]
      constructor
      · rintro ⟨j, h1, h2, h3⟩; exact ⟨j, by omega, h2, h3⟩
      · rintro ⟨j, h1, h2, h3⟩; exact ⟨j, by omega, h2, h3⟩
    · rename_i e
      rw [List.mem_append, nxtT_mem k r, List.mem_singleton]
      constructor
      · rintro (⟨j, h1, h2, h3⟩ | h)
        · exact ⟨j, by omega, h2, h3⟩
        · exact ⟨k, by omega, e, h⟩
      · rintro ⟨j, h1, h2, h3⟩
        by_cases e2 : j = k
        · subst e2; exact .inr h3
        · exact .inl ⟨j, by omega, h2, h3⟩
theorem getD_mem {rows : List (List Bool)} {j : Nat} (h : j < rows.length) : rows.getD j [] ∈ rows := by
  rw [List.getD_eq_getElem?_getD, List.getElem?_eq_getElem h]; exact List.getElem_mem h
theorem mem_getD {rows : List (List Bool)} {r : List Bool} (h : r ∈ rows) : ∃ j, j < rows.length ∧ r = rows.getD j [] := by
  obtain ⟨j, hj, rfl⟩ := List.mem_iff_getElem.1 h
  exact ⟨j, hj, by rw [List.getD_eq_getElem?_getD, List.getElem?_eq_getElem hj]; rfl⟩
theorem step_len {rows : List (List Bool)} {u c : Nat} (h : LenM u rows) : LenM u (stepM rows c) := by
  unfold stepM
  split
  · rename_i a ha
    intro r hr
    obtain ⟨j, h1, h2, rfl⟩ := (nxtT_mem _ r).1 hr
    rw [nxtRow_len]; exact h _ (getD_mem h1)
  · exact h
theorem step_zer {rows : List (List Bool)} {u c : Nat} (h : LenM u rows) (hz : ZerM c rows) (hc : c < u) : ZerM (c + 1) (stepM rows c) := by
  unfold stepM
  split
  · rename_i a ha
    obtain ⟨a1, a2⟩ := atM_some _ ha
    intro r hr i hi
    obtain ⟨j, h1, h2, rfl⟩ := (nxtT_mem _ r).1 hr
    have hl := h _ (getD_mem h1)
    rw [nxtRow_get (by omega)]
    by_cases e : i = c
    · rw [e, a2]; simp
    · rw [hz _ (getD_mem h1) i (by omega), hz _ (getD_mem a1) i (by omega)]; simp
  · rename_i ha
    intro r hr i hi
    by_cases e : i = c
    · obtain ⟨j, h1, rfl⟩ := mem_getD hr
      rw [e]; exact atM_none _ ha j h1
    · exact hz r hr i (by omega)
theorem nxt_sum {u c : Nat} {P r : List Bool} {x : Nat → Bool} (hl : r.length = u + 1) : xorT u (fun i => rg (nxtRow c P r) i && x i) = (xorT u (fun i => rg r i && x i) ^^ (rg r c && xorT u (fun i => rg P i && x i))) := by
  rw [and_xorT, ← xorT_xor]
  refine xorT_congr fun i hi => ?_
  rw [nxtRow_get (by omega)]
  cases rg r i <;> cases rg r c <;> cases rg P i <;> cases x i <;> rfl
theorem xorT_upd {u c : Nat} (hc : c < u) (f x : Nat → Bool) (v : Bool) : xorT u (fun i => f i && (if i = c then v else x i)) = (xorT u (fun i => f i && x i) ^^ (f c && (v ^^ x c))) := by
  have e : xorT u (fun i => decide (i = c) && (f c && (v ^^ x c))) = (f c && (v ^^ x c)) := by
    rw [xorT_more (m := c + 1) (by omega) (fun k h1 h2 => by rw [decide_eq_false (by omega)]; simp)]
    show (xorT c _ ^^ _) = _
    rw [xorT_false (n := c) (fun k hk => by rw [decide_eq_false (by omega)]; simp)]
    show (false ^^ (decide (c = c) && (f c && (v ^^ x c)))) = _
    simp
  rw [← e, ← xorT_xor]
  refine xorT_congr fun i hi => ?_
  by_cases h : i = c
  · subst h
    rw [if_pos rfl, decide_eq_true rfl]
    cases f i <;> cases v <;> cases x i <;> rfl
  · rw [if_neg h, decide_eq_false h]
    simp
theorem step_sat {rows : List (List Bool)} {u c : Nat} (h : LenM u rows) (hc : c < u) : (∃ x, SatM u rows x) ↔ ∃ x, SatM u (stepM rows c) x := by
  unfold stepM
  split
  · rename_i a ha
    obtain ⟨a1, a2⟩ := atM_some _ ha
    have hP := getD_mem a1
    have hPl := h _ hP
    constructor
    · rintro ⟨x, hx⟩
      refine ⟨x, fun r hr => ?_⟩
      obtain ⟨j, h1, h2, rfl⟩ := (nxtT_mem _ r).1 hr
      have hl := h _ (getD_mem h1)
      rw [nxt_sum hl, hx _ (getD_mem h1), hx _ hP, nxtRow_get (by omega)]
    · rintro ⟨x, hx⟩
      obtain ⟨v, hv⟩ : ∃ v, xorT u (fun i => rg (rows.getD a []) i && (if i = c then v else x i)) = rg (rows.getD a []) u := by
        refine ⟨(x c ^^ (xorT u (fun i => rg (rows.getD a []) i && x i) ^^ rg (rows.getD a []) u)), ?_⟩
        rw [xorT_upd hc, a2]
        generalize xorT u (fun i => rg (rows.getD a []) i && x i) = s
        generalize rg (rows.getD a []) u = q
        cases s <;> cases q <;> cases x c <;> rfl
      refine ⟨fun i => if i = c then v else x i, fun r hr => ?_⟩
      obtain ⟨j, h1, rfl⟩ := mem_getD hr
      by_cases e : j = a
      · rw [e]; exact hv
      · have hl := h _ (getD_mem h1)
        have h3 := hx _ ((nxtT_mem _ _).2 ⟨j, h1, e, rfl⟩)
        have h4 := nxt_sum (c := c) (P := rows.getD a []) (x := fun i => if i = c then v else x i) hl
        have h5 : xorT u (fun i => rg (nxtRow c (rows.getD a []) (rows.getD j [])) i && (if i = c then v else x i)) = xorT u (fun i => rg (nxtRow c (rows.getD a []) (rows.getD j [])) i && x i) := by
          rw [xorT_upd hc, nxtRow_get (by omega), a2]; simp
        rw [h5, h3, hv, nxtRow_get (by omega)] at h4
        generalize xorT u (fun i => rg (rows.getD j []) i && (if i = c then v else x i)) = s at *
        generalize rg (rows.getD j []) u = q at *
        generalize (rg (rows.getD j []) c && rg (rows.getD a []) u) = z at *
        revert h4
        cases s <;> cases q <;> cases z <;> simp
  · exact Iff.rfl
theorem elM_all {rows : List (List Bool)} {u : Nat} (h : LenM u rows) : ∀ c, c ≤ u → LenM u (elM rows c) ∧ ZerM c (elM rows c) ∧ ((∃ x, SatM u rows x) ↔ ∃ x, SatM u (elM rows c) x)
  | 0, _ => ⟨h, fun r _ i hi => by omega, Iff.rfl⟩
  | c + 1, hc => by
    obtain ⟨h1, h2, h3⟩ := elM_all h c (by omega)
    exact ⟨step_len h1, step_zer h1 h2 (by omega), h3.trans (step_sat h1 (by omega))⟩
theorem elM_end {rows : List (List Bool)} {u : Nat} (h : LenM u rows) : (∃ x, SatM u rows x) ↔ ∀ r ∈ elM rows u, rg r u = false := by
  obtain ⟨h1, h2, h3⟩ := elM_all h u (Nat.le_refl _)
  rw [h3]
  have z : ∀ r ∈ elM rows u, ∀ x : Nat → Bool, xorT u (fun i => rg r i && x i) = false := fun r hr x => xorT_false fun i hi => by rw [h2 r hr i hi]; simp
  constructor
  · rintro ⟨x, hx⟩ r hr
    rw [← hx r hr]; exact z r hr x
  · intro hx
    exact ⟨fun _ => false, fun r hr => by rw [z r hr, hx r hr]⟩
/-- the right side of a row, of i taps -/
def rhsN (l beg : List Bool) (n : Nat) : Nat → Bool
  | 0 => lx l n
  | i + 1 => if beg.getD i false && lx l (n - i - 1) then !(rhsN l beg n i) else rhsN l beg n i
theorem rhsN_eq (l beg : List Bool) (n : Nat) : ∀ i, rhsN l beg n i = (lx l n ^^ xorT i (fun i => beg.getD i false && lx l (n - i - 1)))
  | 0 => by show lx l n = (lx l n ^^ false); simp
  | i + 1 => by
    show (if _ then _ else _) = (lx l n ^^ (xorT i _ ^^ (beg.getD i false && lx l (n - i - 1))))
    rw [rhsN_eq l beg n i]
    generalize (beg.getD i false && lx l (n - i - 1)) = z
    generalize xorT i (fun i => beg.getD i false && lx l (n - i - 1)) = s
    cases z <;> cases s <;> cases lx l n <;> rfl
/-- the left side, of j taps that are open -/
def lhsN (l : List Bool) (b n j : Nat) : List Bool := (List.range j).map fun i => lx l (n - (b + i) - 1)
def rowN (l beg : List Bool) (taps n : Nat) : List Bool := lhsN l beg.length n (taps - beg.length) ++ [rhsN l beg n beg.length]
def rowsN (l beg : List Bool) (taps : Nat) (k : Nat) : List (List Bool) := (List.range k).map fun i => rowN l beg taps (taps + i)
theorem rowN_len (l beg : List Bool) (taps n : Nat) : (rowN l beg taps n).length = taps - beg.length + 1 := by simp [rowN, lhsN]
theorem rowsN_len (l beg : List Bool) (taps k : Nat) : LenM (taps - beg.length) (rowsN l beg taps k) := fun r hr => by
  obtain ⟨i, _, rfl⟩ := List.mem_map.1 hr
  exact rowN_len _ _ _ _
theorem rowN_get {l beg : List Bool} {taps n i : Nat} (h : i < taps - beg.length) : rg (rowN l beg taps n) i = lx l (n - (beg.length + i) - 1) := by
  unfold rg rowN lhsN
  rw [List.getD_eq_getElem?_getD, List.getElem?_append_left (by simpa using h), List.getElem?_map, List.getElem?_range (by omega)]; rfl
theorem rowN_last {l beg : List Bool} {taps n : Nat} : rg (rowN l beg taps n) (taps - beg.length) = rhsN l beg n beg.length := by
  unfold rg rowN
  rw [List.getD_eq_getElem?_getD, List.getElem?_append_right (by simp [lhsN])]
  simp [lhsN]
def canB (l beg : List Bool) (taps : Nat) : Bool := (elM (rowsN l beg taps (l.length - taps)) (taps - beg.length)).all fun r => !(rg r (taps - beg.length))
theorem canB_iff {l beg : List Bool} {taps : Nat} (hb : beg.length ≤ taps) (ht : taps ≤ l.length) : canB l beg taps = true ↔ CanP l beg taps := by
  unfold canB
  rw [List.all_eq_true]
  have e1 : (∀ r ∈ elM (rowsN l beg taps (l.length - taps)) (taps - beg.length), (!(rg r (taps - beg.length))) = true) ↔ ∃ x, SatM (taps - beg.length) (rowsN l beg taps (l.length - taps)) x := by
    rw [elM_end (rowsN_len l beg taps _)]
    constructor
    · intro h r hr; simpa using h r hr
    · intro h r hr; simpa using h r hr
  rw [e1]
  have key : ∀ (x y : Nat → Bool) (n : Nat), (∀ i (h : i < beg.length), y i = beg[i]) → (∀ i, x i = y (beg.length + i)) → (xorT (taps - beg.length) (fun i => rg (rowN l beg taps n) i && x i) = rg (rowN l beg taps n) (taps - beg.length) ↔ lx l n = xorT taps (fun i => y i && lx l (n - i - 1))) := fun x y n hy hx => by
    have e2 : xorT taps (fun i => y i && lx l (n - i - 1)) = (xorT beg.length (fun i => beg.getD i false && lx l (n - i - 1)) ^^ xorT (taps - beg.length) (fun i => rg (rowN l beg taps n) i && x i)) := by
      have e3 := xorT_add (fun i => y i && lx l (n - i - 1)) beg.length (taps - beg.length)
      rw [show beg.length + (taps - beg.length) = taps from by omega] at e3
      rw [e3]
      congr 1
      · refine xorT_congr fun i hi => ?_
        rw [hy i hi, List.getD_eq_getElem?_getD, List.getElem?_eq_getElem hi]; rfl
      · refine xorT_congr fun i hi => ?_
        rw [rowN_get hi, hx i, Bool.and_comm]
    rw [rowN_last, rhsN_eq, e2]
    generalize xorT beg.length (fun i => beg.getD i false && lx l (n - i - 1)) = s
    generalize xorT (taps - beg.length) (fun i => rg (rowN l beg taps n) i && x i) = t
    cases s <;> cases t <;> cases lx l n <;> simp
  constructor
  · rintro ⟨x, hx⟩
    refine ⟨fun i => if h : i < beg.length then beg[i] else x (i - beg.length), fun k h1 h2 => ?_, fun i hi => dif_pos hi⟩
    have h3 := hx (rowN l beg taps k) (List.mem_map.2 ⟨k - taps, List.mem_range.2 (by omega), by rw [show taps + (k - taps) = k from by omega]⟩)
    exact (key x _ k (fun i hi => dif_pos hi) (fun i => by rw [dif_neg (by omega)]; congr 1; omega)).1 h3
  · rintro ⟨y, hy, hb2⟩
    refine ⟨fun i => y (beg.length + i), fun r hr => ?_⟩
    obtain ⟨i, hi, rfl⟩ := List.mem_map.1 hr
    have := List.mem_range.1 hi
    exact (key _ y (taps + i) hb2 (fun i => rfl)).2 (hy (taps + i) (by omega) (by omega))
end Lw
namespace Lw
open Go Go.RowKit
theorem wrap_u64 (n : Int) : IntKind.u64.wrap n = n % 18446744073709551616 := by simp [IntKind.wrap, IntKind.bits, IntKind.signed]
theorem swI1 (x : Nat) (hx : x < 18446744073709551616) : IntKind.u64.wrap (bits .and .u64 ((x : Int) / 2) 6148914691236517205 + bits .and .u64 (x : Int) 6148914691236517205) = (sw1 x : Nat) ∧ sw1 x < 18446744073709551616 := by
  have a : x / 2 &&& 6148914691236517205 ≤ 6148914691236517205 := Nat.and_le_right
  have b : x &&& 6148914691236517205 ≤ 6148914691236517205 := Nat.and_le_right
  have e1 := u64_and_nat (x / 2) 6148914691236517205 (by omega) (by omega)
  have e2 := u64_and_nat x 6148914691236517205 hx (by omega)
  rw [show ((x : Int) / 2) = ((x / 2 : Nat) : Int) from by omega]
  simp only [Int.cast_ofNat_Int] at e1 e2
  rw [e1, e2, wrap_u64]
  unfold sw1
  omega
theorem swI2 (x : Nat) (hx : x < 18446744073709551616) : IntKind.u64.wrap (bits .and .u64 ((x : Int) / 4) 3689348814741910323 + bits .and .u64 (x : Int) 3689348814741910323) = (sw2 x : Nat) ∧ sw2 x ≤ 7378697629483820646 := by
  have a : x / 4 &&& 3689348814741910323 ≤ 3689348814741910323 := Nat.and_le_right
  have b : x &&& 3689348814741910323 ≤ 3689348814741910323 := Nat.and_le_right
  have e1 := u64_and_nat (x / 4) 3689348814741910323 (by omega) (by omega)
  have e2 := u64_and_nat x 3689348814741910323 hx (by omega)
  rw [show ((x : Int) / 4) = ((x / 4 : Nat) : Int) from by omega]
  simp only [Int.cast_ofNat_Int] at e1 e2
  rw [e1, e2, wrap_u64]
  unfold sw2
  omega
theorem swI3 (x : Nat) (hx : x ≤ 7378697629483820646) : bits .and .u64 (IntKind.u64.wrap ((x : Int) / 16 + (x : Int))) 1085102592571150095 = (nib x : Nat) ∧ nib x < 18446744073709551616 := by
  have e1 := u64_and_nat (x / 16 + x) 1085102592571150095 (by omega) (by omega)
  have a : x / 16 + x &&& 1085102592571150095 ≤ 1085102592571150095 := Nat.and_le_right
  simp only [Int.cast_ofNat_Int] at e1
  rw [wrap_u64, show ((x : Int) / 16 + (x : Int)) % 18446744073709551616 = ((x / 16 + x : Nat) : Int) from by omega, e1]
  unfold nib
  exact ⟨rfl, by omega⟩
theorem swI4 (d x : Nat) : IntKind.u64.wrap ((x : Int) + (x : Int) / (d : Int)) = (((x + x / d) % 18446744073709551616 : Nat) : Int) := by
  rw [wrap_u64]; omega
theorem swI5 (v : Nat) (hv : v < 18446744073709551616) : bits .and .i64 (wrap64 (v : Int)) 127 = ((v % 128 : Nat) : Int) := by
  show IntKind.i64.wrap ((BitVec.ofInt 64 (wrap64 (v : Int)) &&& BitVec.ofInt 64 127).toNat : Int) = _
  have e : (BitVec.ofInt 64 (wrap64 (v : Int))).toNat = v := by
    rw [BitVec.toNat_ofInt]
    unfold wrap64
    omega
  rw [BitVec.toNat_and, e, show (BitVec.ofInt 64 127).toNat = 127 from rfl, show v &&& 127 = v % 128 from Nat.and_two_pow_sub_one_eq_mod v 7]
  have := Nat.mod_lt v (show 0 < 128 by omega)
  rw [IntWalk.i64_left]
  unfold wrap64
  omega
end Lw
set_option linter.unusedVariables false
set_option linter.unusedSimpArgs false
namespace Go.Proofs.Ytafefengppiobaa
open Go.RowKit
set_option maxRecDepth 100000 in
theorem bits_OnesCount64 (x : Nat) (hx : x < 18446744073709551616) (w : World) : Calls Try.prog 32 #[.int .u64 (x : Int)] w fun e w' => (∃ c : Int, e = .returned (.int .i64 c) ∧ 0 ≤ c ∧ c ≤ 64 ∧ decide (c % 2 = 1) = Lw.oddN x) ∧ w = w' := by
  go_enter Try.func32, Try.ntmps32
  go_wp2
  go_ret
  refine ⟨?_, rfl⟩
  obtain ⟨e1, b1⟩ := Lw.swI1 x hx
  rw [e1]
  obtain ⟨e2, b2⟩ := Lw.swI2 _ b1
  rw [e2]
  obtain ⟨e3, b3⟩ := Lw.swI3 _ b2
  rw [e3]
  generalize hy : Lw.nib (Lw.sw2 (Lw.sw1 x)) = y at *
  have e4 := Lw.swI4 256 y
  simp only [Int.cast_ofNat_Int] at e4
  rw [e4]
  generalize hz : (y + y / 256) % 18446744073709551616 = z at *
  have e5 := Lw.swI4 65536 z
  simp only [Int.cast_ofNat_Int] at e5
  rw [e5]
  generalize hu : (z + z / 65536) % 18446744073709551616 = u at *
  have e6 := Lw.swI4 4294967296 u
  simp only [Int.cast_ofNat_Int] at e6
  rw [e6]
  generalize hv : (u + u / 4294967296) % 18446744073709551616 = v at *
  obtain ⟨c1, c2⟩ := Lw.swar_odd x y z u v hx hy.symm hz.symm hu.symm hv.symm
  simp only [Array.getD, List.size_toArray, List.length_cons, List.length_nil]
  refine ⟨((v % 128 : Nat) : Int), ?_, by omega, by omega, ?_⟩
  · show Ending.returned (Value.int IntKind.i64 (bits BinOp.and IntKind.i64 (wrap64 (v : Int)) 127)) = _
    rw [Lw.swI5 v (by omega)]
  · rw [← c2]; congr 1; apply propext; omega
theorem shift_odd (x : Nat) (hx : x < 18446744073709551616) (w : World) : Calls Try.prog 19 #[.int .u64 (x : Int)] w fun e w' => e = .returned (.bool (Lw.oddN x)) ∧ w = w' := by
  have X := Lib.hid (fun W => bits_OnesCount64 x hx W)
  go_enter Try.func19, Try.ntmps19
  go_wp2_with (go_at_call 32; (with_reducible refine (X.out _).mono ?_); rintro e w' ⟨⟨c, rfl, c0, c1, c2⟩, rfl⟩)
  go_ret
  refine ⟨?_, rfl⟩
  show Ending.returned (Value.bool (c % 2 == 1)) = _
  rw [← c2]; rfl
end Go.Proofs.Ytafefengppiobaa
namespace Lw
open Go Go.RowKit
def bsV (bs : List Bool) : List Value := bs.map .bool
theorem bsV_length (bs : List Bool) : (bsV bs).length = bs.length := by simp [bsV]
theorem bsV_get {bs : List Bool} {i : Nat} (h : i < bs.length) : (bsV bs)[i]? = some (.bool bs[i]) := by simp [bsV, h]
theorem bsV_app (bs : List Bool) (b : Bool) : bsV (bs ++ [b]) = bsV bs ++ [.bool b] := by simp [bsV]
theorem oneb (b : Bool) : ∀ u ∈ [Value.bool b], u.oneCell' = true := by intro u hu; simp at hu; subst hu; rfl
/-- an argument of truths -/
theorem bools1 : ∀ {L : List (List Value)}, (∀ vs ∈ L, All2 [IsB] vs) → ∃ T : List Bool, L = T.map (fun t => [.bool t])
  | [], _ => ⟨[], rfl⟩
  | vs :: L, h => by
    obtain ⟨T, hT⟩ := bools1 (L := L) fun z hz => h z (by simp [hz])
    have h0 := h vs (by simp)
    cases h0 with | cons a h1 => cases h1 with | nil =>
      obtain ⟨b, rfl⟩ := a
      exact ⟨b :: T, by simp [hT]⟩
theorem IsSl.bools {w : World} {A : Option Addr} {n c : Nat} (h : IsSl w [IsB] A n c) : ∃ bs, Rd w 1 A n (bsV bs) ∧ bs.length = n := by
  obtain ⟨L, l1, h2, R⟩ := h.list (by simp)
  obtain ⟨T, hT⟩ := bools1 h2
  refine ⟨T, ?_, by rw [hT] at l1; simpa using l1⟩
  rw [hT] at R
  have : bsV T = (T.map (fun t => [Value.bool t])).flatten := by
    unfold bsV; clear hT R
    induction T with
    | nil => rfl
    | cons a T ih => simp [ih]
  rw [this]; exact R
/-- bits as a word -/
def wordN : List Bool → Nat
  | [] => 0
  | b :: bs => b.toNat + 2 * wordN bs
theorem word_bit : ∀ (bs : List Bool) (k : Nat), (wordN bs).testBit k = bs.getD k false
  | [], k => by simp [wordN]
  | b :: bs, 0 => by
    show (b.toNat + 2 * wordN bs).testBit 0 = b
    rw [Nat.testBit_zero]
    cases b <;> simp [Bool.toNat] <;> omega
  | b :: bs, k + 1 => by
    show (b.toNat + 2 * wordN bs).testBit (k + 1) = bs.getD k false
    rw [Nat.testBit_succ, show (b.toNat + 2 * wordN bs) / 2 = wordN bs by cases b <;> simp [Bool.toNat] <;> omega]
    exact word_bit bs k
theorem word_lt : ∀ bs : List Bool, wordN bs < 2 ^ bs.length
  | [] => by simp [wordN]
  | b :: bs => by
    have := word_lt bs
    show b.toNat + 2 * wordN bs < 2 ^ (bs.length + 1)
    rw [Nat.pow_succ]
    cases b <;> simp [Bool.toNat] <;> omega
theorem word_take {bs : List Bool} {k : Nat} (hk : k < bs.length) : wordN (bs.take (k + 1)) = wordN (bs.take k) ||| (if bs[k] then 2 ^ k else 0) := by
  apply Nat.eq_of_testBit_eq
  intro j
  rw [Nat.testBit_or, word_bit, word_bit]
  simp only [List.getD_eq_getElem?_getD, List.getElem?_take]
  by_cases h : j < k
  · rw [if_pos (by omega), if_pos h]
    have : (if bs[k] then 2 ^ k else 0).testBit j = false := by
      split
      · rw [Nat.testBit_two_pow]; simp; omega
      · simp
    rw [this, Bool.or_false]
  · rw [if_neg h]
    by_cases h2 : j = k
    · subst h2
      rw [if_pos (by omega), List.getElem?_eq_getElem hk]
      cases bs[j] <;> simp
    · rw [if_neg (by omega)]
      have : (if bs[k] then 2 ^ k else 0).testBit j = false := by
        split
        · rw [Nat.testBit_two_pow]; simp; omega
        · simp
      rw [this]; rfl
theorem word_64 {bs : List Bool} (h : bs.length ≤ 64) : wordN bs < 18446744073709551616 := by
  have h1 := word_lt bs
  have h2 : 2 ^ bs.length ≤ 2 ^ 64 := Nat.pow_le_pow_right (by omega) h
  omega
theorem pow_64 {k : Nat} (h : k < 64) : 2 ^ k < 18446744073709551616 := Nat.lt_of_lt_of_le (Nat.pow_lt_pow_right (by omega) h) (by decide)
theorem sh_one {k : Nat} (h : k < 64) : IntKind.u64.wrap (2 ^ k) = ((2 ^ k : Nat) : Int) := by
  have h1 := pow_64 h
  have e : ((2 : Int) ^ k) = ((2 ^ k : Nat) : Int) := by rw [Int.natCast_pow]; rfl
  rw [wrap_u64, e]
  generalize 2 ^ k = y at *
  omega
theorem or_two {P : Nat} (h : P < 9223372036854775808) : bits .or .u64 ((P : Int) * 2) 1 = ((1 + 2 * P : Nat) : Int) := by
  have e := u64_or_nat (2 * P) 1 (by omega) (by omega)
  rw [show ((2 * P : Nat) : Int) = (P : Int) * 2 by omega, show ((1 : Nat) : Int) = 1 from rfl] at e
  rw [e]
  congr 1
  apply Nat.eq_of_testBit_eq
  intro j
  rw [Nat.testBit_or]
  cases j with
  | zero => simp [Nat.testBit_zero]
  | succ j => rw [Nat.testBit_succ, Nat.testBit_succ, Nat.testBit_succ, show 2 * P / 2 = P by omega, show (1 + 2 * P) / 2 = P by omega]; simp
/-- the next bit by a rule -/
def nextB (taps first l : List Bool) (i : Nat) : Bool := if i < first.length then first.getD i false else xorT taps.length fun k => taps.getD k false && l.getD (i - k - 1) false
def runR (taps first : List Bool) : Nat → List Bool
  | 0 => []
  | i + 1 => runR taps first i ++ [nextB taps first (runR taps first i) i]
theorem runR_len (taps first : List Bool) : ∀ i, (runR taps first i).length = i
  | 0 => rfl
  | i + 1 => by unfold runR; rw [List.length_append, runR_len taps first i]; rfl
theorem rev_getD {l : List Bool} {i k : Nat} (hl : l.length = i) (hk : k < i) : l.reverse.getD k false = l.getD (i - k - 1) false := by
  rw [List.getD_eq_getElem?_getD, List.getD_eq_getElem?_getD, List.getElem?_reverse (by omega), hl, show i - 1 - k = i - k - 1 by omega]
theorem odd_next {taps first l : List Bool} {i : Nat} (h1 : taps.length ≤ 64) (h2 : first.length = taps.length) (hi : ¬ i < first.length) (hl : l.length = i) : oddN (wordN l.reverse &&& wordN taps) = nextB taps first l i := by
  unfold oddN nextB
  rw [if_neg hi]
  have e : ∀ k, (wordN l.reverse &&& wordN taps).testBit k = (taps.getD k false && l.reverse.getD k false) := fun k => by rw [Nat.testBit_and, word_bit, word_bit, Bool.and_comm]
  rw [xorT_more (m := taps.length) h1 (fun k hk _ => by rw [e, List.getD_eq_getElem?_getD (l := taps), List.getElem?_eq_none hk]; rfl)]
  exact xorT_congr fun k hk => by rw [e, rev_getD hl (by omega)]
theorem first_next {taps first l : List Bool} {i : Nat} (hi : i < first.length) : nextB taps first l i = first[i] := by
  unfold nextB; rw [if_pos hi, List.getD_eq_getElem?_getD, List.getElem?_eq_getElem hi]; rfl
theorem past_next (l : List Bool) (b : Bool) : wordN (l ++ [b]).reverse = b.toNat + 2 * wordN l.reverse := by simp [wordN]
theorem runR_succ (taps first : List Bool) (i : Nat) : runR taps first (i + 1) = runR taps first i ++ [nextB taps first (runR taps first i) i] := rfl
def BolR (m : Nat) (L : List Bool) (w : World) (e : Ending) (w' : World) : Prop := ∃ C g, e = .returned (.tuple #[.slice C m g, .int .i64 0]) ∧ Rd w' 1 C m (bsV L) ∧ Below w.heap.size w w'
def BolF (m : Nat) (L : List Bool) (w : World) (e : Ending) (w' : World) : Prop := ∃ C g, e = .returned (.slice C m g) ∧ Rd w' 1 C m (bsV L) ∧ Below w.heap.size w w'
end Lw
set_option linter.unusedVariables false
set_option linter.unusedSimpArgs false
namespace Go.Proofs.Ytafefengppiobaa
open Go.RowKit
set_option maxHeartbeats 1000000 in
theorem ref_Bools (A B : Option Addr) (n m c d : Nat) (xs ys : List Bool) (w : World) (R1 : Lw.Rd w 1 A n (Lw.bsV xs)) (R2 : Lw.Rd w 1 B m (Lw.bsV ys)) (hn : n ≤ 1073741824) (hm : m ≤ 1073741824) :
    Calls Try.prog 6 #[.slice A n c, .slice B m d] w fun e w' => e = .returned (.bool (decide (xs = ys))) ∧ Below w.heap.size w w' := by
  have l1 : xs.length = n := by have := R1.1; simpa [Lw.bsV] using this
  have l2 : ys.length = m := by have := R2.1; simpa [Lw.bsV] using this
  by_cases hnm : n = m
  · subst hnm
    have L1 := Lib.hid l1
    have L2 := Lib.hid l2
    have R1 := Lib.hid R1
    have R2 := Lib.hid R2
    clear l1 l2
    go_enter Try.func6, Try.ntmps6
    go_wp2
    go_loopw [5] (fun i wr => ∃ k : Nat, i = .int .i64 (k : Int) ∧ k ≤ n ∧ Hid (xs.take k = ys.take k) ∧ Below w.heap.size w wr) (fun i _ => n - (intOf i).toNat)
    case atStart => exact ⟨0, rfl, by omega, rfl, Below.refl _ _⟩
    case round =>
      obtain ⟨k, rfl, k1, T, hB⟩ := hrel
      by_cases hlt : k < n
      · have h1 : k < xs.length := by have := L1.out; omega
        have h2 : k < ys.length := by have := L2.out; omega
        obtain ⟨a1, rfl, ha1, c1⟩ := (R1.out.below (Nat.le_refl _) hB).at1 hlt (Lw.bsV_get h1)
        obtain ⟨a2, rfl, ha2, c2⟩ := (R2.out.below (Nat.le_refl _) hB).at1 hlt (Lw.bsV_get h2)
        have N : Hid (xs[k] = ys[k] → xs.take (k + 1) = ys.take (k + 1)) := by
          intro e; rw [List.take_succ_eq_append_getElem h1, List.take_succ_eq_append_getElem h2, T.out, e]
        have D : Hid (xs[k] ≠ ys[k] → decide (xs = ys) = false) := by
          intro e; apply decide_eq_false; intro e2; subst e2; exact e rfl
        obtain ⟨x, hx⟩ : ∃ x, xs[k] = x := ⟨_, rfl⟩
        obtain ⟨y, hy⟩ : ∃ y, ys[k] = y := ⟨_, rfl⟩
        rw [hx] at c1 N D
        rw [hy] at c2 N D
        clear hx hy
        have i0 : (0 : Int) ≤ (k : Int) := by omega
        have i1 : (k : Int) < (n : Int) := by omega
        by_cases hxy : x = y
        · have N2 := Lib.hid (N.out hxy)
          clear N D
          subst hxy
          go_wp2
          refine wp_region_held_drew (S := fun w' => w'.cell? (a1.add k) = some (.bool x) ∧ w'.cell? (a2.add k) = some (.bool x)) (by kernel_rfl) (by exact ⟨c1, c2⟩) (fun hHeld => ?_)
          (refine Lw.take1 (i := 0) (v := ?_) rfl (by kernel_rfl) (by kernel_rfl) (by kernel_rfl) (fun _ _ _ h => h) (Or.inl ⟨by rfl, ?_⟩) (by assumption) ?_; rotate_left 1; (focus (intro wS hSw; (try dsimp only at hSw); go_simp <;> with_reducible rfl)); (try simp only [Act.put, List.setIfInBounds_toArray, List.set_cons_zero, List.set_cons_succ]))
          (refine Lw.take1 (i := 1) (v := ?_) rfl (by kernel_rfl) (by kernel_rfl) (by kernel_rfl) (fun _ _ _ h => h) (Or.inl ⟨by rfl, ?_⟩) (by assumption) ?_; rotate_left 1; (focus (intro wS hSw; (try dsimp only at hSw); go_simp <;> with_reducible rfl)); (try simp only [Act.put, List.setIfInBounds_toArray, List.set_cons_zero, List.set_cons_succ]))
          (refine Lw.take1 (i := 2) (v := ?_) rfl (by kernel_rfl) (by kernel_rfl) (by kernel_rfl) (fun _ _ _ h => h) (Or.inl ⟨by rfl, ?_⟩) (by assumption) ?_; rotate_left 1; (focus (intro wS hSw; (try dsimp only at hSw); go_simp <;> with_reducible rfl)); (try simp only [Act.put, List.setIfInBounds_toArray, List.set_cons_zero, List.set_cons_succ]))
          (refine Lw.take1 (i := 3) (v := ?_) rfl (by kernel_rfl) (by kernel_rfl) (by kernel_rfl) (fun _ _ _ h => h) (Or.inl ⟨by rfl, ?_⟩) (by assumption) ?_; rotate_left 1; (focus (intro wS hSw; (try dsimp only at hSw); go_simp <;> with_reducible rfl)); (try simp only [Act.put, List.setIfInBounds_toArray, List.set_cons_zero, List.set_cons_succ]))
          (refine Lw.take1 (i := 4) (v := ?_) rfl (by kernel_rfl) (by kernel_rfl) (by kernel_rfl) (fun _ _ _ h => h) (Or.inl ⟨by rfl, ?_⟩) (by assumption) ?_; rotate_left 1; (focus (intro wS hSw; (try dsimp only at hSw); go_simp <;> with_reducible rfl)); (try simp only [Act.put, List.setIfInBounds_toArray, List.set_cons_zero, List.set_cons_succ]))
          (refine Lw.take1 (i := 5) (v := ?_) rfl (by kernel_rfl) (by kernel_rfl) (by kernel_rfl) (fun _ _ _ h => h) (Or.inl ⟨by rfl, ?_⟩) (by assumption) ?_; rotate_left 1; (focus (intro wS hSw; (try dsimp only at hSw); go_simp <;> with_reducible rfl)); (try simp only [Act.put, List.setIfInBounds_toArray, List.set_cons_zero, List.set_cons_succ]))
          (refine Lw.take1 (i := 6) (v := ?_) rfl (by kernel_rfl) (by kernel_rfl) (by kernel_rfl) (fun _ _ _ h => h) (Or.inl ⟨by rfl, ?_⟩) (by assumption) ?_; rotate_left 1; (focus (intro wS hSw; (try dsimp only at hSw); go_simp <;> with_reducible rfl)); (try simp only [Act.put, List.setIfInBounds_toArray, List.set_cons_zero, List.set_cons_succ]))
          (refine Lw.take1 (i := 7) (v := ?_) rfl (by kernel_rfl) (by kernel_rfl) (by kernel_rfl) (fun _ _ _ h => h) (Or.inl ⟨by rfl, ?_⟩) (by assumption) ?_; rotate_left 1; (focus (intro wS hSw; (try dsimp only at hSw); go_simp <;> with_reducible rfl)); (try simp only [Act.put, List.setIfInBounds_toArray, List.set_cons_zero, List.set_cons_succ]))
          (refine Lw.take1 (i := 8) (v := ?_) rfl (by kernel_rfl) (by kernel_rfl) (by kernel_rfl) (fun _ _ _ h => h) (Or.inl ⟨by rfl, ?_⟩) (by assumption) ?_; rotate_left 1; (focus (intro wS hSw; (try dsimp only at hSw); go_simp <;> with_reducible rfl)); (try simp only [Act.put, List.setIfInBounds_toArray, List.set_cons_zero, List.set_cons_succ]))
          refine wpAnyH_done (by kernel_rfl) ?_ _
          go_wp2
          go_roundw
          case rel => exact ⟨k + 1, by go_num, by omega, N2, Below.drew hB⟩
          case measure => simp [intOf]; omega
        · have D := Lib.hid (D.out hxy)
          have x1 : (!(x == y)) = true := by simpa using hxy
          clear hxy N
          go_wp2
          refine wp_region_held_drew (S := fun w' => w'.cell? (a1.add k) = some (.bool x) ∧ w'.cell? (a2.add k) = some (.bool y)) (by kernel_rfl) (by exact ⟨c1, c2⟩) (fun hHeld => ?_)
          (refine Lw.take1 (i := 0) (v := ?_) rfl (by kernel_rfl) (by kernel_rfl) (by kernel_rfl) (fun _ _ _ h => h) (Or.inl ⟨by rfl, ?_⟩) (by assumption) ?_; rotate_left 1; (focus (intro wS hSw; (try dsimp only at hSw); go_simp <;> with_reducible rfl)); (try simp only [Act.put, List.setIfInBounds_toArray, List.set_cons_zero, List.set_cons_succ]))
          (refine Lw.take1 (i := 1) (v := ?_) rfl (by kernel_rfl) (by kernel_rfl) (by kernel_rfl) (fun _ _ _ h => h) (Or.inl ⟨by rfl, ?_⟩) (by assumption) ?_; rotate_left 1; (focus (intro wS hSw; (try dsimp only at hSw); go_simp <;> with_reducible rfl)); (try simp only [Act.put, List.setIfInBounds_toArray, List.set_cons_zero, List.set_cons_succ]))
          (refine Lw.take1 (i := 2) (v := ?_) rfl (by kernel_rfl) (by kernel_rfl) (by kernel_rfl) (fun _ _ _ h => h) (Or.inl ⟨by rfl, ?_⟩) (by assumption) ?_; rotate_left 1; (focus (intro wS hSw; (try dsimp only at hSw); go_simp <;> with_reducible rfl)); (try simp only [Act.put, List.setIfInBounds_toArray, List.set_cons_zero, List.set_cons_succ]))
          (refine Lw.take1 (i := 3) (v := ?_) rfl (by kernel_rfl) (by kernel_rfl) (by kernel_rfl) (fun _ _ _ h => h) (Or.inl ⟨by rfl, ?_⟩) (by assumption) ?_; rotate_left 1; (focus (intro wS hSw; (try dsimp only at hSw); go_simp <;> with_reducible rfl)); (try simp only [Act.put, List.setIfInBounds_toArray, List.set_cons_zero, List.set_cons_succ]))
          (refine Lw.take1 (i := 4) (v := ?_) rfl (by kernel_rfl) (by kernel_rfl) (by kernel_rfl) (fun _ _ _ h => h) (Or.inl ⟨by rfl, ?_⟩) (by assumption) ?_; rotate_left 1; (focus (intro wS hSw; (try dsimp only at hSw); go_simp <;> with_reducible rfl)); (try simp only [Act.put, List.setIfInBounds_toArray, List.set_cons_zero, List.set_cons_succ]))
          (refine Lw.take1 (i := 5) (v := ?_) rfl (by kernel_rfl) (by kernel_rfl) (by kernel_rfl) (fun _ _ _ h => h) (Or.inl ⟨by rfl, ?_⟩) (by assumption) ?_; rotate_left 1; (focus (intro wS hSw; (try dsimp only at hSw); go_simp <;> with_reducible rfl)); (try simp only [Act.put, List.setIfInBounds_toArray, List.set_cons_zero, List.set_cons_succ]))
          (refine Lw.take1 (i := 6) (v := ?_) rfl (by kernel_rfl) (by kernel_rfl) (by kernel_rfl) (fun _ _ _ h => h) (Or.inl ⟨by rfl, ?_⟩) (by assumption) ?_; rotate_left 1; (focus (intro wS hSw; (try dsimp only at hSw); go_simp <;> with_reducible rfl)); (try simp only [Act.put, List.setIfInBounds_toArray, List.set_cons_zero, List.set_cons_succ]))
          (refine Lw.take1 (i := 7) (v := ?_) rfl (by kernel_rfl) (by kernel_rfl) (by kernel_rfl) (fun _ _ _ h => h) (Or.inl ⟨by rfl, ?_⟩) (by assumption) ?_; rotate_left 1; (focus (intro wS hSw; (try dsimp only at hSw); go_simp <;> with_reducible rfl)); (try simp only [Act.put, List.setIfInBounds_toArray, List.set_cons_zero, List.set_cons_succ]))
          (refine Lw.take1 (i := 8) (v := ?_) rfl (by kernel_rfl) (by kernel_rfl) (by kernel_rfl) (fun _ _ _ h => h) (Or.inl ⟨by rfl, ?_⟩) (by assumption) ?_; rotate_left 1; (focus (intro wS hSw; (try dsimp only at hSw); go_simp <;> with_reducible rfl)); (try simp only [Act.put, List.setIfInBounds_toArray, List.set_cons_zero, List.set_cons_succ]))
          refine wpAnyH_done (by kernel_rfl) ?_ _
          go_wp2
          go_ret
          rw [D.out]
          exact ⟨rfl, Below.drew hB⟩
      · have hk : k = n := by omega
        subst hk
        have E : Hid (decide (xs = ys) = true) := by
          apply decide_eq_true
          have := T.out
          rwa [List.take_of_length_le (by have := L1.out; omega), List.take_of_length_le (by have := L2.out; omega)] at this
        go_wp2
        go_ret
        rw [E.out]
        exact ⟨rfl, hB⟩
  · have D : Hid (decide (xs = ys) = false) := by
      apply decide_eq_false; intro e; subst e; exact hnm (l1.symm.trans l2)
    have h1 : ((n : Int) != (m : Int)) = true := by simp; omega
    clear l1 l2 R1 R2
    go_enter Try.func6, Try.ntmps6
    go_wp2
    go_ret
    rw [D.out]
    exact ⟨rfl, Below.refl _ _⟩

theorem elBol : Lw.El Try.prog 22 4 (.bool false) 1 1 := Lw.El.mk' Try.underlying22 (by kernel_rfl) rfl (by decide) (by decide)
end Go.Proofs.Ytafefengppiobaa
