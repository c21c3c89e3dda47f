/- A region that draws, in a round of a range over a function of the wide fence, its calls and all: walked by the laws for regions outside of rounds. -/
import Derived.Test.YtnlbnadjolfjpaaRnd
import Derived.RangeFuncCalls
namespace Lw
open Go
theorem upon_in {n l : Nat} {P : Program} {o : Oper} {a : Act} {next next' : Act → World → Prop} {Q : Exit → Act → World → Prop} (hn : ∀ a w, next a w → next' a w) :
    ∀ r : Result Next, o.upon P a next Q r → o.uponIn (Fence.wide.inRound l) n P a next' Q r := by
  intro r h
  rcases r with ⟨x, w'⟩ | ⟨x, w'⟩
  · cases x with
    | value v => exact hn _ _ h
    | skip => exact hn _ _ h
    | defer d => exact hn _ _ h
    | enter f args =>
      refine ⟨fun hd => by simp [Fence.inRound, Fence.wide] at hd, CallsIn.inRound l (callsIn_wide.2 ?_)⟩
      refine Calls.mono (show Calls P f args w' _ from h) fun e w'' he => ?_
      cases e with
      | returned v => exact hn _ _ he
      | panicked c => exact he
      | outgrown => exact he
    | row row args =>
      refine ⟨fun hd => by simp [Fence.inRound, Fence.wide] at hd, ?_⟩
      have h2 : Rows P row args w' fun v w'' => next (a.put o.dst v) w'' := h
      intro c cs _
      obtain ⟨v, w'', hv, hs⟩ := h2 c cs
      exact ⟨v, w'', hn _ _ hv, stepsIn_wide.2 hs⟩
    | _ => exact (show False from h).elim
  · cases x <;> first | exact h | exact (show False from h).elim
def noDefer (o : Op) : Bool := match o with
  | .defer _ => false
  | _ => true
theorem opsIn_wide {n l : Nat} {P : Program} {ops : Array Oper} {Q : Exit → Act → World → Prop} (hL : ¬ LetsOut Q) (hp : ops.toList.all (fun o => noDefer o.op) = true) :
    ∀ (js : List Nat) (a : Act) (w : World), wpOps P ops Q js a w → wpOpsIn (Fence.wide.inRound l) n P ops Q js a w
  | [], _, _, h => h
  | i :: rest, a, w, h => by
    unfold wpOps at h
    unfold wpOpsIn
    cases ho : ops[i]? with
    | none => rw [ho] at h; exact opsIn_wide hL hp rest a w h
    | some o =>
      rw [ho] at h
      simp only at h ⊢
      have hpo : noDefer o.op = true := by
        have hm : o ∈ ops.toList := Array.mem_toList_iff.2 (Array.mem_of_getElem? ho)
        exact List.all_eq_true.1 hp o hm
      have hnc : ∀ c, o.op ≠ .defer c := fun c e => by rw [e] at hpo; simp [noDefer] at hpo
      split
      · rename_i hw
        rw [if_pos hw] at h
        rcases h with h | ⟨_, h⟩
        · refine ⟨fun f _ => trivial, ?_⟩
          rw [Oper.semAt_eq _ _ _ hnc]
          unfold Oper.wp at h
          exact upon_in (fun a w hh => opsIn_wide hL hp rest a w hh) _ h
        · exact absurd h hL
      · rename_i hw
        rw [if_neg hw] at h
        exact ⟨fun f _ => trivial, opsIn_wide hL hp rest _ _ h⟩
/-- the law: a region that draws, in a round of the wide fence, by the taking of its operations -/
theorem wpIn_region_drew {n l : Nat} {P : Program} {ops : Array Oper} {Q : Exit → Act → World → Prop} {S : World → Prop} {id : Nat} {a : Act} {w : World} (hm : P.follows .mixedOrders = true) (hL : ¬ LetsOut Q)
    (hp : ops.toList.all (fun o => noDefer o.op) = true) (hS : S w.drew) (h : S w.drew → wpAnyH P .any ops Q S ops.size (Array.replicate ops.size false) a w.drew) : (Code.region id ops true).wpIn (Fence.wide.inRound l) n P Q a w :=
  wpIn_region_draw fun t => by
    simp only [Region.schedule, hm, Bool.true_or, if_true]
    exact opsIn_wide hL hp _ _ _ (wpAny_sound ops.size t _ a _ (wpAny_of_held _ _ _ _ (h hS)))
/-- a region that draws no order, in a round, by the plain laws -/
theorem wpIn_code_wide {n : Nat} {P : Program} {c : Code} {Q : Exit → Act → World → Prop} {a : Act} {w : World} (h : c.wp P Q a w) : c.wpIn Fence.wide n P Q a w := wpIn_wide.2 h
end Lw
