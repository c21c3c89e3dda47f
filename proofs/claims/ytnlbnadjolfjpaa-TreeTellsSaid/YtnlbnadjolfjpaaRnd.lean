/- A region that draws, in a round of a range over a function: it may be walked by the laws for regions outside of rounds, if its operations are plain. -/
import Derived.Test.YtnlbnadjolfjpaaRegS
import Derived.TacticsIn
import Derived.OrdersIn
namespace Lw
open Go
def plainOp : Op → Bool
  | .move _ | .assign _ | .load .. | .store .. | .binOp .. | .unOp .. | .convert .. | .indexAddr .. | .fieldAddr .. | .index .. | .field .. | .extract .. | .build .. => true
  | _ => false
def Tame (r : Result Next) : Prop := (∃ v w', r = .ok (.value v) w') ∨ (∃ w', r = .ok .skip w') ∨ ∃ x w', r = .halt x w'
theorem tame_v {P : Program} (s : Sem Value) (w : World) : Tame (Sem.run P (do let x ← s; pure (Next.value x)) w) := by
  simp only [Sem.run_bind]
  cases h : Sem.run P s w with
  | ok v w' => exact .inl ⟨v, w', rfl⟩
  | halt x w' => exact .inr (.inr ⟨x, w', rfl⟩)
theorem tame_u {P : Program} (s : Sem Unit) (w : World) : Tame (Sem.run P (do s; pure Next.skip) w) := by
  simp only [Sem.run_bind]
  cases h : Sem.run P s w with
  | ok v w' => exact .inr (.inl ⟨w', rfl⟩)
  | halt x w' => exact .inr (.inr ⟨x, w', rfl⟩)
theorem plain_tame {o : Oper} (h : plainOp o.op = true) (ρ : Operand → Value) (P : Program) (w : World) : Tame ((execOp ρ o).run P w) := by
  unfold execOp
  cases ho : o.op <;> rw [ho] at h <;> first | (simp [plainOp] at h; done) | exact tame_v _ _ | exact tame_u _ _ | exact .inl ⟨_, _, rfl⟩
theorem opsIn_of {F : Fence} {n : Nat} {P : Program} {ops : Array Oper} {Q : Exit → Act → World → Prop} (hL : ¬ LetsOut Q) (hp : ops.toList.all (fun o => plainOp o.op) = true) :
    ∀ (l : List Nat) (a : Act) (w : World), wpOps P ops Q l a w → wpOpsIn F n P ops Q l a w
  | [], _, _, h => h
  | i :: rest, a, w, h => by
    unfold wpOps at h
    unfold wpOpsIn
    cases ho : ops[i]? with
    | none => rw [ho] at h; exact opsIn_of hL hp rest a w h
    | some o =>
      rw [ho] at h
      simp only at h ⊢
      have hpo : plainOp o.op = true := by
        have hm : o ∈ ops.toList := Array.mem_toList_iff.2 (Array.mem_of_getElem? ho)
        exact List.all_eq_true.1 hp o hm
      have hnc : ∀ c, o.op ≠ .defer c := fun c e => by rw [e] at hpo; simp [plainOp] at hpo
      have hab : ∀ f, o.about P w a.eval = some f → F.fn f := fun f hf => by
        unfold Oper.about at hf
        cases hc : o.op <;> rw [hc] at hf hpo <;> first | (simp at hf; done) | (simp [plainOp] at hpo; done)
      split
      · rename_i hw
        rw [if_pos hw] at h
        rcases h with h | ⟨_, h⟩
        · refine ⟨hab, ?_⟩
          rw [Oper.semAt_eq _ _ _ hnc]
          unfold Oper.wp at h
          rcases plain_tame hpo a.eval P w with ⟨v, w', e⟩ | ⟨w', e⟩ | ⟨x, w', e⟩
          · rw [e] at h ⊢; exact opsIn_of hL hp rest _ _ h
          · rw [e] at h ⊢; exact opsIn_of hL hp rest _ _ h
          · rw [e] at h ⊢
            cases x <;> first | exact h | exact h.elim
        · exact absurd h hL
      · rename_i hw
        rw [if_neg hw] at h
        exact ⟨hab, opsIn_of hL hp rest _ _ h⟩
/-- the law: a region that draws, in any fence, by the taking of its operations -/
theorem wpIn_region_held {F : Fence} {n : Nat} {P : Program} {ops : Array Oper} {Q : Exit → Act → World → Prop} {S : World → Prop} {id : Nat} {a : Act} {w : World} (hm : P.follows .mixedOrders = true) (hL : ¬ LetsOut Q)
    (hp : ops.toList.all (fun o => plainOp o.op) = true) (hS : S w.drew) (h : S w.drew → wpAnyH P .any ops Q S ops.size (Array.replicate ops.size false) a w.drew) : (Code.region id ops true).wpIn F n P Q a w :=
  wpIn_region_draw fun t => by
    simp only [Region.schedule, hm, Bool.true_or, if_true]
    exact opsIn_of hL hp _ _ _ (wpAny_sound ops.size t _ a _ (wpAny_of_held _ _ _ _ (h hS)))
end Lw
