/- A straight region's laws (append), handed to a region that draws its order. -/
import Derived.Test.YtedfmjijemcpaaaApp
import Derived.Deep.RegionLaw
namespace Go.Proofs.Ytedfmjijemcpaaa
open Go.RowKit

def qOf (K : Act → World → Prop) (Q : Exit → Act → World → Prop) : Exit → Act → World → Prop
  | .normal, a, w => K a w
  | .outgrown, _, _ => False
  | .exit i, a, w => Q (.exit i) a w
  | .goto l, a, w => Q (.goto l) a w
  | .ret, a, w => Q .ret a w
  | .panic c, a, w => Q (.panic c) a w
theorem qOf_out {K : Act → World → Prop} {Q : Exit → Act → World → Prop} : ¬ LetsOut (qOf K Q) := fun ⟨_, _, h⟩ => h
theorem stepK {ops : Array Oper} {K : Act → World → Prop} {Q : Exit → Act → World → Prop} {a : Act} {w : World} (h : K a w) : wpList Try.prog ops (qOf K Q) [] a w := h
theorem upon_of {o : Oper} {a : Act} {K K' : Act → World → Prop} {Q : Exit → Act → World → Prop} (hK : ∀ a w, K' a w → K a w) : ∀ r, o.upon Try.prog a K' (qOf K Q) r → o.upon Try.prog a K Q r
  | .ok (.value v) w', h => hK _ _ h
  | .ok .skip w', h => hK _ _ h
  | .ok (.defer d) w', h => hK _ _ h
  | .ok (.enter f args) w', h => Calls.mono h fun e w'' he => by
      cases e with
      | returned v => exact hK _ _ he
      | panicked c => exact he
      | outgrown => exact absurd he qOf_out
  | .ok (.row row args) w', h => Rows.mono h fun v w'' he => hK _ _ he
  | .halt (.panic v) w', h => h
  | r, h => by
    revert h
    unfold Oper.upon
    intro h
    split at h <;> first | exact h.elim | exact hK _ _ h | exact h | skip
    · refine Calls.mono h fun e w'' he => ?_
      cases e with
      | returned v => exact hK _ _ he
      | panicked c => exact he
      | outgrown => exact absurd he qOf_out
    · exact Rows.mono h fun v w'' he => hK _ _ he
theorem step_of_list {ops : Array Oper} {o : Oper} {a : Act} {w : World} {K : Act → World → Prop} {Q : Exit → Act → World → Prop} {E : Prop} (hg : o.guard = none) (h : wpList Try.prog ops (qOf K Q) [o] a w) :
    if Region.wanted o (yielded ops a.tmps) = true then Oper.wp Try.prog o a w K Q else E := by
  have hw : Region.wanted o (yielded ops a.tmps) = true := by simp [Region.wanted, hg]
  rw [if_pos hw]
  unfold wpList at h
  rw [if_pos hw] at h
  rcases h with h | ⟨_, h⟩
  · exact upon_of (fun _ _ h => h) _ h
  · exact absurd h qOf_out
end Go.Proofs.Ytedfmjijemcpaaa
