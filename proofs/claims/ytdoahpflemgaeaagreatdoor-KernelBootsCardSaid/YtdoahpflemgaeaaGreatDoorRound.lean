/- A region that draws its order, in a round of a loop over a function: by the laws that hold outside. -/
import Derived.Test.YtdoahpflemgaeaaGreatDoorTail
import Derived.OrdersIn
import Derived.RangeFuncCalls
import Derived.TacticsIn
set_option linter.unusedVariables false
namespace Go.Proofs.YtdoahpflemgaeaaGreatDoor
open Go.RowKit Go.Sort

section
variable {P : Program} {l n : Nat} {Q : Exit → Act → World → Prop}
theorem oper_wpIn {o : Oper} {a : Act} {w : World} {K : Act → World → Prop} (hd : ∀ c, o.op ≠ .defer c) (h : o.wp P a w K Q) : o.wpIn (Fence.wide.inRound l) n P a w K Q := by
  refine ⟨fun _ _ => trivial, ?_⟩
  rw [Oper.semAt_eq _ _ _ hd]
  unfold Oper.wp at h
  generalize (execOp a.eval o).run P w = r at *
  cases r with
  | ok x w' =>
    cases x with
    | value v => exact h
    | skip => exact h
    | defer d => exact h
    | enter f args => exact ⟨fun hh => (by cases hh), CallsIn.inRound l (callsIn_wide.2 h)⟩
    | row row args => exact ⟨fun hh => (by cases hh), fun c cs _ => (by obtain ⟨v, w', r, s⟩ := h c cs; exact ⟨v, w', r, stepsIn_wide.2 s⟩)⟩
    | _ => exact h.elim
  | halt x w' => cases x <;> exact h
def noDefer (ops : Array Oper) : Bool := ops.all fun o => match o.op with | .defer _ => false | _ => true
theorem noDefer_at {ops : Array Oper} (h : noDefer ops = true) {i : Nat} {o : Oper} (ho : ops[i]? = some o) : ∀ c, o.op ≠ .defer c := by
  intro c hc
  unfold noDefer at h
  rw [Array.all_eq_true'] at h
  have := h o (Array.mem_of_getElem? ho)
  rw [hc] at this
  cases this
theorem wpAnyIn_of_wpAny {md : Region.Mode} {ops : Array Oper} (hd : noDefer ops = true) (hq : ¬ LetsOut Q) : ∀ (g : Nat) (d : Array Bool) (a : Act) (w : World), wpAny P md ops Q g d a w → wpAnyIn (Fence.wide.inRound l) n P md ops Q g d a w
  | 0, _, _, _, h => h
  | g + 1, d, a, w, ⟨h0, h1⟩ => by
    refine ⟨h0, fun i hi => ?_⟩
    have h2 := h1 i hi
    unfold wpOp at h2
    unfold wpOpIn
    split
    · rename_i ho
      rw [ho] at h2
      exact wpAnyIn_of_wpAny hd hq g _ _ _ h2
    · rename_i o ho
      simp only [ho] at h2
      split
      · rename_i hw
        rw [if_pos hw] at h2
        exact Oper.wpIn_mono (fun a w => wpAnyIn_of_wpAny hd hq g _ a w) (oper_wpIn (noDefer_at hd ho) (h2.resolve_right fun hh => hq hh.2))
      · rename_i hw
        rw [if_neg hw] at h2
        exact ⟨fun _ _ => trivial, wpAnyIn_of_wpAny hd hq g _ _ _ h2⟩
theorem wpIn_region_below_tail {id : Nat} {a : Act} {w : World} {ll : List Oper} (k : Nat) (hm : P.follows .mixedOrders = true) (hB : Region.lexTailB .any ll.toArray k = true) (hd : noDefer ll.toArray = true) (hq : ¬ LetsOut Q)
    (h : wpQuiet P ll.toArray (fun w' => ∃ p : Regrown, w' = grow (redrawn w p.d) p.os) (fun a' => ∀ w', (∃ p : Regrown, w' = grow (redrawn w p.d) p.os) → wpList P ll.toArray Q (ll.drop k) a' w') (ll.take k) a) :
    (Code.region id ll.toArray true).wpIn (Fence.wide.inRound l) n P Q a w := by
  refine wpIn_region_any hm (wpAnyIn_of_wpAny hd hq _ _ _ _ ?_)
  exact wpAny_region_tail k hB ⟨⟨w.drawn + 1, #[]⟩, by rw [grow_empty]; rfl⟩ h
end
end Go.Proofs.YtdoahpflemgaeaaGreatDoor
