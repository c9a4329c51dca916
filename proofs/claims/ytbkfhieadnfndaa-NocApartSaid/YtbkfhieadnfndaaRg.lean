/- Two steps through a region that draws its order, with the value left to what follows. Conditions: none. -/
import Derived.Test.YtbkfhieadnfndaaLawsK
import Derived.Test.YtbkfhieadnfndaaWLast
namespace Go.Bst
open Go.RowKit Go.Proofs.YtbkfhieadnfndaaW.PrintLast
section
variable {P : Program} {ops : Array Oper} {Q : Exit → Act → World → Prop} {md : Region.Mode} {S : World → Prop} {ds : List Nat}
theorem pureE {i : Nat} {N : Option Tmp} {oi : Oper} {fuel : Nat} {l : Array Bool} {a : Act} {w : World} (l' : Array Bool) (hi : ops[i]? = some oi) (hN : oi.dst = N) (hc : anyB md ops l l' i = true)
    (hQ : ∀ v c a w, Q (.panic c) (a.put oi.dst v) w → Q (.panic c) a w) (h : ∃ v, Yields P ops oi v a ∧ wpAnyLast P md ops Q S ds fuel l' (a.put N v) w) : wpAnyLast P md ops Q S ds (fuel + 1) l a w :=
  let ⟨v, hy, h⟩ := h
  pure_ l' hi hN hc (hQ v) hy rfl h
theorem takeE {i : Nat} {N : Option Tmp} {oi : Oper} {fuel : Nat} {l : Array Bool} {a : Act} {w : World} (l' : Array Bool) (hi : ops[i]? = some oi) (hN : oi.dst = N) (hc : takeB md ops ds l l' i = true)
    (hQ : ∀ v c a w, Q (.panic c) (a.put oi.dst v) w → Q (.panic c) a w) (hS : S w) (h : ∃ v, YieldsIf P ops S oi v a ∧ wpAnyLast P md ops Q S ds fuel l' (a.put N v) w) : wpAnyLast P md ops Q S ds (fuel + 1) l a w :=
  let ⟨v, hy, h⟩ := h
  take_ l' hi hN hc (hQ v) hy hS rfl h
end
theorem wk_enter {P : Program} {K : Act → World → Prop} {Q : Exit → Act → World → Prop} {o : Oper} {a : Act} {w : World} (f : Nat) (args : Array Value) (hr : (execOp a.eval o).run P w = .ok (.enter f args) w)
    (hc : Calls P f args w fun e w' => ∃ v, e = .returned v ∧ K (a.put o.dst v) w') : Oper.wp P o a w K Q := by
  unfold Oper.wp
  rw [hr, Oper.upon_enter]
  exact hc.mono fun e w' ⟨v, e1, h⟩ => by subst e1; exact h
end Go.Bst
