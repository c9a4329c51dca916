/- Functions as values: made, and called. Conditions: none. -/
import Derived.Test.YtbkfhieadnfndaaPsh
set_option linter.unusedVariables false
set_option linter.unusedSimpArgs false
namespace Go.Bst
open Go.RowKit
section
variable {P : Program} {K : Act → World → Prop} {Q : Exit → Act → World → Prop} {o : Oper} {a : Act} {w : World} {x : Operand} {ops : Array Oper} {rest : List Oper} {dd : Option Tmp} {tt : TypeId} {pos : String} {after : Array Edge}
theorem rn_makeFunc {f : FuncId} {caps : Array Operand} (ho : o.op = .makeFunc (.func f) #[] caps) : (execOp a.eval o).run P w = .ok (.value (.func (.func f) #[] (caps.map a.eval))) w := by
  unfold execOp
  simp [ho, Instr.makeFunc]
theorem wk_callV (f : FuncId) {caps : Array Value} {args : Array Operand} {ts : Array TypeId} (ho : o.op = .call { callee := .value x, args := args, argTypes := ts }) (hx : a.eval x = .func (.func f) #[] caps) (hf : callB P f = true) (hc : Calls P f (args.map a.eval ++ caps) w fun e w' => ∃ v, e = .returned v ∧ K (a.put o.dst v) w') : Oper.wp P o a w K Q :=
  wk_enter f (args.map a.eval ++ caps) (by
    unfold execOp
    simp [ho, resolve, hx, Deferred.ofValue, invoke, run_callFunc hf]) hc
theorem wl_callV (f : FuncId) {caps : Array Value} {args : Array Operand} {ts : Array TypeId} (hx : a.eval x = .func (.func f) #[] caps) (hf : callB P f = true) (hc : Calls P f (args.map a.eval ++ caps) w fun e w' => ∃ v, e = .returned v ∧ wpList P ops Q rest (a.put dd v) w') :
    wpList P ops Q ({ dst := dd, op := .call { callee := .value x, args := args, argTypes := ts }, type := tt, pos := pos, after := after, guard := none } :: rest) a w :=
  wpList_plain rfl fun K hK => wk_callV f rfl hx hf (hc.mono fun e w' ⟨v, e1, h⟩ => ⟨v, e1, hK _ _ h⟩)
end
end Go.Bst
