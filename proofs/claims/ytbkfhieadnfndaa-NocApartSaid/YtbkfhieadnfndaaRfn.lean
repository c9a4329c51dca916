/- A range over a function, over heaps in part: from the plain laws of operations to those in a round's frame. Conditions: none. -/
import Derived.Test.YtbkfhieadnfndaaMapsK
import Derived.Test.YtbkfhieadnfndaaAuto
import Derived.RangeFuncRecord
import Derived.RangeFuncCalls
import Derived.RangeFuncLeaves
import Derived.RangeFuncSeq
import Derived.TacticsIn
import Derived.Orders
set_option linter.unusedVariables false
set_option linter.unusedSimpArgs false
namespace Go.Bst
open Go.RowKit
def noDefer (o : Oper) : Bool := match o.op with | .defer _ => false | _ => true
theorem noDefer_ne {o : Oper} (h : noDefer o = true) : ∀ c, o.op ≠ .defer c := fun c e => by unfold noDefer at h; rw [e] at h; cases h
section
variable {P : Program} {l n : Nat} {Q : Exit → Act → World → Prop}
theorem wide_dep {m : Nat} : Fence.wide.depth.isSome = true → 1 ≤ m := fun h => by simp [Fence.wide] at h
theorem in_wp {o : Oper} {a : Act} {w : World} {K : Act → World → Prop} (hd : noDefer o = true) (h : o.wp P a w K Q) : o.wpIn (Fence.wide.inRound l) n P a w K Q := by
  refine ⟨fun _ _ => trivial, ?_⟩
  rw [Oper.semAt_eq _ _ _ (noDefer_ne hd)]
  unfold Oper.wp at h
  revert h
  generalize (execOp a.eval o).run P w = r
  intro h
  cases r with
  | ok x w' =>
    cases x with
    | value v => exact h
    | skip => exact h
    | defer d => exact h
    | enter f args =>
      refine ⟨wide_dep, CallsIn.inRound l (callsIn_wide.2 ?_)⟩
      exact Calls.mono h fun e w'' he => by cases e <;> exact he
    | row r args =>
      refine ⟨wide_dep, fun c cs _ => ?_⟩
      obtain ⟨v, w'', hr, s⟩ := h c cs
      exact ⟨v, w'', hr, stepsIn_wide.2 s⟩
    | _ => exact h.elim
  | halt x w' => cases x <;> first | exact h | exact h.elim
theorem in_list {ops : Array Oper} (hq : ¬ LetsOut Q) : ∀ (k : List Oper) (a : Act) (w : World), k.all noDefer = true → wpList P ops Q k a w → wpListIn (Fence.wide.inRound l) n P ops Q k a w
  | [], _, _, _, h => h
  | o :: k, a, w, hd, h => by
    rw [List.all_cons, Bool.and_eq_true] at hd
    simp only [wpList] at h
    simp only [wpListIn]
    split at h
    · rename_i hw
      rw [if_pos hw]
      rcases h with h | ⟨_, h⟩
      · exact in_wp hd.1 (Oper.wp_mono (fun a w h => in_list hq k a w hd.2 h) h)
      · exact absurd h hq
    · rename_i hw
      rw [if_neg hw]
      exact ⟨fun _ _ => trivial, in_list hq k _ w hd.2 h⟩
theorem in_region {id : Nat} {ops : List Oper} {a : Act} {w : World} (hq : ¬ LetsOut Q) (hd : ops.all noDefer = true) (h : wpList P ops.toArray Q ops a w) : (Code.region id ops.toArray false).wpIn (Fence.wide.inRound l) n P Q a w :=
  wpIn_region_lit (in_list hq ops a w hd h)
theorem in_wp0 {o : Oper} {a : Act} {w : World} {K : Act → World → Prop} (h : o.wp P a w K Q) : o.wpIn Fence.wide n P a w K Q := by
  refine ⟨fun _ _ => trivial, ?_⟩
  show o.uponIn Fence.wide n P a K Q ((execOp a.eval o).run P w)
  unfold Oper.wp at h
  revert h
  generalize (execOp a.eval o).run P w = r
  intro h
  cases r with
  | ok x w' =>
    cases x with
    | value v => exact h
    | skip => exact h
    | defer d => exact h
    | enter f args =>
      refine ⟨wide_dep, callsIn_wide.2 ?_⟩
      exact Calls.mono h fun e w'' he => by cases e <;> exact he
    | row r args =>
      refine ⟨wide_dep, fun c cs _ => ?_⟩
      obtain ⟨v, w'', hr, s⟩ := h c cs
      exact ⟨v, w'', hr, stepsIn_wide.2 s⟩
    | _ => exact h.elim
  | halt x w' => cases x <;> first | exact h | exact h.elim
/-- A call of yield. -/
theorem wi_yield {R : Ending → World → Prop} {a : Act} {w : World} {K : Act → World → Prop} {x : Operand} {args : Array Operand} {ts : Array TypeId} {d : Option Tmp} {tt : TypeId} {pos : String} {after : Array Edge} {g : Option (Nat × Bool)} (hx : a.eval x = .func (.yield l) #[] #[]) (vs : Array Value) (hv : args.map a.eval = vs) (hy : YieldAt Fence.wide 0 P l vs w R) (h : ∀ e w', R e w' → ∃ v, e = .returned v ∧ K (a.put d v) w') :
    Oper.wpIn Fence.wide 0 P { dst := d, op := .call { callee := .value x, args := args, argTypes := ts }, type := tt, pos := pos, after := after, guard := g } a w K Q := by
  subst hv
  obtain ⟨fn, tm, as, bd, hy1, hy2⟩ := hy
  refine ⟨fun _ _ => trivial, ?_⟩
  have hr : (execOp a.eval { dst := d, op := .call { callee := .value x, args := args, argTypes := ts }, type := tt, pos := pos, after := after, guard := g }).run P w = .ok (.round l fn tm as bd) w := by
    unfold execOp
    simp [resolve, hx, Deferred.ofValue, invoke, hy1]
  rw [Oper.semAt_eq _ _ _ (fun c h => by cases h), hr]
  refine ⟨wide_dep, hy2.mono fun e w' he => ?_⟩
  obtain ⟨v, rfl, hk⟩ := h e w' he
  exact hk
end
section
variable {E : Env} {w : World} {F : List HP}
theorem Sat.putObj {b : Nat} {o o' : Obj} (s : Sat E w (pt b o :: F)) : Sat E (w.putObj b o') (pt b o' :: F) := s.setMap
theorem Sat.laid (s : Sat E w F) (o : Obj) : Sat E (w.alloc o) (pt w.heap.size o :: F) := s.alloc o
end
end Go.Bst
