/- Comparisons and sums of machine words, decided by what is known of them. Conditions: none. -/
import Derived.Test.YtbkfhieadnfndaaLit
set_option linter.unusedVariables false
set_option linter.unusedSimpArgs false
namespace Go.Bst
open Go.RowKit
section
variable {P : Program} {w : World} {o : Oper} {a : Act} {x y : Operand} {t yt : TypeId} {k : IntKind} {p q : Int}
theorem rn_clss (ho : o.op = .binOp .lss t x y yt) (hx : a.eval x = .int k p) (hy : a.eval y = .int k q) (b : Bool) (hb : decide (p < q) = b) : (execOp a.eval o).run P w = .ok (.value (.bool b)) w := by
  unfold execOp
  subst hb
  simp [ho, hx, hy, eqGuard, binOp, Op.intCmp]
theorem rn_cleq (ho : o.op = .binOp .leq t x y yt) (hx : a.eval x = .int k p) (hy : a.eval y = .int k q) (b : Bool) (hb : decide (p ≤ q) = b) : (execOp a.eval o).run P w = .ok (.value (.bool b)) w := by
  unfold execOp
  subst hb
  simp [ho, hx, hy, eqGuard, binOp, Op.intCmp]
theorem rn_cgtr (ho : o.op = .binOp .gtr t x y yt) (hx : a.eval x = .int k p) (hy : a.eval y = .int k q) (b : Bool) (hb : decide (q < p) = b) : (execOp a.eval o).run P w = .ok (.value (.bool b)) w := by
  unfold execOp
  subst hb
  simp [ho, hx, hy, eqGuard, binOp, Op.intCmp]
theorem rn_cgeq (ho : o.op = .binOp .geq t x y yt) (hx : a.eval x = .int k p) (hy : a.eval y = .int k q) (b : Bool) (hb : decide (q ≤ p) = b) : (execOp a.eval o).run P w = .ok (.value (.bool b)) w := by
  unfold execOp
  subst hb
  simp [ho, hx, hy, eqGuard, binOp, Op.intCmp]
theorem rn_ceql (ho : o.op = .binOp .eql t x y yt) (hx : a.eval x = .int k p) (hy : a.eval y = .int k q) (b : Bool) (hb : decide (p = q) = b) : (execOp a.eval o).run P w = .ok (.value (.bool b)) w := by
  unfold execOp
  subst hb
  simp [ho, hx, hy, eqGuard, binOp, Op.intCmp]
  by_cases h : p = q <;> simp [h]
theorem rn_cneq (ho : o.op = .binOp .neq t x y yt) (hx : a.eval x = .int k p) (hy : a.eval y = .int k q) (b : Bool) (hb : decide (p ≠ q) = b) : (execOp a.eval o).run P w = .ok (.value (.bool b)) w := by
  unfold execOp
  subst hb
  simp [ho, hx, hy, eqGuard, binOp, Op.intCmp]
  by_cases h : p = q <;> simp [h]
theorem rn_cadd (ho : o.op = .binOp .add t x y yt) (hx : a.eval x = .int .i64 p) (hy : a.eval y = .int .i64 q) (r : Int) (hr : p + q = r) (h : -9223372036854775808 ≤ r ∧ r ≤ 9223372036854775807) : (execOp a.eval o).run P w = .ok (.value (.int .i64 r)) w := by
  subst hr
  have e : (binOp .add t (Value.int .i64 p) (Value.int .i64 q)).run P w = .ok (.int .i64 (p + q)) w := by
    unfold binOp
    simp [Op.intArith, IntWalk.i64_in _ h]
  have e3 : (eqGuard .add t x y (Value.int .i64 p) (Value.int .i64 q)).run P w = .ok () w := by simp [eqGuard]
  unfold execOp
  simp only [ho, hx, hy, Sem.run_bind, e3, Result.andThen_ok, e, Sem.run_pure]
theorem rn_csub (ho : o.op = .binOp .sub t x y yt) (hx : a.eval x = .int .i64 p) (hy : a.eval y = .int .i64 q) (r : Int) (hr : p - q = r) (h : -9223372036854775808 ≤ r ∧ r ≤ 9223372036854775807) : (execOp a.eval o).run P w = .ok (.value (.int .i64 r)) w := by
  subst hr
  have e : (binOp .sub t (Value.int .i64 p) (Value.int .i64 q)).run P w = .ok (.int .i64 (p - q)) w := by
    unfold binOp
    simp [Op.intArith, IntWalk.i64_in _ h]
  have e3 : (eqGuard .sub t x y (Value.int .i64 p) (Value.int .i64 q)).run P w = .ok () w := by simp [eqGuard]
  unfold execOp
  simp only [ho, hx, hy, Sem.run_bind, e3, Result.andThen_ok, e, Sem.run_pure]
theorem rn_cmul (ho : o.op = .binOp .mul t x y yt) (hx : a.eval x = .int .i64 p) (hy : a.eval y = .int .i64 q) (r : Int) (hr : p * q = r) (h : -9223372036854775808 ≤ r ∧ r ≤ 9223372036854775807) : (execOp a.eval o).run P w = .ok (.value (.int .i64 r)) w := by
  subst hr
  have e : (binOp .mul t (Value.int .i64 p) (Value.int .i64 q)).run P w = .ok (.int .i64 (p * q)) w := by
    unfold binOp
    simp [Op.intArith, IntWalk.i64_in _ h]
  have e3 : (eqGuard .mul t x y (Value.int .i64 p) (Value.int .i64 q)).run P w = .ok () w := by simp [eqGuard]
  unfold execOp
  simp only [ho, hx, hy, Sem.run_bind, e3, Result.andThen_ok, e, Sem.run_pure]
theorem rn_cquo (ho : o.op = .binOp .quo t x y yt) (hx : a.eval x = .int .i64 p) (hy : a.eval y = .int .i64 q) (h0 : 0 ≤ p) (h1 : 0 < q) (h2 : p ≤ 9223372036854775807) : (execOp a.eval o).run P w = .ok (.value (.int .i64 (p / q))) w := by
  have e0 : ¬ q = 0 := by omega
  have e1 : p.tdiv q = p / q := Int.tdiv_eq_ediv_of_nonneg h0
  have b1 : 0 ≤ p / q := Int.ediv_nonneg h0 (by omega)
  have b2 : p / q ≤ p := Int.ediv_le_self _ h0
  have e : (binOp .quo t (Value.int .i64 p) (Value.int .i64 q)).run P w = .ok (.int .i64 (p / q)) w := by
    unfold binOp
    simp [Op.intDiv, e0, e1, IntWalk.i64_in _ ⟨show -9223372036854775808 ≤ p / q by omega, show p / q ≤ 9223372036854775807 by omega⟩]
  have e3 : (eqGuard .quo t x y (Value.int .i64 p) (Value.int .i64 q)).run P w = .ok () w := by simp [eqGuard]
  unfold execOp
  simp only [ho, hx, hy, Sem.run_bind, e3, Result.andThen_ok, e, Sem.run_pure]
theorem rn_ctmod (ho : o.op = .binOp .rem t x y yt) (hx : a.eval x = .int .i64 p) (hy : a.eval y = .int .i64 q) (h1 : 0 < q) (h2 : q ≤ 9223372036854775807) : (execOp a.eval o).run P w = .ok (.value (.int .i64 (Int.tmod p q))) w := by
  have e0 : ¬ q = 0 := by omega
  have b1 := Int.lt_tmod_of_pos p h1
  have b2 := Int.tmod_lt_of_pos p h1
  have e : (binOp .rem t (Value.int .i64 p) (Value.int .i64 q)).run P w = .ok (.int .i64 (Int.tmod p q)) w := by
    unfold binOp
    simp [Op.intDiv, e0]
  have e3 : (eqGuard .rem t x y (Value.int .i64 p) (Value.int .i64 q)).run P w = .ok () w := by simp [eqGuard]
  unfold execOp
  simp only [ho, hx, hy, Sem.run_bind, e3, Result.andThen_ok, e, Sem.run_pure]
end
end Go.Bst
