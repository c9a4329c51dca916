/- The built-in copy, into a block of the call's own. Conditions: none. -/
import Derived.Test.YtmjbhpaefhnnnaaCmp
import Derived.Laws.CopyRow
set_option linter.unusedVariables false
set_option linter.unusedSimpArgs false
namespace Go.Bst
open Go.RowKit
section
variable {P : Program} {ops : Array Oper} {Q : Exit → Act → World → Prop} {rest : List Oper} {d : Option Tmp} {tt t u el : TypeId} {pos : String} {after : Array Edge} {a : Act} {E : Env} {w : World} {H : List HP} {x y : Operand}
theorem wl_copy1 {b off dl dcap m : Nat} {cs : Array Value} {T : TypeId} {src : Value} {xs : List Value} (hw : Sat E w H) (k : Nat) (hk : H[k]? = some (pt b (.cells cs T (0, 0)))) (hx : a.eval x = .slice (some ⟨b, off, none⟩) dl dcap) (hy : a.eval y = src) (r : Rd w 1 src m xs)
    (ht : P.underlying t = some (.slice el)) (hs : (P.info? el).map (·.size) = some 1) (hone : ∀ v ∈ xs, v.oneCell' = true) (hsz : off + dl ≤ cs.size)
    (h : ∀ w', Sat E w' (H.set k (pt b (.cells (splice cs off (xs.take dl).toArray) T (0, 0)))) → wpList P ops Q rest (a.put d (.int .i64 (Nat.min m dl : Nat))) w') :
    wpList P ops Q ({ dst := d, op := .call { callee := .builtin .copy, args := #[x, y], argTypes := #[t, u] }, type := tt, pos := pos, after := after, guard := none } :: rest) a w := by
  obtain ⟨f, f1, f2⟩ := info_of hs
  obtain ⟨A, cap, rfl, hc, hxl, hA⟩ := r
  rw [Nat.mul_one] at hxl
  have hlen : (xs.take dl).length = Nat.min m dl := by rw [List.length_take, hxl, Nat.min_comm]
  have hcells : (Builtin.firstCells 1 (Nat.min m dl) (.slice A m cap)).run P w = .ok (xs.take dl).toArray w := by
    cases A with
    | none =>
      have hm : m = 0 := by
        cases m with
        | zero => rfl
        | succ m => obtain ⟨_, e, _⟩ := hA (by omega); cases e
      subst hm
      have : xs = [] := List.eq_nil_of_length_eq_zero hxl
      subst this
      simp [Builtin.firstCells]
    | some ad =>
      have hl := run_loadCells_list (P := P) w ad (xs.take dl) (fun j v hv => by
        rw [List.getElem?_take] at hv
        split at hv
        · obtain ⟨ad', e, hh⟩ := hA (by
            have := (List.getElem?_eq_some_iff.1 hv).1
            omega)
          injection e with e; subst e
          exact hh j v hv
        · cases hv)
      rw [hlen] at hl
      simp only [Builtin.firstCells, Nat.mul_one]
      exact hl
  have hst := run_storeCells_at P b off T (xs.take dl) 0 cs w (hw.read k hk) (by
    rw [hlen]
    have : Nat.min m dl ≤ dl := Nat.min_le_right _ _
    omega) (fun v hv => hone v (List.mem_of_mem_take hv))
  simp only [Nat.add_zero] at hst
  refine wl_run (v := .int .i64 (Nat.min m dl : Nat)) (w' := w.setRow b (splice cs off (xs.take dl).toArray)) ?_ (h _ (hw.upd k hk fun _ s => s.setRow))
  have hlo : (Builtin.lenOf (.slice A m cap)).run P w = .ok m w := by simp [Builtin.lenOf]
  have e : (Builtin.copy_ #[t, u] tt #[.slice (some ⟨b, off, none⟩) dl dcap, .slice A m cap]).run P w = .ok (.int .i64 (Nat.min m dl : Nat)) (w.setRow b (splice cs off (xs.take dl).toArray)) := by
    unfold Builtin.copy_
    simp only [List.getElem?_toArray, List.getElem?_cons_zero, List.getElem?_cons_succ, Sem.run_bind, run_underlying ht, Result.andThen_ok, hlo, sizeOf, typeInfo, run_program, f1, Sem.run_pure, f2, hcells, hst]
    simp [splice, goInt]
  simp only [execOp, resolve, invoke, builtin, Sem.run_bind, Sem.run_pure, Result.andThen_ok, List.map_toArray, List.map_cons, List.map_nil, hx, hy, e]
end
end Go.Bst
