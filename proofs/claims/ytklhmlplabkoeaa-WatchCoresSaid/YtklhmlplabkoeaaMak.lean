/- make of a slice. Conditions: none. -/
import Derived.Test.YtklhmlplabkoeaaPsh
import Derived.Laws.MakeOwn
set_option linter.unusedVariables false
set_option linter.unusedSimpArgs false
namespace Go.Bst
open Go.RowKit
theorem madeCells_one (z : Value) (n : Nat) : (madeCells #[z] n).toList = List.replicate n z := by
  unfold madeCells
  simp [Nat.mod_one]
  apply List.ext_getElem?
  intro i
  by_cases h : i < n <;> simp [List.getElem?_replicate, h]
section
variable {P : Program} {K : Act → World → Prop} {g : Option (Nat × Bool)} {ops : Array Oper} {Q : Exit → Act → World → Prop} {rest : List Oper} {d : Option Tmp} {t el tt : TypeId} {pos : String} {after : Array Edge} {a : Act} {E : Env} {w : World} {H : List HP} {x y : Operand} {bytes : Nat} {z z0 : Value}
theorem wk_make1 (hw : Sat E w H) (n m : Nat) (hx : a.eval x = .int .i64 n) (hy : a.eval y = .int .i64 m) (hu : P.underlying t = some (.slice el)) (hi : (P.info? el).map (fun i => (i.zero, i.size, i.bytes)) = some (some z, 1, bytes)) (hz : z.cells = #[z0]) (hnm : n ≤ m) (hn : m ≤ 1000000) (hb : bytes ≤ 100000)
    (h : ∀ b w', Sat E w' (Row el 1 (.slice (some ⟨b, 0, none⟩) n m) n (List.replicate n z0) :: H) → K (a.put d (.slice (some ⟨b, 0, none⟩) n m)) w') :
    Oper.wp P { dst := d, op := .makeSlice t x y, type := tt, pos := pos, after := after, guard := g } a w K Q := by
  cases hq : P.info? el with
  | none => simp [hq] at hi
  | some i =>
    simp only [hq, Option.map_some, Option.some.injEq, Prod.mk.injEq] at hi
    obtain ⟨h1, h2, h3⟩ := hi
    have hm : bytes * m ≤ 100000 * 1000000 := Nat.mul_le_mul hb hn
    have hr := run_make (P := P) w t el i z hu hq h1 .i64 .i64 n m (by omega) (by omega) (by rw [h3, ← Int.natCast_mul]; omega) (by omega)
    rw [h2, hz, Nat.mul_one, Int.toNat_natCast, Int.toNat_natCast] at hr
    refine wk_run (v := .slice (some ⟨w.heap.size, 0, none⟩) n m) (w' := w.alloc (.cells (madeCells #[z0] m) el)) ?_ (h _ _ ?_)
    · unfold execOp
      simp [hx, hy, hr]
    · refine Row_mk hnm (by simp only [maxLen]; omega) (by rw [size_madeCells]; omega) ?_ (hw.alloc _)
      rw [madeCells_one, Nat.mul_one, List.take_replicate, Nat.min_eq_left hnm]
theorem wl_make1 (hw : Sat E w H) (n m : Nat) (hx : a.eval x = .int .i64 n) (hy : a.eval y = .int .i64 m) (hu : P.underlying t = some (.slice el)) (hi : (P.info? el).map (fun i => (i.zero, i.size, i.bytes)) = some (some z, 1, bytes)) (hz : z.cells = #[z0]) (hnm : n ≤ m) (hn : m ≤ 1000000) (hb : bytes ≤ 100000)
    (h : ∀ b w', Sat E w' (Row el 1 (.slice (some ⟨b, 0, none⟩) n m) n (List.replicate n z0) :: H) → wpList P ops Q rest (a.put d (.slice (some ⟨b, 0, none⟩) n m)) w') :
    wpList P ops Q ({ dst := d, op := .makeSlice t x y, type := tt, pos := pos, after := after, guard := none } :: rest) a w :=
  wpList_plain rfl fun K hK => wk_make1 hw n m hx hy hu hi hz hnm hn hb fun b w' hs => hK _ _ (h b w' hs)
end
end Go.Bst
