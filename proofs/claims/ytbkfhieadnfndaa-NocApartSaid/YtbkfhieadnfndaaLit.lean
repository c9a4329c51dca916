/- A literal slice of many elements. Conditions: none. -/
import Derived.Test.YtbkfhieadnfndaaAuto
set_option linter.unusedVariables false
set_option linter.unusedSimpArgs false
namespace Go.Bst
open Go.RowKit
def litC (P : Program) (el : TypeId) (sz n : Nat) (cp : List (Nat × Array Value)) : Option (Array Value) :=
  (zeroOf P el).bind fun z => fillC (fun i => some (i * sz, sz)) ((Array.range (n * sz)).map (fun i => z.cells[i % z.cells.size]!)) cp
theorem run_litN {P : Program} {w : World} {t el : TypeId} {n sz : Nat} {parts : Array (Nat × Value)} {cp : List (Nat × Array Value)} {cs : Array Value} (hu : P.underlying t = some (.slice el)) (hs : (P.info? el).map (·.size) = some sz) (h0 : 0 < n * sz) (hb : n * sz ≤ 16777216)
    (hf : litC P el sz n cp = some cs) (hp : parts.toList.map (fun p => (p.1, p.2.cells)) = cp) :
    (Instr.buildSlice t n parts).run P w = .ok (.slice (some ⟨w.heap.size, 0, none⟩) n n) (w.alloc (.cells cs el)) := by
  obtain ⟨f, f1, f2⟩ := info_of hs
  unfold litC at hf
  cases hzz : zeroOf P el with
  | none => simp [hzz] at hf
  | some z =>
    rw [hzz] at hf
    simp only [Option.bind_some] at hf
    rw [← hp, ← fillC_eq] at hf
    have hn : ¬ (n * sz > 2 ^ 24) := by omega
    have h00 : ¬ (n * sz = 0) := by omega
    simp only [Instr.buildSlice, Sem.run_bind, run_underlying hu, Result.andThen_ok, sizeOf, typeInfo, run_program, f1, Sem.run_pure, f2]
    rw [if_neg hn, if_neg h00]
    simp only [Sem.run_bind, run_zeroValue hzz, Result.andThen_ok, Sem.run_pure, hf]
    simp [newRow, newObj, Sem.run]
section
variable {P : Program} {K : Act → World → Prop} {g : Option (Nat × Bool)} {ops : Array Oper} {Q : Exit → Act → World → Prop} {rest : List Oper} {d : Option Tmp} {ty tt el : TypeId} {pos : String} {after : Array Edge} {a : Act} {E : Env} {w : World} {H : List HP} {sz n : Nat} {parts : Array (Nat × Operand)} {cp : List (Nat × Array Value)}
theorem wl_litN (hw : Sat E w H) (hu : P.underlying ty = some (.slice el)) (hs : (P.info? el).map (·.size) = some sz) (h0 : 0 < n * sz) (hb : n * sz ≤ 16777216) (hp : parts.toList.map (fun p => (p.1, (a.eval p.2).cells)) = cp) (cs : Array Value) (hf : litC P el sz n cp = some cs)
    (h : ∀ b w', Sat E w' (pt b (.cells cs el) :: H) → wpList P ops Q rest (a.put d (.slice (some ⟨b, 0, none⟩) n n)) w') :
    wpList P ops Q ({ dst := d, op := .buildSlice ty n parts, type := tt, pos := pos, after := after, guard := none } :: rest) a w :=
  wl_run (v := .slice (some ⟨w.heap.size, 0, none⟩) n n) (w' := w.alloc (.cells cs el)) (by
    have := run_litN (w := w) (parts := parts.map fun (i, x) => (i, a.eval x)) hu hs h0 hb hf (by rw [← hp]; simp)
    unfold execOp
    simp [this]) (h _ _ (hw.alloc _))
theorem wk_litN (hw : Sat E w H) (hu : P.underlying ty = some (.slice el)) (hs : (P.info? el).map (·.size) = some sz) (h0 : 0 < n * sz) (hb : n * sz ≤ 16777216) (hp : parts.toList.map (fun p => (p.1, (a.eval p.2).cells)) = cp) (cs : Array Value) (hf : litC P el sz n cp = some cs)
    (h : ∀ b w', Sat E w' (pt b (.cells cs el) :: H) → K (a.put d (.slice (some ⟨b, 0, none⟩) n n)) w') :
    Oper.wp P { dst := d, op := .buildSlice ty n parts, type := tt, pos := pos, after := after, guard := g } a w K Q :=
  wk_run (v := .slice (some ⟨w.heap.size, 0, none⟩) n n) (w' := w.alloc (.cells cs el)) (by
    have := run_litN (w := w) (parts := parts.map fun (i, x) => (i, a.eval x)) hu hs h0 hb hf (by rw [← hp]; simp)
    unfold execOp
    simp [this]) (h _ _ (hw.alloc _))
end
end Go.Bst
