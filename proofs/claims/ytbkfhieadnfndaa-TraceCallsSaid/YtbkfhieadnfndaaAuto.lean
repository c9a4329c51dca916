/- Atoms found by search; a region that draws its order, walked with what it reads kept whole. Conditions: none. -/
import Derived.Test.YtbkfhieadnfndaaRg
import Derived.Test.YtbkfhieadnfndaaMapsK
set_option linter.unusedVariables false
set_option linter.unusedSimpArgs false
namespace Go.Bst
open Go.RowKit Go.Proofs.YtbkfhieadnfndaaW.PrintLast

section
variable {P : Program} {ops : Array Oper} {Q : Exit → Act → World → Prop} {ds : List Nat} {E : Env} {K : List HP}
theorem startS {id n : Nat} {a : Act} {w : World} (hS0 : Sat E w K) (l : Array Bool) (hm : P.follows .mixedOrders = true) (hn : ops.size = n) (hl : Array.replicate n false = l)
    (h : Sat E w.drew K → wpAnyLast P .any ops Q (fun w' => Sat E w' K) ds n l a w.drew) : (Code.region id ops true).wp P Q a w := start_ (S := fun w' => Sat E w' K) l hm hn hl hS0.drew h
end
section
variable {P : Program} {E : Env} {w : World} {H : List HP} {o : Oper} {a : Act} {x ix : Operand} {t el ty : TypeId}
theorem rn_rowIdx {sz n gb cap : Nat} {xs : List Value} (ho : o.op = .indexAddr t x ix) (h : Sat E w H) (k : Nat) (hx : a.eval x = .slice (some ⟨gb, 0, none⟩) n cap) (hk : H[k]? = some (Row el sz (.slice (some ⟨gb, 0, none⟩) n cap) n xs))
    (i j : Nat) (hj : i * sz = j) (hix : a.eval ix = .int .i64 i) (hu : P.underlying t = some (.slice el)) (hs : (P.info? el).map (·.size) = some sz) (hi : i < n) :
    (execOp a.eval o).run P w = .ok (.value (.pointer (some ⟨gb, j, none⟩))) w := by
  have := rn_indexAddr (w := w) (A := some ⟨gb, 0, none⟩) (ad := ⟨gb, 0, none⟩) ho hx hix hu hs rfl (by omega) (by omega)
  rw [add_at, Nat.zero_add, Int.toNat_natCast, hj] at this
  exact this
theorem rn_rowLd1 {e : TypeId} {sz n gb cap j : Nat} {xs : List Value} (ho : o.op = .load ty x) (h : Sat E w H) (k : Nat) (hx : a.eval x = .pointer (some ⟨gb, j, none⟩)) (hk : H[k]? = some (Row e sz (.slice (some ⟨gb, 0, none⟩) n cap) n xs))
    (ht : oneSize P ty = true) (v : Value) (hv : xs[j]? = some v) : (execOp a.eval o).run P w = .ok (.value v) w := rn_load_one ho hx ht (row_cell h k hk hv)
theorem rn_rowLdA {e : TypeId} {sz n gb cap j : Nat} {xs : List Value} (ho : o.op = .load ty x) (h : Sat E w H) (k : Nat) (hx : a.eval x = .pointer (some ⟨gb, j, none⟩)) (hk : H[k]? = some (Row e sz (.slice (some ⟨gb, 0, none⟩) n cap) n xs))
    (m : Array Value) (ht : aggSize P ty = some m.size) (hv : ∀ r u, m.toList[r]? = some u → xs[j + r]? = some u) : (execOp a.eval o).run P w = .ok (.value (.agg m)) w :=
  rn_load_agg ho hx ht (fun r u hu => by rw [add_at]; exact row_cell h k hk (hv r u hu))
theorem rn_satLd1 {b off : Nat} {cs : Array Value} {T : TypeId} {fr : Nat × Nat} {v : Value} (ho : o.op = .load ty x) (h : Sat E w H) (k : Nat) (hx : a.eval x = .pointer (some ⟨b, off, none⟩)) (hk : H[k]? = some (pt b (.cells cs T fr)))
    (ht : oneSize P ty = true) (hv : cs[off]? = some v) : (execOp a.eval o).run P w = .ok (.value v) w := rn_blk1 ho hx ht (h.read k hk) hv
theorem rn_satLdA {b : Nat} {cs : Array Value} {T : TypeId} {fr : Nat × Nat} (ho : o.op = .load ty x) (h : Sat E w H) (k : Nat) (hx : a.eval x = .pointer (some ⟨b, 0, none⟩)) (hk : H[k]? = some (pt b (.cells cs T fr)))
    (ht : aggSize P ty = some cs.size) : (execOp a.eval o).run P w = .ok (.value (.agg cs)) w := rn_blkA ho hx ht (h.read k hk)
theorem rn_satLdP {b off : Nat} {cs m : Array Value} {T : TypeId} {fr : Nat × Nat} (ho : o.op = .load ty x) (h : Sat E w H) (k : Nat) (hx : a.eval x = .pointer (some ⟨b, off, none⟩)) (hk : H[k]? = some (pt b (.cells cs T fr)))
    (ht : aggSize P ty = some m.size) (hm : cs.extract off (off + m.size) = m) (hle : off + m.size ≤ cs.size) : (execOp a.eval o).run P w = .ok (.value (.agg m)) w := by
  have := run_loadVar_agg (P := P) ht (h.read k hk) hle
  rw [hm] at this
  unfold execOp
  simp only [ho, Instr.loadAt, hx, Instr.sureAddr, Sem.run_bind, Sem.run_pure, Result.andThen_ok, this]
end
/-- A function of the program's own. -/
def callB (P : Program) (f : FuncId) : Bool := match P.funcs[f]? with
  | some fn => fn.name != "runtime.NumGoroutine" && fn.body.isSome
  | none => false
section
variable {P : Program} {K : Act → World → Prop} {Q : Exit → Act → World → Prop} {o : Oper} {a : Act} {w : World}
theorem run_callFunc {f : FuncId} (h : callB P f = true) (args : Array Value) : (callFunc f args).run P w = .ok (.enter f args) w := by
  unfold callB at h
  unfold callFunc
  cases hf : P.funcs[f]? with
  | none => simp [hf] at h
  | some fn =>
    simp only [hf, Bool.and_eq_true, bne_iff_ne, ne_eq, Option.isSome_iff_ne_none] at h
    simp [hf, h.1, h.2]
theorem wk_call (f : FuncId) {args : Array Operand} {ts : Array TypeId} (ho : o.op = .call { callee := .value (.func f), args := args, argTypes := ts }) (hf : callB P f = true) (hc : Calls P f (args.map a.eval) w fun e w' => ∃ v, e = .returned v ∧ K (a.put o.dst v) w') : Oper.wp P o a w K Q :=
  wk_enter f (args.map a.eval) (by unfold execOp; simp [ho, resolve, Deferred.ofValue, invoke, Act.eval, run_callFunc hf]) hc
end
noncomputable def sameL (l m : List (Array Value)) : Bool := @decide (l = m) (Classical.propDecidable _)
theorem sameL_iff {l m : List (Array Value)} : sameL l m = true ↔ l = m := by unfold sameL; simp
theorem sameL_no {l m : List (Array Value)} (h : l ≠ m) : sameL l m = false := by
  cases e : sameL l m with
  | false => rfl
  | true => exact absurd (sameL_iff.1 e) h
theorem fits_size {ks : List SK} {m : Array Value} (h : fitAll ks m.toList) : m.size = ks.length := by simpa using fitAll_len h
theorem rn_neqB {P : Program} {o : Oper} {a : Act} {w : World} {x y : Operand} {yt : TypeId} {d : Nat} {t : TypeId} {ks : List SK} (ho : o.op = .binOp .neq t x y yt) (xs ys : Array Value) (e1 : a.eval x = .agg xs) (e2 : a.eval y = .agg ys) (h : skinds P d t = some ks) (hd : d ≤ 10000) (ha : aggSize P t ≠ none) (hg : P.eqGuardType P.depth t = false) (hx : fitAll ks xs.toList) (hy : fitAll ks ys.toList)
    (b : Bool) (hb : (!same xs ys) = b) : (execOp a.eval o).run P w = .ok (.value (.bool b)) w := by subst hb; exact rn_neq_agg ho xs ys e1 e2 h hd ha hg hx hy
theorem rn_eqlB' {P : Program} {o : Oper} {a : Act} {w : World} {x y : Operand} {yt : TypeId} {d : Nat} {t : TypeId} {ks : List SK} (ho : o.op = .binOp .eql t x y yt) (xs ys : Array Value) (e1 : a.eval x = .agg xs) (e2 : a.eval y = .agg ys) (h : skinds P d t = some ks) (hd : d ≤ 10000) (ha : aggSize P t ≠ none) (hg : P.eqGuardType P.depth t = false) (hx : fitAll ks xs.toList) (hy : fitAll ks ys.toList)
    (b : Bool) (hb : same xs ys = b) : (execOp a.eval o).run P w = .ok (.value (.bool b)) w := by subst hb; exact rn_eql_agg ho xs ys e1 e2 h hd ha hg hx hy
end Go.Bst
