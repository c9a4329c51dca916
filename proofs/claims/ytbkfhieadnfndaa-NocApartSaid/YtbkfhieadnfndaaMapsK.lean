/- The laws of single operations on maps, each with what follows as a variable. Made by gen_k.py out of Maps. Conditions: none. -/
import Derived.Test.YtbkfhieadnfndaaMaps
import Derived.Test.YtbkfhieadnfndaaLawsK
set_option linter.unusedVariables false
set_option linter.unusedSimpArgs false
namespace Go.Bst
open Go.RowKit Go.MapKept
section
variable {P : Program} {K0 : Act → World → Prop} {g : Option (Nat × Bool)} {ops : Array Oper} {Q : Exit → Act → World → Prop} {rest : List Oper} {d : Option Tmp} {ty tt t kt et : TypeId} {pos : String} {after : Array Edge} {a : Act} {E : Env} {w : World} {H : List HP} {m x y : Operand} {b : Nat} {good : Value → Prop} {f : Value → Option Value} {key z : Value}
theorem wk_makeMap (hw : Sat E w H) (good : Value → Prop) (h : ∀ b w', Sat E w' (Mf b good (fun _ => none) :: H) → K0 (a.put d (.map (some b))) w') :
    Oper.wp P { dst := d, op := .makeMap ty none, type := tt, pos := pos, after := after, guard := g } a w K0 Q :=
  wk_run (v := .map (some w.heap.size)) (w' := w.alloc (.map #[] 0)) (by simp [execOp, Instr.makeMap, newObj, Sem.run]) (h _ _ (Mf_shut Tells.empty (hw.alloc _)))
theorem wk_lookup (hw : Sat E w H) (hx : a.eval x = .map (some b)) (k : Nat) (hk : H[k]? = some (Mf b good f)) (K : KeyKind P kt good) (hu : P.underlying t = some (.map kt et)) (hz : zeroOf P et = some z) (hy : a.eval y = key) (hg : good key)
    (v : Value) (hv : (f key).getD z = v) (h : K0 (a.put d v) w) :
    Oper.wp P { dst := d, op := .lookup t x y false, type := tt, pos := pos, after := after, guard := g } a w K0 Q :=
  wk_run (by simp only [execOp, hx, hy, Sem.run_bind, run_map_lookup hw k hk K hu hz hg, Result.andThen_ok, Sem.run_pure]; rfl) (by subst hv; exact h)
theorem wk_lookup2 (hw : Sat E w H) (hx : a.eval x = .map (some b)) (k : Nat) (hk : H[k]? = some (Mf b good f)) (K : KeyKind P kt good) (hu : P.underlying t = some (.map kt et)) (hz : zeroOf P et = some z) (hy : a.eval y = key) (hg : good key)
    (v : Value) (ok : Bool) (hv : (f key).getD z = v) (hok : (f key).isSome = ok) (h : K0 (a.put d (.tuple #[v, .bool ok])) w) :
    Oper.wp P { dst := d, op := .lookup t x y true, type := tt, pos := pos, after := after, guard := g } a w K0 Q :=
  wk_run (by simp only [execOp, hx, hy, Sem.run_bind, run_map_lookup hw k hk K hu hz hg, Result.andThen_ok, Sem.run_pure]; rfl) (by subst hv; subst hok; exact h)
theorem wk_mapUpdate {u : Operand} (hw : Sat E w H) (hx : a.eval x = .map (some b)) (k : Nat) (hk : H[k]? = some (Mf b good f)) (K : KeyKind P kt good) (hu : P.underlying t = some (.map kt et)) (hy : a.eval y = key) (hg : good key) (v : Value) (hv : a.eval u = v)
    (h : ∀ w', Sat E w' (H.set k (Mf b good (upd f key (some v)))) → K0 (a.put d undef) w') :
    Oper.wp P { dst := d, op := .mapUpdate t x y u, type := tt, pos := pos, after := after, guard := g } a w K0 Q := by
  obtain ⟨w', h1, h2⟩ := run_map_update hw k hk K hu hg v
  exact wk_skip (by simp only [execOp, hx, hy, hv, Sem.run_bind, h1, Result.andThen_ok, Sem.run_pure]) (h w' h2)
theorem wk_delete {u : TypeId} (hw : Sat E w H) (hx : a.eval x = .map (some b)) (k : Nat) (hk : H[k]? = some (Mf b good f)) (K : KeyKind P kt good) (hu : P.underlying t = some (.map kt et)) (hy : a.eval y = key) (hg : good key)
    (h : ∀ w', Sat E w' (H.set k (Mf b good (upd f key none))) → K0 (a.put d (.tuple #[])) w') :
    Oper.wp P { dst := d, op := .call { callee := .builtin .delete, args := #[x, y], argTypes := #[t, u] }, type := tt, pos := pos, after := after, guard := g } a w K0 Q := by
  obtain ⟨w', h1, h2⟩ := run_map_delete hw k hk K hu hg u tt
  exact wk_run (by simp only [execOp, resolve, invoke, builtin, Sem.run_bind, Sem.run_pure, Result.andThen_ok, List.map_toArray, List.map_cons, List.map_nil, hx, hy, h1]) (h w' h2)
theorem wk_rowStore1 {e : TypeId} {sz n gb j cap : Nat} {A : Addr} {xs : List Value} (hw : Sat E w H) (hx : a.eval x = .pointer (some A)) (hA : A = ⟨gb, j, none⟩) (k : Nat) (hk : H[k]? = some (Row e sz (.slice (some ⟨gb, 0, none⟩) n cap) n xs)) (hj : j < n * sz)
    (v : Value) (hy : a.eval y = v) (hs : oneSize P ty = true) (h1 : v.oneCell' = true) (h : ∀ w', Sat E w' (H.set k (Row e sz (.slice (some ⟨gb, 0, none⟩) n cap) n (xs.set j v))) → K0 (a.put d undef) w') :
    Oper.wp P { dst := d, op := .store ty x y, type := tt, pos := pos, after := after, guard := g } a w K0 Q := by
  subst hA
  rcases Row_open (hw.front k hk) with ⟨e0, _⟩ | ⟨gb', cap', cur, e0, h2, h3, h4, h5, h6, s⟩
  · cases e0
  · injection e0 with e1 e2 e3; injection e1 with e1; injection e1 with e1; subst e1; subst e3
    have hjc : j < cur.size := by rw [h4]; exact Nat.lt_of_lt_of_le hj (Nat.mul_le_mul_right _ h2)
    refine wk_store1 s hx 0 rfl v hy hs hjc h1 ?_
    intro w' s'
    simp only [List.set_cons_zero] at s'
    have s' := Row_mk (n := n) (sz := sz) (xs := xs.set j v) h2 h3 (by simp [h4]) (by rw [Array.toList_setIfInBounds, List.take_set, h5]) s'
    refine h w' (Sat.perm s' ?_)
    have hkl : k < H.length := (List.getElem?_eq_some_iff.1 hk).1
    have := perm_front k (H := H.set k (Row e sz (.slice (some ⟨gb, 0, none⟩) n cap) n (xs.set j v))) (A := Row e sz (.slice (some ⟨gb, 0, none⟩) n cap) n (xs.set j v)) (by simp [hkl])
    rw [show (H.set k (Row e sz (.slice (some ⟨gb, 0, none⟩) n cap) n (xs.set j v))).eraseIdx k = H.eraseIdx k from by
      apply List.ext_getElem?; intro i; simp only [List.getElem?_eraseIdx, List.getElem?_set]; split <;> (try split) <;> first | rfl | omega | (exfalso; omega)] at this
    exact this.symm
theorem wk_rowLd1 {e : TypeId} {sz n gb j cap : Nat} {A : Addr} {xs : List Value} (hw : Sat E w H) (hx : a.eval x = .pointer (some A)) (hA : A = ⟨gb, j, none⟩) (k : Nat) (hk : H[k]? = some (Row e sz (.slice (some ⟨gb, 0, none⟩) n cap) n xs))
    (ht : oneSize P ty = true) (v : Value) (hv : xs[j]? = some v) (h : K0 (a.put d v) w) :
    Oper.wp P { dst := d, op := .load ty x, type := tt, pos := pos, after := after, guard := g } a w K0 Q :=
  wk_ld1 hx ht (by rw [hA]; exact row_cell hw k hk hv) h
theorem wk_rowLdA {e : TypeId} {sz n gb j cap : Nat} {A : Addr} {xs : List Value} (hw : Sat E w H) (hx : a.eval x = .pointer (some A)) (hA : A = ⟨gb, j, none⟩) (k : Nat) (hk : H[k]? = some (Row e sz (.slice (some ⟨gb, 0, none⟩) n cap) n xs))
    (m : Array Value) (ht : aggSize P ty = some m.size) (hv : ∀ r u, m.toList[r]? = some u → xs[j + r]? = some u) (h : K0 (a.put d (.agg m)) w) :
    Oper.wp P { dst := d, op := .load ty x, type := tt, pos := pos, after := after, guard := g } a w K0 Q :=
  wk_ldA hx ht (fun r u hu => by rw [hA, add_at]; exact row_cell hw k hk (hv r u hu)) h
theorem wk_rowIdx {ix : Operand} {el : TypeId} {sz n gb cap : Nat} {xs : List Value} (i j : Nat) (hj : i * sz = j) (hw : Sat E w H) (hx : a.eval x = .slice (some ⟨gb, 0, none⟩) n cap) (hix : a.eval ix = .int .i64 i) (k : Nat) (hk : H[k]? = some (Row el sz (.slice (some ⟨gb, 0, none⟩) n cap) n xs))
    (hu : P.underlying t = some (.slice el)) (hs : (P.info? el).map (·.size) = some sz) (hi : i < n) (h : K0 (a.put d (.pointer (some ⟨gb, j, none⟩))) w) :
    Oper.wp P { dst := d, op := .indexAddr t x ix, type := tt, pos := pos, after := after, guard := g } a w K0 Q :=
  wk_index i (Rd_row hw k hk) hx hix hu hs (by omega) (by omega) (fun ad hA _ => by
    injection hA with hA; subst hA
    rw [add_at, Nat.zero_add, Int.toNat_natCast, hj]; exact h)
theorem wk_eqNil {el : TypeId} {A : Option Addr} {n cap : Nat} {yt : TypeId} (hx : a.eval x = .slice A n cap) (hy : a.eval y = .slice none 0 0) (hu : P.underlying t = some (.slice el)) (v : Bool) (hv : A.isNone = v) (h : K0 (a.put d (.bool v)) w) :
    Oper.wp P { dst := d, op := .binOp .eql t x y yt, type := tt, pos := pos, after := after, guard := g } a w K0 Q := by
  subst hv
  refine wk_run ?_ h
  have hg : (eqGuard .eql t x y (.slice A n cap) (.slice none 0 0)).run P w = .ok () w := by cases x <;> cases y <;> simp [eqGuard]
  unfold execOp
  simp only [hx, hy, Sem.run_bind, hg, Lib.run_eql_slice_nil w t el A n cap 0 0 hu, Result.andThen_ok, Sem.run_pure]
end
end Go.Bst
