/- The laws of single operations over heaps in part: loads, stores, new blocks, a select on a channel that nobody else holds. Conditions: none. -/
import Derived.Test.YtbkfhieadnfndaaBase
namespace Go.Bst
open Go.RowKit

/-- How many cells a struct's or an array's type takes; of any other type: nothing. -/
def aggSize (P : Program) (t : TypeId) : Option Nat :=
  match P.underlying t with
  | some (.struct _) | some (.array _ _) => (P.info? t).map (·.size)
  | _ => none
/-- A type of one cell. -/
def oneSize (P : Program) (t : TypeId) : Bool :=
  match P.underlying t with
  | some (.struct _) | some (.array _ _) => false
  | some _ => (P.info? t).map (·.size) == some 1
  | _ => false
def zeroOf (P : Program) (t : TypeId) : Option Value := (P.info? t).bind (·.zero)

def splice (cs : Array Value) (off : Nat) (vs : Array Value) : Array Value := (cs.toList.take off ++ vs.toList ++ cs.toList.drop (off + vs.size)).toArray
theorem splice_all (cs vs : Array Value) (h : vs.size = cs.size) : splice cs 0 vs = vs := by
  unfold splice
  rw [show (cs.toList.drop (0 + vs.size)) = [] from List.drop_eq_nil_of_le (by simp; omega)]
  simp

theorem run_isAgg_yes {P : Program} {t : TypeId} {n : Nat} (h : aggSize P t = some n) (w : World) : (isAgg t).run P w = .ok true w ∧ ∃ i, P.info? t = some i ∧ i.size = n := by
  unfold aggSize at h
  split at h
  · rename_i fs he
    refine ⟨by unfold isAgg; rw [Sem.run_bind, run_underlying he w]; rfl, ?_⟩
    cases hq : P.info? t with
    | none => simp [hq] at h
    | some i => exact ⟨i, rfl, by simpa [hq] using h⟩
  · rename_i l e he
    refine ⟨by unfold isAgg; rw [Sem.run_bind, run_underlying he w]; rfl, ?_⟩
    cases hq : P.info? t with
    | none => simp [hq] at h
    | some i => exact ⟨i, rfl, by simpa [hq] using h⟩
  · cases h
theorem run_isAgg_no {P : Program} {t : TypeId} (h : oneSize P t = true) (w : World) : (isAgg t).run P w = .ok false w ∧ ∃ i, P.info? t = some i ∧ i.size = 1 := by
  unfold oneSize at h
  split at h
  · cases h
  · cases h
  · rename_i d h1 h2 he
    refine ⟨?_, ?_⟩
    · unfold isAgg; rw [Sem.run_bind, run_underlying he w]
      cases d <;> first | rfl | (exfalso; simp_all)
    · cases hq : P.info? t with
      | none => simp [hq] at h
      | some i => exact ⟨i, rfl, by simpa [hq] using h⟩
  · cases h

theorem gd_s (x : Value) (l : List Value) (n : Nat) (d : Value) : (List.toArray (x :: l)).getD (n + 1) d = l.toArray.getD n d := by simp
theorem gd_0 (x : Value) (l : List Value) (d : Value) : (List.toArray (x :: l)).getD 0 d = x := rfl

section
variable {P : Program} {w : World}
theorem add_at (b off i : Nat) : (⟨b, off, none⟩ : Addr).add i = ⟨b, off + i, none⟩ := by unfold Addr.add; split <;> simp_all
theorem run_loadVar_agg {t : TypeId} {n b off : Nat} {cs : Array Value} {T : TypeId} {fr : Nat × Nat} (h : aggSize P t = some n) (hg : w.heap[b]? = some (.cells cs T fr)) (hn : off + n ≤ cs.size) :
    (loadVar t ⟨b, off, none⟩).run P w = .ok (.agg (cs.extract off (off + n))) w := by
  obtain ⟨h1, i, h2, h3⟩ := run_isAgg_yes h w
  have hl : (loadCells ⟨b, off, none⟩ ((cs.extract off (off + n)).toList).length).run P w = .ok (cs.extract off (off + n)).toList.toArray w :=
    run_loadCells_list (P := P) w ⟨b, off, none⟩ _ (fun j v hv => by
      rw [add_at, cell_of_row w b _ cs T fr hg]
      simp only [Array.toList_extract, List.extract_eq_take_drop, List.getElem?_take, List.getElem?_drop] at hv
      split at hv
      · simpa using hv
      · cases hv)
  have hs : (cs.extract off (off + n)).toList.length = n := by simp; omega
  rw [hs] at hl
  unfold loadVar
  simp only [Sem.run_bind, h1, Result.andThen_ok, if_true, sizeOf, typeInfo, run_program, h2, Sem.run_pure, h3, hl, Array.toArray_toList]
theorem run_loadVar_one {t : TypeId} {b off : Nat} {cs : Array Value} {T : TypeId} {fr : Nat × Nat} {v : Value} (h : oneSize P t = true) (hg : w.heap[b]? = some (.cells cs T fr)) (hv : cs[off]? = some v) :
    (loadVar t ⟨b, off, none⟩).run P w = .ok v w := by
  obtain ⟨h1, i, h2, h3⟩ := run_isAgg_no h w
  have hc := cell_of_row w b off cs T fr hg
  rw [hv] at hc
  unfold loadVar
  simp [h1, load, Sem.run, hc]
theorem run_storeVar_cells {t : TypeId} {n b off : Nat} {cs : Array Value} {T : TypeId} {v : Value} (hs : (P.info? t).map (·.size) = some n) (hg : w.heap[b]? = some (.cells cs T (0, 0)))
    (hv : v.cells.size = n) (hn : off + n ≤ cs.size) (h1 : v.cells.all (·.oneCell') = true) :
    (storeVar t ⟨b, off, none⟩ v).run P w = .ok () (w.setRow b (splice cs off v.cells)) := by
  have hst := run_storeCells_at P b off T v.cells.toList 0 cs w hg (by simp; omega) (fun x hx => (Array.all_eq_true_iff_forall_mem.1 h1) x (by simpa using hx))
  cases hq : P.info? t with
  | none => simp [hq] at hs
  | some i =>
    have hi : i.size = n := by simpa [hq] using hs
    simp only [Nat.add_zero, Array.length_toList] at hst
    unfold storeVar
    simp [sizeOf, typeInfo, hq, hi, hv, hst, splice]
end

section laws
variable {P : Program} {ops : Array Oper} {Q : Exit → Act → World → Prop} {rest : List Oper} {d : Option Tmp} {ty tt : TypeId} {pos : String} {after : Array Edge} {a : Act} {E : Env} {w : World} {H : List HP}

/-- An operation that runs to a value and leaves the world. -/
theorem wl_run {op : Op} {v : Value} {w' : World} (hr : (execOp a.eval { dst := d, op := op, type := tt, pos := pos, after := after, guard := none }).run P w = .ok (.value v) w')
    (h : wpList P ops Q rest (a.put d v) w') : wpList P ops Q ({ dst := d, op := op, type := tt, pos := pos, after := after, guard := none } :: rest) a w :=
  wpList_plain rfl fun K hK => by
    unfold Oper.wp
    rw [hr]
    exact hK _ _ h
theorem wl_skip {op : Op} {w' : World} (hr : (execOp a.eval { dst := d, op := op, type := tt, pos := pos, after := after, guard := none }).run P w = .ok .skip w')
    (h : wpList P ops Q rest (a.put d undef) w') : wpList P ops Q ({ dst := d, op := op, type := tt, pos := pos, after := after, guard := none } :: rest) a w :=
  wpList_plain rfl fun K hK => by
    unfold Oper.wp
    rw [hr]
    exact hK _ _ h

/-- A guarded operation that is wanted. -/
theorem wl_want {o : Oper} (hg : Region.wanted o (yielded ops a.tmps) = true) (h : ∀ K : Act → World → Prop, (∀ a w, wpList P ops Q rest a w → K a w) → Oper.wp P o a w K Q) : wpList P ops Q (o :: rest) a w :=
  wpList_step fun K hK => by rw [if_pos hg]; exact h K hK
theorem wl_load {x : Operand} {n b off : Nat} {cs : Array Value} {T : TypeId} {fr : Nat × Nat} (hw : Sat E w H) (hx : a.eval x = .pointer (some ⟨b, off, none⟩)) (k : Nat) (hk : H[k]? = some (pt b (.cells cs T fr)))
    (ht : aggSize P ty = some n) (hn : off + n ≤ cs.size) (h : wpList P ops Q rest (a.put d (.agg (cs.extract off (off + n)))) w) :
    wpList P ops Q ({ dst := d, op := .load ty x, type := tt, pos := pos, after := after, guard := none } :: rest) a w :=
  wl_run (by simp only [execOp, Instr.loadAt, hx, Instr.sureAddr, Sem.run_bind, Sem.run_pure, Result.andThen_ok, run_loadVar_agg ht (hw.read k hk) hn]) h
/-- .. a whole block. -/
theorem wl_load_all {x : Operand} {b : Nat} {cs : Array Value} {T : TypeId} {fr : Nat × Nat} (hw : Sat E w H) (hx : a.eval x = .pointer (some ⟨b, 0, none⟩)) (k : Nat) (hk : H[k]? = some (pt b (.cells cs T fr)))
    (ht : aggSize P ty = some cs.size) (h : wpList P ops Q rest (a.put d (.agg cs)) w) :
    wpList P ops Q ({ dst := d, op := .load ty x, type := tt, pos := pos, after := after, guard := none } :: rest) a w :=
  wl_load hw hx k hk ht (by omega) (by rw [Nat.zero_add, Array.extract_size]; exact h)
theorem wl_load1 {x : Operand} {b off : Nat} {cs : Array Value} {T : TypeId} {fr : Nat × Nat} {v : Value} (hw : Sat E w H) (hx : a.eval x = .pointer (some ⟨b, off, none⟩)) (k : Nat) (hk : H[k]? = some (pt b (.cells cs T fr)))
    (ht : oneSize P ty = true) (hv : cs[off]? = some v) (h : wpList P ops Q rest (a.put d v) w) :
    wpList P ops Q ({ dst := d, op := .load ty x, type := tt, pos := pos, after := after, guard := none } :: rest) a w :=
  wl_run (by simp only [execOp, Instr.loadAt, hx, Instr.sureAddr, Sem.run_bind, Sem.run_pure, Result.andThen_ok, run_loadVar_one ht (hw.read k hk) hv]) h
theorem wl_store {x y : Operand} {n b off : Nat} {cs : Array Value} {T : TypeId} (hw : Sat E w H) (hx : a.eval x = .pointer (some ⟨b, off, none⟩)) (k : Nat) (hk : H[k]? = some (pt b (.cells cs T (0, 0))))
    (v : Value) (hy : a.eval y = v) (hs : (P.info? ty).map (·.size) = some n) (hvn : v.cells.size = n) (hn : off + n ≤ cs.size) (h1 : v.cells.all (·.oneCell') = true)
    (h : ∀ w', Sat E w' (H.set k (pt b (.cells (splice cs off v.cells) T (0, 0)))) → wpList P ops Q rest (a.put d undef) w') :
    wpList P ops Q ({ dst := d, op := .store ty x y, type := tt, pos := pos, after := after, guard := none } :: rest) a w :=
  wl_skip (by simp only [execOp, Instr.storeAt, hx, hy, Instr.sureAddr, Sem.run_bind, Sem.run_pure, Result.andThen_ok, run_storeVar_cells hs (hw.read k hk) hvn hn h1])
    (h _ (hw.upd k hk fun _ s => s.setRow))
theorem wl_store1 {x y : Operand} {b off : Nat} {cs : Array Value} {T : TypeId} (hw : Sat E w H) (hx : a.eval x = .pointer (some ⟨b, off, none⟩)) (k : Nat) (hk : H[k]? = some (pt b (.cells cs T (0, 0))))
    (v : Value) (hy : a.eval y = v) (hs : oneSize P ty = true) (hn : off < cs.size) (h1 : v.oneCell' = true)
    (h : ∀ w', Sat E w' (H.set k (pt b (.cells (cs.setIfInBounds off v) T (0, 0)))) → wpList P ops Q rest (a.put d undef) w') :
    wpList P ops Q ({ dst := d, op := .store ty x y, type := tt, pos := pos, after := after, guard := none } :: rest) a w := by
  have hc : v.cells = #[v] := by cases v <;> first | rfl | (simp [Value.oneCell'] at h1)
  have e : splice cs off v.cells = cs.setIfInBounds off v := by
    rw [hc]; unfold splice
    apply Array.toList_inj.1
    simp only [Array.toList_setIfInBounds, List.size_toArray, List.length_cons, List.length_nil, Nat.zero_add, List.append_assoc, List.cons_append, List.nil_append]
    rw [List.set_eq_take_append_cons_drop, if_pos (by simpa using hn)]
  obtain ⟨_, i, h2, h3⟩ := run_isAgg_no hs w
  refine wl_store (n := 1) hw hx k hk v hy (by simp [h2, h3]) (by simp [hc]) (by omega) (by simp [hc, h1]) ?_
  rw [e]; exact h
/-- .. over a whole block. -/
theorem wl_store_all {x y : Operand} {b : Nat} {cs vs : Array Value} {T : TypeId} (hw : Sat E w H) (hx : a.eval x = .pointer (some ⟨b, 0, none⟩)) (k : Nat) (hk : H[k]? = some (pt b (.cells cs T (0, 0))))
    (hy : a.eval y = .agg vs) (hs : (P.info? ty).map (·.size) = some vs.size) (hn : vs.size = cs.size) (h1 : vs.all (·.oneCell') = true)
    (h : ∀ w', Sat E w' (H.set k (pt b (.cells vs T (0, 0)))) → wpList P ops Q rest (a.put d undef) w') :
    wpList P ops Q ({ dst := d, op := .store ty x y, type := tt, pos := pos, after := after, guard := none } :: rest) a w := by
  refine wl_store (n := vs.size) hw hx k hk _ hy hs rfl (by omega) h1 ?_
  rw [show splice cs 0 (Value.agg vs).cells = vs from splice_all cs vs hn]
  exact h
theorem wl_box {x : Operand} (hw : Sat E w H) (v : Value) (hx : a.eval x = v)
    (h : ∀ b w', Sat E w' (pt b (.cells v.cells ty) :: H) → wpList P ops Q rest (a.put d (.pointer (some ⟨b, 0, none⟩))) w') :
    wpList P ops Q ({ dst := d, op := .box ty x, type := tt, pos := pos, after := after, guard := none } :: rest) a w :=
  wl_run (v := .pointer (some ⟨w.heap.size, 0, none⟩)) (w' := w.alloc (.cells v.cells ty)) (by simp [execOp, Instr.box, newVar, newRow, newObj, Sem.run, hx]) (h _ _ (hw.alloc _))
theorem wl_alloc {z : Value} (hw : Sat E w H) (hz : zeroOf P ty = some z)
    (h : ∀ b w', Sat E w' (pt b (.cells z.cells ty) :: H) → wpList P ops Q rest (a.put d (.pointer (some ⟨b, 0, none⟩))) w') :
    wpList P ops Q ({ dst := d, op := .alloc ty, type := tt, pos := pos, after := after, guard := none } :: rest) a w := by
  unfold zeroOf at hz
  cases hq : P.info? ty with
  | none => simp [hq] at hz
  | some i =>
    have hi : i.zero = some z := by simpa [hq] using hz
    exact wl_run (v := .pointer (some ⟨w.heap.size, 0, none⟩)) (w' := w.alloc (.cells z.cells ty)) (by simp [execOp, Instr.alloc, zeroValue, typeInfo, hq, hi, newVar, newRow, newObj, Sem.run]) (h _ _ (hw.alloc _))
theorem wl_makeChan {x : Operand} {n : Int} {dir : ChanDir} {el : TypeId} (hw : Sat E w H) (hx : a.eval x = .int .i64 n) (hu : P.underlying ty = some (.chan dir el)) (h0 : 0 ≤ n) (m : Nat) (hb : (P.info? el).map (·.bytes) = some m) (hm : m * n ≤ 281474976710544) (hn : n ≤ 9223372036854775807)
    (h : ∀ c w', Sat E w' (pt c (.chan n.toNat #[] false 0 0 false) :: H) → wpList P ops Q rest (a.put d (.chan (some c))) w') :
    wpList P ops Q ({ dst := d, op := .makeChan ty x, type := tt, pos := pos, after := after, guard := none } :: rest) a w := by
  cases hq : P.info? el with
  | none => simp [hq] at hb
  | some i =>
    have hi : i.bytes = m := by simpa [hq] using hb
    refine wl_run (v := .chan (some w.heap.size)) (w' := w.alloc (.chan n.toNat #[] false 0 0 false)) ?_ (h _ _ (hw.alloc _))
    simp [execOp, Instr.makeChan, hx, asInt, asIntOf, run_underlying hu, typeInfo, hq, newObj, Sem.run]
    intro hh
    rw [hi] at hh
    omega
end laws

section
variable {P : Program} {a : Act} {E : Env} {w : World} {H : List HP} {fn : Func} {R : Ending → World → Prop}
/-- A return whose results are a struct that lies in memory, and a slot. -/
theorem ret_cell_tmp {p t : Tmp} {ty : TypeId} {b : Nat} {cs : Array Value} {T : TypeId} {fr : Nat × Nat} (h : fn.results = #[.cell p ty, .tmp t]) (hw : Sat E w H) (hp : a.tmps.getD p undef = .pointer (some ⟨b, 0, none⟩)) (k : Nat) (hk : H[k]? = some (pt b (.cells cs T fr)))
    (ht : aggSize P ty = some cs.size) (v : Value) (hv : a.tmps.getD t undef = v) (hd : a.defers = []) (hR : R (.returned (.tuple #[.agg cs, v])) w) : bodyPost P fn R .ret a w :=
  bodyPost_ret (v := .tuple #[.agg cs, v]) (by
    have := run_loadVar_agg (P := P) (off := 0) ht (hw.read k hk) (by omega)
    rw [Nat.zero_add, Array.extract_size] at this
    have hp' : a.tmps[p]?.getD undef = .pointer (some ⟨b, 0, none⟩) := by simpa using hp
    have hv' : a.tmps[t]?.getD undef = v := by simpa using hv
    simp [results, h, hp', hv', asAddr, this]) hd hR
theorem ret_cell {p : Tmp} {ty : TypeId} {b : Nat} {cs : Array Value} {T : TypeId} {fr : Nat × Nat} (h : fn.results = #[.cell p ty]) (hw : Sat E w H) (hp : a.tmps.getD p undef = .pointer (some ⟨b, 0, none⟩)) (k : Nat) (hk : H[k]? = some (pt b (.cells cs T fr)))
    (ht : aggSize P ty = some cs.size) (hd : a.defers = []) (hR : R (.returned (.agg cs)) w) : bodyPost P fn R .ret a w :=
  bodyPost_ret (v := .agg cs) (by
    have := run_loadVar_agg (P := P) (off := 0) ht (hw.read k hk) (by omega)
    rw [Nat.zero_add, Array.extract_size] at this
    have hp' : a.tmps[p]?.getD undef = .pointer (some ⟨b, 0, none⟩) := by simpa using hp
    simp [results, h, hp', asAddr, this]) hd hR
end

/-! ### a walk whose frame is an ordinary call's: there a select may stand -/
def _root_.Go.Code.wpN (P : Program) (c : Code) (Q : Exit → Act → World → Prop) (a : Act) (w : World) : Prop :=
  ∀ (b : Frame) (k : List Item) (cs : List Frame), b.kind = .normal →
    ∃ e a' w', Q e a' w' ∧ Arrives P (lone (b.at a (.code c :: k)) cs w) b k cs e a' w'
section
variable {P : Program} {Q : Exit → Act → World → Prop} {a : Act} {w : World}
theorem wpN_of_wp {c : Code} (h : c.wp P Q a w) : c.wpN P Q a w := fun b k cs _ => h b k cs
theorem wpN_seq {x y : Code} (h : x.wpN P (Exit.then (y.wpN P Q) Q) a w) : (Code.seq x y).wpN P Q a w := by
  intro b k cs hb
  obtain ⟨e, a₁, w₁, hq, harr⟩ := h b (.code y :: k) cs hb
  cases e with
  | normal =>
    obtain ⟨e₂, a₂, w₂, hq₂, harr₂⟩ := hq b k cs hb
    exact ⟨e₂, a₂, w₂, hq₂, .of_steps (.head step_seq harr) harr₂⟩
  | exit id => exact ⟨_, a₁, w₁, hq, .of_steps (.one step_seq) (.pass (x := .code y) rfl (fun _ _ => .inl (by simp)) harr)⟩
  | goto l => exact ⟨_, a₁, w₁, hq, .of_steps (.one step_seq) (.pass (x := .code y) rfl (fun _ _ => .inl (by simp)) harr)⟩
  | ret => exact ⟨_, a₁, w₁, hq, .of_steps (.one step_seq) (.pass (x := .code y) rfl (fun _ _ => .inl (by simp)) harr)⟩
  | panic ch => exact ⟨_, a₁, w₁, hq, .of_steps (.one step_seq) (.pass (x := .code y) rfl (fun _ _ => .inl (by simp)) harr)⟩
  | outgrown => exact ⟨_, a₁, w₁, hq, .of_steps (.one step_seq) (.pass (x := .code y) rfl (fun _ _ => .inl (by simp)) harr)⟩
theorem calls_of_wpN {f : FuncId} {fn : Func} {c : Code} {args : Array Value} {R : Ending → World → Prop}
    (hf : P.funcs[f]? = some fn) (hb : fn.body = some c)
    (h : c.wpN P (bodyPost P fn R) { tmps := args ++ Array.replicate (fn.ntmps - args.size) undef, defers := [] } w) :
    Calls P f args w R := by
  intro cs
  let b : Frame := { (default : Frame) with fn := f, kind := .normal }
  have henter : Frame.enter P f args .normal =
      b.at { tmps := args ++ Array.replicate (fn.ntmps - args.size) undef, defers := [] } [.code c] := by
    simp [Frame.enter, Frame.at, hf, hb, b]
  obtain ⟨e, a', w', hq, harr⟩ := h b [] cs rfl
  rw [← henter] at harr
  cases e with
  | normal =>
    obtain ⟨hd, v, hr, hR⟩ := hq
    exact ⟨.returned v, w', _, hR, Steps.trans harr (.one step_end), rfl, rfl, hd, rfl, fn, hf, hr⟩
  | ret =>
    obtain ⟨hd, v, hr, hR⟩ := hq
    obtain ⟨todo, hs⟩ := harr
    exact ⟨.returned v, w', _, hR, hs, rfl, rfl, hd, rfl, fn, hf, hr⟩
  | panic chain =>
    obtain ⟨hd, hR⟩ := hq
    obtain ⟨todo, hs⟩ := harr
    exact ⟨.panicked chain, w', _, hR, hs, rfl, rfl, hd, fn, hf⟩
  | exit id => exact hq.elim
  | goto l => exact hq.elim
  | outgrown => exact ⟨.outgrown, w', b, hq, harr.resolve_left (by simp [b]), rfl, trivial⟩

open Go.Conc in
/-- A region that begins with a communication: one step of the machine's, then the rest. -/
theorem wpN_comm {id : Nat} {o : Oper} {l : List Oper} {cases : Array CommCase} {bl : Bool} {sh : CommShape} {v : Value} {w' : World}
    (hg : o.guard = none) (hr : (execOp a.eval o).run P w = .ok (.comm cases bl sh) w)
    (hs : ∀ (fr : Frame) (cs : List Frame) (es : Array Event), stepG P true (G fr cs) w = .comm (G fr cs) cases bl sh w es → step P (solo (G fr cs) w) = .next (solo (G (fr.finish v) cs) w'))
    (h : wpList P (o :: l).toArray Q l (a.put o.dst v) w') : (Code.region id (o :: l).toArray false).wpN P Q a w := by
  intro b k cs hb
  have hr' : List.range (o :: l).toArray.size = 0 :: List.range' 1 l.length := by
    rw [List.range_eq_range']; simp [List.range'_succ]
  have s1 := step_region (P := P) (b := b) (a := a) (k := k) (cs := cs) (w := w) (ops := (o :: l).toArray) (id := id)
  rw [hr'] at s1
  have s2 := hs (b.at a (.inRegion (o :: l).toArray (0 :: List.range' 1 l.length) :: k)) cs _
    (stepG_comm (P := P) (b := b) (a := a) (k := k) (cs := cs) (w := w) (w' := w) (main := true) (ops := (o :: l).toArray) (i := 0) (rest := List.range' 1 l.length) (o := o) rfl (by simp [Region.wanted, hg]) (by rw [hb]; decide) hr)
  rw [Frame.finish_at] at s2
  have hq : wpOps P (o :: l).toArray Q (List.range' 1 l.length) (a.put o.dst v) w' := by
    rw [wpOps_eq_wpList l 1 (fun j => by simp [Nat.add_comm 1 j])]; exact h
  obtain ⟨e, a', w'', q, arr⟩ := wp_ops _ _ _ hq b k cs
  exact ⟨e, a', w'', q, .of_steps (.head s1 (.head s2 (.refl _ _))) arr⟩
end
section
variable {P : Program} {Q : Exit → Act → World → Prop} {a : Act} {E : Env} {w : World} {H : List HP} {id : Nat} {l : List Oper} {d : Option Tmp} {tt ty : TypeId} {pos : String} {after : Array Edge} {x y : Operand} {z : Value} {c cap s r : Nat} {buf : Array Value}
theorem run_zeroValue {t : TypeId} (h : zeroOf P t = some z) : (zeroValue t).run P w = .ok z w := by
  unfold zeroOf at h
  cases hq : P.info? t with
  | none => simp [hq] at h
  | some i =>
    have hi : i.zero = some z := by simpa [hq] using h
    simp [zeroValue, typeInfo, hq, hi]
/-- select { case c <- v: .. default: .. }, with room. -/
theorem wpN_send_room (hw : Sat E w H) (hx : a.eval x = .chan (some c)) (v : Value) (hy : a.eval y = v) (k : Nat) (hk : H[k]? = some (pt c (.chan cap buf false s r false))) (hz : zeroOf P ty = some z) (hroom : buf.size < cap)
    (h : ∀ w', Sat E w' (H.set k (pt c (.chan cap (buf.push v) false (s + 1) r false))) → wpList P ({ dst := d, op := .select #[{ chan := x, send := some y, elem := ty }] false, type := tt, pos := pos, after := after, guard := none } :: l).toArray Q l (a.put d (.tuple #[goInt 0, .bool false])) w') :
    (Code.region id ({ dst := d, op := .select #[{ chan := x, send := some y, elem := ty }] false, type := tt, pos := pos, after := after, guard := none } :: l).toArray false).wpN P Q a w :=
  wpN_comm (cases := #[Conc.scase c v z]) (bl := false) (sh := .select) (w' := w.setChan c cap (buf.push v) false (s + 1) r false) rfl
    (by simp [execOp, Conc.scase, hx, hy, run_zeroValue hz])
    (fun _ _ _ hh => Conc.step_lone_select_send_room hh (hw.read k hk) hroom)
    (h _ (hw.upd k hk fun _ st => st.setChan _ _ _ _ _ _))
theorem wpN_send_full (hw : Sat E w H) (hx : a.eval x = .chan (some c)) (v : Value) (hy : a.eval y = v) (k : Nat) (hk : H[k]? = some (pt c (.chan cap buf false s r false))) (hz : zeroOf P ty = some z) (hfull : cap ≤ buf.size)
    (h : wpList P ({ dst := d, op := .select #[{ chan := x, send := some y, elem := ty }] false, type := tt, pos := pos, after := after, guard := none } :: l).toArray Q l (a.put d (.tuple #[goInt (-1), .bool false])) w) :
    (Code.region id ({ dst := d, op := .select #[{ chan := x, send := some y, elem := ty }] false, type := tt, pos := pos, after := after, guard := none } :: l).toArray false).wpN P Q a w :=
  wpN_comm (cases := #[Conc.scase c v z]) (bl := false) (sh := .select) (w' := w) rfl
    (by simp [execOp, Conc.scase, hx, hy, run_zeroValue hz])
    (fun _ _ _ hh => Conc.step_lone_select_send_full hh (hw.read k hk) hfull) h
/-- select { case v := <-c: .. default: .. }, something being there. -/
theorem wpN_recv_buf (hw : Sat E w H) (hx : a.eval x = .chan (some c)) (k : Nat) (hk : H[k]? = some (pt c (.chan cap buf false s r false))) (hz : zeroOf P ty = some z) (hsome : 0 < buf.size) (v : Value) (hv : buf.getD 0 undef = v) (buf' : Array Value) (hb : buf.extract 1 buf.size = buf')
    (h : ∀ w', Sat E w' (H.set k (pt c (.chan cap buf' false s (r + 1) false))) → wpList P ({ dst := d, op := .select #[{ chan := x, send := none, elem := ty }] false, type := tt, pos := pos, after := after, guard := none } :: l).toArray Q l (a.put d (.tuple #[goInt 0, .bool true, v])) w') :
    (Code.region id ({ dst := d, op := .select #[{ chan := x, send := none, elem := ty }] false, type := tt, pos := pos, after := after, guard := none } :: l).toArray false).wpN P Q a w := by
  subst hv; subst hb
  exact wpN_comm (cases := #[Conc.rcase c z]) (bl := false) (sh := .select) (w' := w.setChan c cap (buf.extract 1 buf.size) false s (r + 1) false) rfl
    (by simp [execOp, Conc.rcase, hx, run_zeroValue hz])
    (fun _ _ _ hh => Conc.step_lone_select_recv_buf hh (hw.read k hk) hsome)
    (h _ (hw.upd k hk fun _ st => st.setChan _ _ _ _ _ _))
theorem wpN_recv_none (hw : Sat E w H) (hx : a.eval x = .chan (some c)) (k : Nat) (hk : H[k]? = some (pt c (.chan cap #[] false s r false))) (hz : zeroOf P ty = some z)
    (h : wpList P ({ dst := d, op := .select #[{ chan := x, send := none, elem := ty }] false, type := tt, pos := pos, after := after, guard := none } :: l).toArray Q l (a.put d (.tuple #[goInt (-1), .bool false, z])) w) :
    (Code.region id ({ dst := d, op := .select #[{ chan := x, send := none, elem := ty }] false, type := tt, pos := pos, after := after, guard := none } :: l).toArray false).wpN P Q a w :=
  wpN_comm (cases := #[Conc.rcase c z]) (bl := false) (sh := .select) (w' := w) rfl
    (by simp [execOp, Conc.rcase, hx, run_zeroValue hz])
    (fun _ _ _ hh => Conc.step_lone_select_default hh (hw.read k hk)) h
end
end Go.Bst
