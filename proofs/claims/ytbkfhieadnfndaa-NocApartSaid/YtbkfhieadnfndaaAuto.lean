/- Atoms found by search; a region that draws its order, walked with what it reads kept whole. Conditions: none. -/
import Derived.Test.YtbkfhieadnfndaaRg
import Derived.Test.YtbkfhieadnfndaaMapsK
set_option linter.unusedVariables false
set_option linter.unusedSimpArgs false
namespace Go.Bst
open Go.RowKit Go.Proofs.YtbkfhieadnfndaaW.PrintLast

section
variable {P : Program} {ops : Array Oper} {Q : Exit → Act → World → Prop} {ds : List Nat} {E : Env} {K : List HP}
theorem startS {id n : Nat} {a : Act} {w : World} (hS0 : Sat E w K) (l : Array Bool) (hm : P.follows .mixedOrders = true) (hn : ops.size = n) (hl : Array.replicate n false = l)
    (h : Sat E w.drew K → wpAnyLast P .any ops Q (fun w' => Sat E w' K) ds n l a w.drew) : (Code.region id ops true).wp P Q a w := start_ (S := fun w' => Sat E w' K) l hm hn hl hS0.drew h
end
section
variable {P : Program} {E : Env} {w : World} {H : List HP} {o : Oper} {a : Act} {x ix : Operand} {t el ty : TypeId}
theorem rn_rowIdx {sz n gb cap : Nat} {xs : List Value} (ho : o.op = .indexAddr t x ix) (h : Sat E w H) (k : Nat) (hx : a.eval x = .slice (some ⟨gb, 0, none⟩) n cap) (hk : H[k]? = some (Row el sz (.slice (some ⟨gb, 0, none⟩) n cap) n xs))
    (i j : Nat) (hj : i * sz = j) (hix : a.eval ix = .int .i64 i) (hu : P.underlying t = some (.slice el)) (hs : (P.info? el).map (·.size) = some sz) (hi : i < n) :
    (execOp a.eval o).run P w = .ok (.value (.pointer (some ⟨gb, j, none⟩))) w := by
  have := rn_indexAddr (w := w) (A := some ⟨gb, 0, none⟩) (ad := ⟨gb, 0, none⟩) ho hx hix hu hs rfl (by omega) (by omega)
  rw [add_at, Nat.zero_add, Int.toNat_natCast, hj] at this
  exact this
theorem rn_rowLd1 {e : TypeId} {sz n gb cap j : Nat} {xs : List Value} (ho : o.op = .load ty x) (h : Sat E w H) (k : Nat) (hx : a.eval x = .pointer (some ⟨gb, j, none⟩)) (hk : H[k]? = some (Row e sz (.slice (some ⟨gb, 0, none⟩) n cap) n xs))
    (ht : oneSize P ty = true) (v : Value) (hv : xs[j]? = some v) : (execOp a.eval o).run P w = .ok (.value v) w := rn_load_one ho hx ht (row_cell h k hk hv)
theorem rn_rowLdA {e : TypeId} {sz n gb cap j : Nat} {xs : List Value} (ho : o.op = .load ty x) (h : Sat E w H) (k : Nat) (hx : a.eval x = .pointer (some ⟨gb, j, none⟩)) (hk : H[k]? = some (Row e sz (.slice (some ⟨gb, 0, none⟩) n cap) n xs))
    (m : Array Value) (ht : aggSize P ty = some m.size) (hv : ∀ r u, m.toList[r]? = some u → xs[j + r]? = some u) : (execOp a.eval o).run P w = .ok (.value (.agg m)) w :=
  rn_load_agg ho hx ht (fun r u hu => by rw [add_at]; exact row_cell h k hk (hv r u hu))
theorem rn_satLd1 {b off : Nat} {cs : Array Value} {T : TypeId} {fr : Nat × Nat} {v : Value} (ho : o.op = .load ty x) (h : Sat E w H) (k : Nat) (hx : a.eval x = .pointer (some ⟨b, off, none⟩)) (hk : H[k]? = some (pt b (.cells cs T fr)))
    (ht : oneSize P ty = true) (hv : cs[off]? = some v) : (execOp a.eval o).run P w = .ok (.value v) w := rn_blk1 ho hx ht (h.read k hk) hv
theorem rn_satLdA {b : Nat} {cs : Array Value} {T : TypeId} {fr : Nat × Nat} (ho : o.op = .load ty x) (h : Sat E w H) (k : Nat) (hx : a.eval x = .pointer (some ⟨b, 0, none⟩)) (hk : H[k]? = some (pt b (.cells cs T fr)))
    (ht : aggSize P ty = some cs.size) : (execOp a.eval o).run P w = .ok (.value (.agg cs)) w := rn_blkA ho hx ht (h.read k hk)
theorem rn_satLdP {b off : Nat} {cs m : Array Value} {T : TypeId} {fr : Nat × Nat} (ho : o.op = .load ty x) (h : Sat E w H) (k : Nat) (hx : a.eval x = .pointer (some ⟨b, off, none⟩)) (hk : H[k]? = some (pt b (.cells cs T fr)))
    (ht : aggSize P ty = some m.size) (hm : cs.extract off (off + m.size) = m) (hle : off + m.size ≤ cs.size) : (execOp a.eval o).run P w = .ok (.value (.agg m)) w := by
  have := run_loadVar_agg (P := P) ht (h.read k hk) hle
  rw [hm] at this
  unfold execOp
  simp only [ho, Instr.loadAt, hx, Instr.sureAddr, Sem.run_bind, Sem.run_pure, Result.andThen_ok, this]
end
/-- A function of the program's own. -/
def callB (P : Program) (f : FuncId) : Bool := match P.funcs[f]? with
  | some fn => fn.name != "runtime.NumGoroutine" && fn.body.isSome
  | none => false
section
variable {P : Program} {K : Act → World → Prop} {Q : Exit → Act → World → Prop} {o : Oper} {a : Act} {w : World}
theorem run_callFunc {f : FuncId} (h : callB P f = true) (args : Array Value) : (callFunc f args).run P w = .ok (.enter f args) w := by
  unfold callB at h
  unfold callFunc
  cases hf : P.funcs[f]? with
  | none => simp [hf] at h
  | some fn =>
    simp only [hf, Bool.and_eq_true, bne_iff_ne, ne_eq, Option.isSome_iff_ne_none] at h
    simp [hf, h.1, h.2]
theorem wk_call (f : FuncId) {args : Array Operand} {ts : Array TypeId} (ho : o.op = .call { callee := .value (.func f), args := args, argTypes := ts }) (hf : callB P f = true) (hc : Calls P f (args.map a.eval) w fun e w' => ∃ v, e = .returned v ∧ K (a.put o.dst v) w') : Oper.wp P o a w K Q :=
  wk_enter f (args.map a.eval) (by unfold execOp; simp [ho, resolve, Deferred.ofValue, invoke, Act.eval, run_callFunc hf]) hc
end
noncomputable def sameL (l m : List (Array Value)) : Bool := @decide (l = m) (Classical.propDecidable _)
theorem sameL_iff {l m : List (Array Value)} : sameL l m = true ↔ l = m := by unfold sameL; simp
theorem sameL_no {l m : List (Array Value)} (h : l ≠ m) : sameL l m = false := by
  cases e : sameL l m with
  | false => rfl
  | true => exact absurd (sameL_iff.1 e) h
theorem fits_size {ks : List SK} {m : Array Value} (h : fitAll ks m.toList) : m.size = ks.length := by simpa using fitAll_len h
theorem rn_neqB {P : Program} {o : Oper} {a : Act} {w : World} {x y : Operand} {yt : TypeId} {d : Nat} {t : TypeId} {ks : List SK} (ho : o.op = .binOp .neq t x y yt) (xs ys : Array Value) (e1 : a.eval x = .agg xs) (e2 : a.eval y = .agg ys) (h : skinds P d t = some ks) (hd : d ≤ 10000) (ha : aggSize P t ≠ none) (hg : P.eqGuardType P.depth t = false) (hx : fitAll ks xs.toList) (hy : fitAll ks ys.toList)
    (b : Bool) (hb : (!same xs ys) = b) : (execOp a.eval o).run P w = .ok (.value (.bool b)) w := by subst hb; exact rn_neq_agg ho xs ys e1 e2 h hd ha hg hx hy
theorem rn_eqlB' {P : Program} {o : Oper} {a : Act} {w : World} {x y : Operand} {yt : TypeId} {d : Nat} {t : TypeId} {ks : List SK} (ho : o.op = .binOp .eql t x y yt) (xs ys : Array Value) (e1 : a.eval x = .agg xs) (e2 : a.eval y = .agg ys) (h : skinds P d t = some ks) (hd : d ≤ 10000) (ha : aggSize P t ≠ none) (hg : P.eqGuardType P.depth t = false) (hx : fitAll ks xs.toList) (hy : fitAll ks ys.toList)
    (b : Bool) (hb : same xs ys = b) : (execOp a.eval o).run P w = .ok (.value (.bool b)) w := by subst hb; exact rn_eql_agg ho xs ys e1 e2 h hd ha hg hx hy
/-! ### a struct or an array out of its parts -/
def fillC (place : Nat → Option (Nat × Nat)) (cells : Array Value) : List (Nat × Array Value) → Option (Array Value)
  | [] => some cells
  | (i, v) :: rest => match place i with
    | none => none
    | some (off, size) => if v.size ≠ size || off + v.size > cells.size then none else fillC place (v.zipIdx.foldl (fun cs (c, j) => cs.setIfInBounds (off + j) c) cells) rest
def placesC (P : Program) : List Field → Option (List (Nat × Nat))
  | [] => some []
  | f :: fs => match P.info? f.type, placesC P fs with
    | some i, some l => some ((f.offset, i.size) :: l)
    | _, _ => none
def buildC (P : Program) (t : TypeId) (parts : List (Nat × Array Value)) : Option (Array Value) :=
  match zeroOf P t, P.underlying t with
  | some z, some (.struct fields) => (placesC P fields.toList).bind fun l => fillC (fun i => l[i]?) z.cells parts
  | some z, some (.array _ e) => (P.info? e).bind fun i => fillC (fun j => some (j * i.size, i.size)) z.cells parts
  | _, _ => none
theorem fillC_eq (place : Nat → Option (Nat × Nat)) : ∀ (parts : List (Nat × Value)) (cells : Array Value), Instr.fill place cells parts = fillC place cells (parts.map fun p => (p.1, p.2.cells))
  | [], _ => rfl
  | (i, v) :: rest, cells => by
    unfold Instr.fill
    simp only [List.map_cons, fillC]
    cases h : place i with
    | none => rfl
    | some q =>
      obtain ⟨off, size⟩ := q
      simp only [fillC_eq place rest]
theorem run_places {P : Program} {w : World} : ∀ (fs : List Field) {l : List (Nat × Nat)}, placesC P fs = some l → (fs.mapM fun f => do pure (f.offset, ← sizeOf f.type) : Sem (List (Nat × Nat))).run P w = .ok l w
  | [], l, h => by
    simp only [placesC, Option.some.injEq] at h
    subst h; rfl
  | f :: fs, l, h => by
    unfold placesC at h
    cases hi : P.info? f.type with
    | none => simp [hi] at h
    | some i =>
      cases hl : placesC P fs with
      | none => simp [hi, hl] at h
      | some l' =>
        simp only [hi, hl, Option.some.injEq] at h
        subst h
        rw [List.mapM_cons]
        have hr := run_places (w := w) fs hl
        simp only [Sem.run_bind, sizeOf, typeInfo, run_program, hi, Result.andThen_ok, Sem.run_pure] at hr ⊢
        rw [hr]
        simp
theorem run_build {P : Program} {w : World} {t : TypeId} {parts : Array (Nat × Value)} {cs : Array Value} (h : buildC P t (parts.toList.map fun p => (p.1, p.2.cells)) = some cs) : (Instr.build t parts).run P w = .ok (.agg cs) w := by
  unfold buildC at h
  cases hz : zeroOf P t with
  | none => simp [hz] at h
  | some z =>
    cases hu : P.underlying t with
    | none => simp [hz, hu] at h
    | some d =>
      rw [hz, hu] at h
      unfold Instr.build
      simp only [Sem.run_bind, run_zeroValue hz, Result.andThen_ok, run_underlying hu]
      cases d with
      | struct fields =>
        simp only [Option.bind_eq_some_iff] at h
        obtain ⟨l, h1, h2⟩ := h
        rw [← fillC_eq] at h2
        have := run_places (w := w) _ h1
        have e : (fields.mapM fun f => do pure (f.offset, ← sizeOf f.type) : Sem (Array (Nat × Nat))).run P w = .ok l.toArray w := by
          rw [Array.mapM_eq_mapM_toList]
          show (Sem.bind _ _).run P w = _
          rw [Sem.run_bind']
          rw [this]
          rfl
        simp only [Sem.run_bind, e, Result.andThen_ok, List.getElem?_toArray, h2, Sem.run_pure]
      | array n e =>
        simp only [Option.bind_eq_some_iff] at h
        obtain ⟨i, h1, h2⟩ := h
        rw [← fillC_eq] at h2
        simp only [Sem.run_bind, sizeOf, typeInfo, run_program, h1, Result.andThen_ok, Sem.run_pure, h2]
      | _ => simp at h
section
variable {P : Program} {ops : Array Oper} {Q : Exit → Act → World → Prop} {rest : List Oper} {d : Option Tmp} {ty tt t : TypeId} {pos : String} {after : Array Edge} {a : Act} {w : World} {o : Oper}
theorem rn_build {parts : Array (Nat × Operand)} {cp : List (Nat × Array Value)} (cs : Array Value) (ho : o.op = .build t parts) (hp : parts.toList.map (fun p => (p.1, (a.eval p.2).cells)) = cp) (hb : buildC P t cp = some cs) : (execOp a.eval o).run P w = .ok (.value (.agg cs)) w := by
  have := run_build (P := P) (w := w) (t := t) (parts := parts.map fun (i, x) => (i, a.eval x)) (cs := cs) (by
    rw [← hb, ← hp]; congr 1; simp)
  unfold execOp
  simp [ho, this]
theorem wl_build {parts : Array (Nat × Operand)} {cp : List (Nat × Array Value)} (cs : Array Value) (hp : parts.toList.map (fun p => (p.1, (a.eval p.2).cells)) = cp) (hb : buildC P t cp = some cs) (h : wpList P ops Q rest (a.put d (.agg cs)) w) :
    wpList P ops Q ({ dst := d, op := .build t parts, type := tt, pos := pos, after := after, guard := none } :: rest) a w := wl_run (rn_build cs rfl hp hb) h
end
section
variable {P : Program} {ops : Array Oper} {Q : Exit → Act → World → Prop} {rest : List Oper} {d : Option Tmp} {ty tt t el : TypeId} {pos : String} {after : Array Edge} {a : Act} {w : World} {o : Oper} {x : Operand}
theorem map_add0 {sz : Nat} (A : Option Addr) (n : Nat) : (if n = 0 then A else A.map (·.add (0 * sz))) = A := by
  split
  · rfl
  · cases A with
    | none => rfl
    | some ad => simp [Addr.add]
/-- xs[:h] -/
theorem rn_sliceTo {lo hi : Option Operand} {A : Option Addr} {n cap sz : Nat} (h : Nat) (ho : o.op = .slice t x lo hi none) (hx : a.eval x = .slice A n cap) (hu : P.underlying t = some (.slice el)) (hs : (P.info? el).map (·.size) = some sz) (hlo : lo.map a.eval = none) (hhi : hi.map a.eval = some (.int .i64 h)) (h2 : h ≤ cap) :
    (execOp a.eval o).run P w = .ok (.value (.slice A h cap)) w := by
  have := rn_slice (w := w) (l := 0) (h := h) ho hx hu hs (.inl ⟨hlo, rfl⟩) (.inr hhi) (Nat.zero_le _) h2
  rw [map_add0] at this
  exact this
theorem wl_sliceTo {hi : Option Operand} {A : Option Addr} {n cap sz : Nat} (h : Nat) (hx : a.eval x = .slice A n cap) (hu : P.underlying t = some (.slice el)) (hs : (P.info? el).map (·.size) = some sz) (hhi : hi.map a.eval = some (.int .i64 h)) (h2 : h ≤ cap) (hh : wpList P ops Q rest (a.put d (.slice A h cap)) w) :
    wpList P ops Q ({ dst := d, op := .slice t x none hi none, type := tt, pos := pos, after := after, guard := none } :: rest) a w := wl_run (rn_sliceTo h rfl hx hu hs rfl hhi h2) hh
end
section
variable {P : Program} {ops : Array Oper} {Q : Exit → Act → World → Prop} {rest : List Oper} {d : Option Tmp} {ty tt t el : TypeId} {pos : String} {after : Array Edge} {a : Act} {w : World} {o : Oper} {x : Operand}
/-- arr[l:h] of an array that lies in memory. -/
theorem rn_sliceArr {lo hi : Option Operand} {n sz b : Nat} (l h : Nat) (ho : o.op = .slice t x lo hi none) (hx : a.eval x = .pointer (some ⟨b, 0, none⟩)) (hu : P.underlying t = some (.array n el)) (hs : (P.info? el).map (·.size) = some sz)
    (hlo : (lo.map a.eval = none ∧ l = 0) ∨ lo.map a.eval = some (.int .i64 l)) (hhi : (hi.map a.eval = none ∧ h = n) ∨ hi.map a.eval = some (.int .i64 h)) (h1 : l ≤ h) (h2 : h ≤ n) :
    (execOp a.eval o).run P w = .ok (.value (.slice (some (if n = l then ⟨b, 0, none⟩ else ⟨b, l * sz, none⟩)) (h - l) (n - l))) w := by
  obtain ⟨f, f1, f2⟩ := info_of hs
  have e : (Instr.sliceBounds false n n (lo.map a.eval) (hi.map a.eval) none).run P w = .ok (l, h, n) w := by
    unfold Instr.sliceBounds
    rcases hlo with ⟨e1, rfl⟩ | e1 <;> rcases hhi with ⟨e2, rfl⟩ | e2 <;> simp [e1, e2, Instr.sliceBound, asIntOf, h1, h2]
  have ea : (⟨b, 0, none⟩ : Addr).add (l * sz) = ⟨b, l * sz, none⟩ := by rw [add_at, Nat.zero_add]
  unfold execOp
  simp [ho, hx, Instr.sliceAt, run_underlying hu, e, sizeOf, typeInfo, f1, f2, Instr.sureAddr, ea]
theorem Rd_arr {E : Env} {H : List HP} {sz n g off cap : Nat} {cur : Array Value} {T : TypeId} {fr : Nat × Nat} (s : Sat E w H) (k : Nat) (hk : H[k]? = some (pt g (.cells cur T fr))) (h1 : n ≤ cap) (xs : List Value) (h2 : xs.length = n * sz) (h3 : xs = (cur.toList.drop off).take (n * sz)) :
    Rd w sz (.slice (some ⟨g, off, none⟩) n cap) n xs :=
  ⟨_, cap, rfl, h1, h2, fun _ => ⟨_, rfl, fun j u hu => by
    rw [add_at, cell_of_row w g (off + j) cur T fr (s.read k hk)]
    rw [h3, List.getElem?_take] at hu
    split at hu
    · simpa using hu
    · cases hu⟩⟩
end
theorem Row_upto {E : Env} {w : World} {F : List HP} {e : TypeId} {sz n k cap : Nat} {A : Option Addr} {xs : List Value} (s : Sat E w (Row e sz (.slice A n cap) n xs :: F)) (hk : k ≤ n) : Sat E w (Row e sz (.slice A k cap) k (xs.take (k * sz)) :: F) := by
  rcases Row_open s with ⟨h1, rfl, rfl, s'⟩ | ⟨g, cap', cur, h1, h2, h3, h4, h5, h6, s'⟩
  · injection h1 with a1 _ a2
    subst a1; subst a2
    obtain rfl : k = 0 := by omega
    rw [Nat.zero_mul, List.take_zero]
    exact Row_nil s'
  · injection h1 with a1 _ a2
    subst a1; subst a2
    refine Row_mk (by omega) h3 h4 ?_ s'
    rw [← h5, List.take_take, Nat.min_eq_left (Nat.mul_le_mul_right _ hk)]
theorem Rd.part {w : World} {sz n l h cap : Nat} {A : Option Addr} {xs : List Value} (r : Rd w sz (.slice A n cap) n xs) (h1 : l ≤ h) (h2 : h ≤ n) :
    Rd w sz (.slice (if cap = l then A else A.map (·.add (l * sz))) (h - l) (cap - l)) (h - l) ((xs.drop (l * sz)).take ((h - l) * sz)) := (r.cut (by omega)).upto (by omega)
section
variable {P : Program} {ops : Array Oper} {Q : Exit → Act → World → Prop} {rest : List Oper} {d : Option Tmp} {ty tt t el : TypeId} {pos : String} {after : Array Edge} {a : Act} {w : World} {o : Oper} {x ix : Operand}
theorem rn_arrIdx {n sz b off : Nat} {k : IntKind} {i : Int} (ho : o.op = .indexAddr t x ix) (hx : a.eval x = .pointer (some ⟨b, off, none⟩)) (hix : a.eval ix = .int k i) (hu : P.underlying t = some (.array n el)) (hs : (P.info? el).map (·.size) = some sz) (h0 : 0 ≤ i) (h1 : i < n) :
    (execOp a.eval o).run P w = .ok (.value (.pointer (some ⟨b, off + i.toNat * sz, none⟩))) w := by
  obtain ⟨f, f1, f2⟩ := info_of hs
  have e := add_at b off (i.toNat * sz)
  unfold execOp
  simp [ho, hx, hix, Instr.indexAt, asIntOf, run_underlying hu, Instr.sureAddr, sizeOf, typeInfo, f1, f2, h0, h1, e]
theorem wl_arrIdx {n sz b off : Nat} {k : IntKind} {i : Int} (hx : a.eval x = .pointer (some ⟨b, off, none⟩)) (hix : a.eval ix = .int k i) (hu : P.underlying t = some (.array n el)) (hs : (P.info? el).map (·.size) = some sz) (h0 : 0 ≤ i) (h1 : i < n) (j : Nat) (hj : off + i.toNat * sz = j)
    (h : wpList P ops Q rest (a.put d (.pointer (some ⟨b, j, none⟩))) w) : wpList P ops Q ({ dst := d, op := .indexAddr t x ix, type := tt, pos := pos, after := after, guard := none } :: rest) a w := by
  subst hj
  exact wl_run (rn_arrIdx rfl hx hix hu hs h0 h1) h
end
end Go.Bst
