/- The laws of single operations, each with what follows as a variable. Made by gen_k.py out of Laws and Slc. Conditions: none. -/
import Derived.Test.YtbkfhieadnfndaaSlc
set_option linter.unusedVariables false
set_option linter.unusedSimpArgs false
namespace Go.Bst
open Go.RowKit
section
variable {P : Program} {K : Act → World → Prop} {g : Option (Nat × Bool)} {ops : Array Oper} {Q : Exit → Act → World → Prop} {rest : List Oper} {d : Option Tmp} {ty tt t el : TypeId} {pos : String} {after : Array Edge} {a : Act} {E : Env} {w : World} {H : List HP} {x ix : Operand}
theorem wk_run {op : Op} {v : Value} {w' : World} (hr : (execOp a.eval { dst := d, op := op, type := tt, pos := pos, after := after, guard := g }).run P w = .ok (.value v) w')
    (h : K (a.put d v) w') : Oper.wp P { dst := d, op := op, type := tt, pos := pos, after := after, guard := g } a w K Q := by
  unfold Oper.wp
  rw [hr]
  exact h
theorem wk_skip {op : Op} {w' : World} (hr : (execOp a.eval { dst := d, op := op, type := tt, pos := pos, after := after, guard := g }).run P w = .ok .skip w')
    (h : K (a.put d undef) w') : Oper.wp P { dst := d, op := op, type := tt, pos := pos, after := after, guard := g } a w K Q := by
  unfold Oper.wp
  rw [hr]
  exact h
theorem wk_load {x : Operand} {n b off : Nat} {cs : Array Value} {T : TypeId} {fr : Nat × Nat} (hw : Sat E w H) (hx : a.eval x = .pointer (some ⟨b, off, none⟩)) (k : Nat) (hk : H[k]? = some (pt b (.cells cs T fr)))
    (ht : aggSize P ty = some n) (hn : off + n ≤ cs.size) (h : K (a.put d (.agg (cs.extract off (off + n)))) w) :
    Oper.wp P { dst := d, op := .load ty x, type := tt, pos := pos, after := after, guard := g } a w K Q :=
  wk_run (by simp only [execOp, Instr.loadAt, hx, Instr.sureAddr, Sem.run_bind, Sem.run_pure, Result.andThen_ok, run_loadVar_agg ht (hw.read k hk) hn]) h
theorem wk_load_all {x : Operand} {b : Nat} {cs : Array Value} {T : TypeId} {fr : Nat × Nat} (hw : Sat E w H) (hx : a.eval x = .pointer (some ⟨b, 0, none⟩)) (k : Nat) (hk : H[k]? = some (pt b (.cells cs T fr)))
    (ht : aggSize P ty = some cs.size) (h : K (a.put d (.agg cs)) w) :
    Oper.wp P { dst := d, op := .load ty x, type := tt, pos := pos, after := after, guard := g } a w K Q :=
  wk_load hw hx k hk ht (by omega) (by rw [Nat.zero_add, Array.extract_size]; exact h)
theorem wk_load1 {x : Operand} {b off : Nat} {cs : Array Value} {T : TypeId} {fr : Nat × Nat} {v : Value} (hw : Sat E w H) (hx : a.eval x = .pointer (some ⟨b, off, none⟩)) (k : Nat) (hk : H[k]? = some (pt b (.cells cs T fr)))
    (ht : oneSize P ty = true) (hv : cs[off]? = some v) (h : K (a.put d v) w) :
    Oper.wp P { dst := d, op := .load ty x, type := tt, pos := pos, after := after, guard := g } a w K Q :=
  wk_run (by simp only [execOp, Instr.loadAt, hx, Instr.sureAddr, Sem.run_bind, Sem.run_pure, Result.andThen_ok, run_loadVar_one ht (hw.read k hk) hv]) h
theorem wk_store {x y : Operand} {n b off : Nat} {cs : Array Value} {T : TypeId} (hw : Sat E w H) (hx : a.eval x = .pointer (some ⟨b, off, none⟩)) (k : Nat) (hk : H[k]? = some (pt b (.cells cs T (0, 0))))
    (v : Value) (hy : a.eval y = v) (hs : (P.info? ty).map (·.size) = some n) (hvn : v.cells.size = n) (hn : off + n ≤ cs.size) (h1 : v.cells.all (·.oneCell') = true)
    (h : ∀ w', Sat E w' (H.set k (pt b (.cells (splice cs off v.cells) T (0, 0)))) → K (a.put d undef) w') :
    Oper.wp P { dst := d, op := .store ty x y, type := tt, pos := pos, after := after, guard := g } a w K Q :=
  wk_skip (by simp only [execOp, Instr.storeAt, hx, hy, Instr.sureAddr, Sem.run_bind, Sem.run_pure, Result.andThen_ok, run_storeVar_cells hs (hw.read k hk) hvn hn h1])
    (h _ (hw.upd k hk fun _ s => s.setRow))
theorem wk_store1 {x y : Operand} {b off : Nat} {cs : Array Value} {T : TypeId} (hw : Sat E w H) (hx : a.eval x = .pointer (some ⟨b, off, none⟩)) (k : Nat) (hk : H[k]? = some (pt b (.cells cs T (0, 0))))
    (v : Value) (hy : a.eval y = v) (hs : oneSize P ty = true) (hn : off < cs.size) (h1 : v.oneCell' = true)
    (h : ∀ w', Sat E w' (H.set k (pt b (.cells (cs.setIfInBounds off v) T (0, 0)))) → K (a.put d undef) w') :
    Oper.wp P { dst := d, op := .store ty x y, type := tt, pos := pos, after := after, guard := g } a w K Q := by
  have hc : v.cells = #[v] := by cases v <;> first | rfl | (simp [Value.oneCell'] at h1)
  have e : splice cs off v.cells = cs.setIfInBounds off v := by
    rw [hc]; unfold splice
    apply Array.toList_inj.1
    simp only [Array.toList_setIfInBounds, List.size_toArray, List.length_cons, List.length_nil, Nat.zero_add, List.append_assoc, List.cons_append, List.nil_append]
    rw [List.set_eq_take_append_cons_drop, if_pos (by simpa using hn)]
  obtain ⟨_, i, h2, h3⟩ := run_isAgg_no hs w
  refine wk_store (n := 1) hw hx k hk v hy (by simp [h2, h3]) (by simp [hc]) (by omega) (by simp [hc, h1]) ?_
  rw [e]; exact h
theorem wk_store_all {x y : Operand} {b : Nat} {cs vs : Array Value} {T : TypeId} (hw : Sat E w H) (hx : a.eval x = .pointer (some ⟨b, 0, none⟩)) (k : Nat) (hk : H[k]? = some (pt b (.cells cs T (0, 0))))
    (hy : a.eval y = .agg vs) (hs : (P.info? ty).map (·.size) = some vs.size) (hn : vs.size = cs.size) (h1 : vs.all (·.oneCell') = true)
    (h : ∀ w', Sat E w' (H.set k (pt b (.cells vs T (0, 0)))) → K (a.put d undef) w') :
    Oper.wp P { dst := d, op := .store ty x y, type := tt, pos := pos, after := after, guard := g } a w K Q := by
  refine wk_store (n := vs.size) hw hx k hk _ hy hs rfl (by omega) h1 ?_
  rw [show splice cs 0 (Value.agg vs).cells = vs from splice_all cs vs hn]
  exact h
theorem wk_box {x : Operand} (hw : Sat E w H) (v : Value) (hx : a.eval x = v)
    (h : ∀ b w', Sat E w' (pt b (.cells v.cells ty) :: H) → K (a.put d (.pointer (some ⟨b, 0, none⟩))) w') :
    Oper.wp P { dst := d, op := .box ty x, type := tt, pos := pos, after := after, guard := g } a w K Q :=
  wk_run (v := .pointer (some ⟨w.heap.size, 0, none⟩)) (w' := w.alloc (.cells v.cells ty)) (by simp [execOp, Instr.box, newVar, newRow, newObj, Sem.run, hx]) (h _ _ (hw.alloc _))
theorem wk_alloc {z : Value} (hw : Sat E w H) (hz : zeroOf P ty = some z)
    (h : ∀ b w', Sat E w' (pt b (.cells z.cells ty) :: H) → K (a.put d (.pointer (some ⟨b, 0, none⟩))) w') :
    Oper.wp P { dst := d, op := .alloc ty, type := tt, pos := pos, after := after, guard := g } a w K Q := by
  unfold zeroOf at hz
  cases hq : P.info? ty with
  | none => simp [hq] at hz
  | some i =>
    have hi : i.zero = some z := by simpa [hq] using hz
    exact wk_run (v := .pointer (some ⟨w.heap.size, 0, none⟩)) (w' := w.alloc (.cells z.cells ty)) (by simp [execOp, Instr.alloc, zeroValue, typeInfo, hq, hi, newVar, newRow, newObj, Sem.run]) (h _ _ (hw.alloc _))
theorem wk_makeChan {x : Operand} {n : Int} {dir : ChanDir} {el : TypeId} (hw : Sat E w H) (hx : a.eval x = .int .i64 n) (hu : P.underlying ty = some (.chan dir el)) (h0 : 0 ≤ n) (m : Nat) (hb : (P.info? el).map (·.bytes) = some m) (hm : m * n ≤ 281474976710544) (hn : n ≤ 9223372036854775807)
    (h : ∀ c w', Sat E w' (pt c (.chan n.toNat #[] false 0 0 false) :: H) → K (a.put d (.chan (some c))) w') :
    Oper.wp P { dst := d, op := .makeChan ty x, type := tt, pos := pos, after := after, guard := g } a w K Q := by
  cases hq : P.info? el with
  | none => simp [hq] at hb
  | some i =>
    have hi : i.bytes = m := by simpa [hq] using hb
    refine wk_run (v := .chan (some w.heap.size)) (w' := w.alloc (.chan n.toNat #[] false 0 0 false)) ?_ (h _ _ (hw.alloc _))
    simp [execOp, Instr.makeChan, hx, asInt, asIntOf, run_underlying hu, typeInfo, hq, newObj, Sem.run]
    intro hh
    rw [hi] at hh
    omega
theorem wk_index {A : Option Addr} {n cap sz : Nat} {xs : List Value} (i : Int) (r : Rd w sz (.slice A n cap) n xs) (hx : a.eval x = .slice A n cap) (hix : a.eval ix = .int .i64 i)
    (hu : P.underlying t = some (.slice el)) (hs : (P.info? el).map (·.size) = some sz) (h0 : 0 ≤ i) (h1 : i < n)
    (h : ∀ ad, A = some ad → (∀ j u, xs[j]? = some u → w.cell? (ad.add j) = some u) → K (a.put d (.pointer (some (ad.add (i.toNat * sz))))) w) :
    Oper.wp P { dst := d, op := .indexAddr t x ix, type := tt, pos := pos, after := after, guard := g } a w K Q := by
  obtain ⟨A', cap', e, _, _, h4⟩ := r
  injection e with e1 _ e2
  subst e1; subst e2
  obtain ⟨ad, e, hc⟩ := h4 (by omega)
  exact wk_run (rn_indexAddr rfl hx hix hu hs e h0 h1) (h ad e hc)
theorem wk_ldA {ad : Addr} {m : Array Value} (hx : a.eval x = .pointer (some ad)) (ht : aggSize P ty = some m.size) (hc : ∀ j u, m.toList[j]? = some u → w.cell? (ad.add j) = some u)
    (h : K (a.put d (.agg m)) w) : Oper.wp P { dst := d, op := .load ty x, type := tt, pos := pos, after := after, guard := g } a w K Q :=
  wk_run (rn_load_agg rfl hx ht hc) h
theorem wk_ld1 {ad : Addr} {v : Value} (hx : a.eval x = .pointer (some ad)) (ht : oneSize P ty = true) (hc : w.cell? ad = some v)
    (h : K (a.put d v) w) : Oper.wp P { dst := d, op := .load ty x, type := tt, pos := pos, after := after, guard := g } a w K Q :=
  wk_run (rn_load_one rfl hx ht hc) h
theorem wk_slice {lo hi : Option Operand} {A : Option Addr} {n cap sz : Nat} (l h : Nat) (hx : a.eval x = .slice A n cap)
    (hu : P.underlying t = some (.slice el)) (hs : (P.info? el).map (·.size) = some sz) (hlo : (lo.map a.eval = none ∧ l = 0) ∨ lo.map a.eval = some (.int .i64 l)) (hhi : (hi.map a.eval = none ∧ h = n) ∨ hi.map a.eval = some (.int .i64 h))
    (h1 : l ≤ h) (h2 : h ≤ cap) (hh : ∀ A', Kp (A' = if cap = l then A else A.map (·.add (l * sz))) → K (a.put d (.slice A' (h - l) (cap - l))) w) :
    Oper.wp P { dst := d, op := .slice t x lo hi none, type := tt, pos := pos, after := after, guard := g } a w K Q :=
  wk_run (rn_slice rfl hx hu hs hlo hhi h1 h2) (hh _ (Kp.mk rfl))
theorem wk_lit1 {v : Value} {sz : Nat} (hw : Sat E w H) (hx : a.eval x = v) (hu : P.underlying ty = some (.slice el)) (hs : (P.info? el).map (·.size) = some sz) (hz : (zeroOf P el).map (·.cells.size) = some sz) (hv : v.cells.size = sz) (hb : sz ≤ 16777216) (h0 : 0 < sz)
    (h : ∀ b w', Sat E w' (pt b (.cells v.cells el) :: H) → K (a.put d (.slice (some ⟨b, 0, none⟩) 1 1)) w') :
    Oper.wp P { dst := d, op := .buildSlice ty 1 #[(0, x)], type := tt, pos := pos, after := after, guard := g } a w K Q := by
  obtain ⟨f, f1, f2⟩ := info_of hs
  cases hzz : zeroOf P el with
  | none => simp [hzz] at hz
  | some z =>
    have hzs : z.cells.size = sz := by simpa [hzz] using hz
    refine wk_run (v := .slice (some ⟨w.heap.size, 0, none⟩) 1 1) (w' := w.alloc (.cells v.cells el)) ?_ (h _ _ (hw.alloc _))
    have hfill : ∀ g : Nat → Value, Instr.fill (fun i => some (i * sz, sz)) ((Array.range sz).map g) [(0, v)] = some v.cells := by
      intro g
      simp only [Instr.fill, Nat.zero_mul, hv, ne_eq, not_true_eq_false, Nat.zero_add, Array.size_map, Array.size_range, gt_iff_lt, Nat.lt_irrefl, or_self, decide_false, Bool.or_self, Bool.false_eq_true, if_false, Option.some.injEq]
      have := fold_all v.cells ((Array.range sz).map g) (by simp [hv])
      simpa using this
    have hn : ¬ (1 * sz > 2 ^ 24) := by omega
    have h00 : ¬ (1 * sz = 0) := by omega
    simp [execOp, Instr.buildSlice, hx, run_underlying hu, sizeOf, typeInfo, f1, f2, hn, h00, run_zeroValue hzz, newRow, newObj, Sem.run]
    rw [if_neg (by omega), if_neg (by omega), hfill]
    rfl
theorem wk_lit0 {sz : Nat} (hw : Sat E w H) (hu : P.underlying ty = some (.slice el)) (hs : (P.info? el).map (·.size) = some sz)
    (h : ∀ b w', Sat E w' (Row el sz (.slice (some ⟨b, 0, none⟩) 0 0) 0 [] :: H) → K (a.put d (.slice (some ⟨b, 0, none⟩) 0 0)) w') :
    Oper.wp P { dst := d, op := .buildSlice ty 0 #[], type := tt, pos := pos, after := after, guard := g } a w K Q := by
  obtain ⟨f, f1, f2⟩ := info_of hs
  refine wk_run (v := .slice (some ⟨w.heap.size, 0, none⟩) 0 0) (w' := w.alloc (.cells #[] el)) ?_ (h _ _ ?_)
  · simp [execOp, Instr.buildSlice, run_underlying hu, sizeOf, typeInfo, f1, f2, newRow, newObj, Sem.run, Instr.fill]
    rw [show Array.range 0 = #[] from Array.eq_empty_of_size_eq_zero (by simp)]
    simp
  · exact Row_mk (Nat.le_refl _) (by simp [maxLen]) (by simp) (by simp) (hw.alloc _)
theorem wk_append {s : Operand} {src v z : Value} {sz n m bytes : Nat} {xs news : List Value} (hw : Sat E w H) (k : Nat) (hk : H[k]? = some (Row el sz v n xs)) (hs : a.eval s = v) (hx : a.eval x = src) (r : Rd w sz src m news)
    (ht : P.underlying t = some (.slice el)) (hi : (P.info? el).map (fun i => (i.zero, i.size, i.bytes)) = some (some z, sz, bytes)) (hzs : z.cells.size = sz) (hsz : 0 < sz) (h1 : ∀ u ∈ news, u.oneCell' = true) (h63 : n + m ≤ maxLen) (hbytes : (n + m) * bytes ≤ 140737488355328)
    (h : ∀ v' w', Sat E w' (H.set k (Row el sz v' (n + m) (xs ++ news))) → (v' = .slice none 0 0 ↔ v = .slice none 0 0 ∧ m = 0) → K (a.put d v') w') :
    Oper.wp P { dst := d, op := .call { callee := .builtin .append, args := #[s, x], argTypes := #[t, t] }, type := tt, pos := pos, after := after, guard := g } a w K Q := by
  cases hq : P.info? el with
  | none => simp [hq] at hi
  | some i =>
    simp only [hq, Option.map_some, Option.some.injEq, Prod.mk.injEq] at hi
    obtain ⟨i1, i2, i3⟩ := hi
    have own := Row_owns hw k hk
    obtain ⟨A, cap, rfl, q2, q3, q4⟩ := r
    have go : ∀ v' w', (Builtin.append_ #[t, t] tt #[v, .slice A m cap]).run P w = .ok v' w' → Sat E w' (H.set k (Row el sz v' (n + m) (xs ++ news))) → (v' = .slice none 0 0 ↔ v = .slice none 0 0 ∧ m = 0) →
        Oper.wp P { dst := d, op := .call { callee := .builtin .append, args := #[s, x], argTypes := #[t, t] }, type := tt, pos := pos, after := after, guard := g } a w K Q := by
      intro v' w' hr hs' hv'
      exact wk_run (by simp only [execOp, resolve, invoke, builtin, Sem.run_bind, Sem.run_pure, Result.andThen_ok, List.map_toArray, List.map_cons, List.map_nil, hs, hx, hr]) (h v' w' hs' hv')
    cases A with
    | none =>
      have hm : m = 0 := by
        rcases Nat.eq_zero_or_pos m with e | e
        · exact e
        · obtain ⟨_, e, _⟩ := q4 e; cases e
      subst hm
      have hn : news = [] := List.eq_nil_of_length_eq_zero (by simpa using q3)
      subst hn
      obtain ⟨B, c, rfl, b1, b2⟩ := Row_val hw k hk
      refine go (.slice B n c) w (run_append_nil_src (P := P) t tt el i ht hq b1 cap _ rfl ?_) ?_ (by simp)
      · rintro rfl
        rcases own.2 with ⟨e, _⟩ | ⟨_, _, _, e, _⟩
        · injection e with _ e1 e2; exact ⟨e1, e2⟩
        · injection e with e1; cases e1
      · have := hw.upd (B := Row el sz (.slice B n c) (n + 0) (xs ++ [])) k hk (w' := w) (fun _ s => by simpa using s)
        exact this
    | some ad =>
      have hcells : ∀ j u, news[j]? = some u → w.cell? (ad.add j) = some u := by
        intro j u hu
        rcases Nat.eq_zero_or_pos m with e | e
        · subst e
          have hn : news = [] := List.eq_nil_of_length_eq_zero (by simpa using q3)
          subst hn; simp at hu
        · obtain ⟨ad', e, hc⟩ := q4 e
          injection e with e; subst e
          exact hc j u hu
      obtain ⟨v', w', r1, r2, r3, r4, r5⟩ := run_append_own_at (P := P) w 0 t tt el i z sz bytes ht hq i1 i2 i3 hzs hsz v n xs own ad m cap news q3 hcells h1 h63 hbytes (Nat.zero_le _)
      exact go v' w' r1 (hw.upd k hk fun _ s => Row_grow s r3 r2 r5) r4
end
end Go.Bst
