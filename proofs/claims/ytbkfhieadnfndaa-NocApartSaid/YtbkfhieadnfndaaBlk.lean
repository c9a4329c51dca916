/- Loads and stores of a block that is found by its number. Conditions: none. -/
import Derived.Test.YtbkfhieadnfndaaCmp
import Derived.Test.YtbkfhieadnfndaaPlL
set_option linter.unusedVariables false
set_option linter.unusedSimpArgs false
namespace Go.Bst
open Go.RowKit
theorem fits_i64 {n : Int} (h : i64B n) : SK.fits (.int .i64) (.int .i64 n) := ⟨n, rfl, by simpa [IntKind.min, IntKind.signed, IntKind.bits] using h.1, by simpa [IntKind.max, IntKind.signed, IntKind.bits] using h.2⟩
theorem fits_bool (b : Bool) : SK.fits .bool (.bool b) := ⟨b, rfl⟩
/-- H with A in one place; H' is H with B in its place. -/
def Upd (H : List HP) (A B : HP) (H' : List HP) : Prop := ∃ k, H[k]? = some A ∧ H' = H.set k B
theorem Upd.mk {H : List HP} {A B : HP} (k : Nat) (h : H[k]? = some A) : Upd H A B (H.set k B) := ⟨k, h, rfl⟩
section
variable {P : Program} {K : Act → World → Prop} {g : Option (Nat × Bool)} {ops : Array Oper} {Q : Exit → Act → World → Prop} {rest : List Oper} {d : Option Tmp} {ty tt : TypeId} {pos : String} {after : Array Edge} {a : Act} {E : Env} {w : World} {H H' : List HP} {x y : Operand} {b off n : Nat} {cs cs' m vs : Array Value} {T : TypeId} {fr : Nat × Nat}
theorem rnb_load1 {o : Oper} {v : Value} (ho : o.op = .load ty x) (hx : a.eval x = .pointer (some ⟨b, off, none⟩)) (hg : w.heap[b]? = some (.cells cs T fr)) (ht : oneSize P ty = true) (hv : cs[off]? = some v) : (execOp a.eval o).run P w = .ok (.value v) w := rn_blk1 ho hx ht hg hv
theorem rnb_loadA {o : Oper} (ho : o.op = .load ty x) (hx : a.eval x = .pointer (some ⟨b, 0, none⟩)) (hg : w.heap[b]? = some (.cells cs T fr)) (ht : aggSize P ty = some cs.size) : (execOp a.eval o).run P w = .ok (.value (.agg cs)) w := rn_blkA ho hx ht hg
theorem rnb_loadP {o : Oper} (ho : o.op = .load ty x) (hx : a.eval x = .pointer (some ⟨b, off, none⟩)) (hg : w.heap[b]? = some (.cells cs T fr)) (ht : aggSize P ty = some n) (hm : cs.extract off (off + n) = m) (hn : off + n ≤ cs.size) : (execOp a.eval o).run P w = .ok (.value (.agg m)) w := by
  have := run_loadVar_agg (P := P) ht hg hn
  rw [hm] at this
  unfold execOp
  simp only [ho, Instr.loadAt, hx, Instr.sureAddr, Sem.run_bind, Sem.run_pure, Result.andThen_ok, this]
theorem wb_load1 {v : Value} (hx : a.eval x = .pointer (some ⟨b, off, none⟩)) (hg : w.heap[b]? = some (.cells cs T fr)) (ht : oneSize P ty = true) (hv : cs[off]? = some v) (h : wpList P ops Q rest (a.put d v) w) :
    wpList P ops Q ({ dst := d, op := .load ty x, type := tt, pos := pos, after := after, guard := none } :: rest) a w := wl_run (rnb_load1 rfl hx hg ht hv) h
theorem wb_loadA (hx : a.eval x = .pointer (some ⟨b, 0, none⟩)) (hg : w.heap[b]? = some (.cells cs T fr)) (ht : aggSize P ty = some cs.size) (h : wpList P ops Q rest (a.put d (.agg cs)) w) :
    wpList P ops Q ({ dst := d, op := .load ty x, type := tt, pos := pos, after := after, guard := none } :: rest) a w := wl_run (rnb_loadA rfl hx hg ht) h
theorem wb_loadP (hx : a.eval x = .pointer (some ⟨b, off, none⟩)) (hg : w.heap[b]? = some (.cells cs T fr)) (ht : aggSize P ty = some n) (hm : cs.extract off (off + n) = m) (hn : off + n ≤ cs.size) (h : wpList P ops Q rest (a.put d (.agg m)) w) :
    wpList P ops Q ({ dst := d, op := .load ty x, type := tt, pos := pos, after := after, guard := none } :: rest) a w := wl_run (rnb_loadP rfl hx hg ht hm hn) h
theorem wkb_load1 {v : Value} (hx : a.eval x = .pointer (some ⟨b, off, none⟩)) (hg : w.heap[b]? = some (.cells cs T fr)) (ht : oneSize P ty = true) (hv : cs[off]? = some v) (h : K (a.put d v) w) :
    Oper.wp P { dst := d, op := .load ty x, type := tt, pos := pos, after := after, guard := g } a w K Q := wk_run (rnb_load1 rfl hx hg ht hv) h
theorem wkb_loadA (hx : a.eval x = .pointer (some ⟨b, 0, none⟩)) (hg : w.heap[b]? = some (.cells cs T fr)) (ht : aggSize P ty = some cs.size) (h : K (a.put d (.agg cs)) w) :
    Oper.wp P { dst := d, op := .load ty x, type := tt, pos := pos, after := after, guard := g } a w K Q := wk_run (rnb_loadA rfl hx hg ht) h
theorem wkb_loadP (hx : a.eval x = .pointer (some ⟨b, off, none⟩)) (hg : w.heap[b]? = some (.cells cs T fr)) (ht : aggSize P ty = some n) (hm : cs.extract off (off + n) = m) (hn : off + n ≤ cs.size) (h : K (a.put d (.agg m)) w) :
    Oper.wp P { dst := d, op := .load ty x, type := tt, pos := pos, after := after, guard := g } a w K Q := wk_run (rnb_loadP rfl hx hg ht hm hn) h
theorem wg_run {op : Op} {v : Value} {w' : World} (hg : Region.wanted { dst := d, op := op, type := tt, pos := pos, after := after, guard := g } (yielded ops a.tmps) = true) (hr : (execOp a.eval { dst := d, op := op, type := tt, pos := pos, after := after, guard := g }).run P w = .ok (.value v) w')
    (h : wpList P ops Q rest (a.put d v) w') : wpList P ops Q ({ dst := d, op := op, type := tt, pos := pos, after := after, guard := g } :: rest) a w :=
  wl_want hg fun K hK => wk_run hr (hK _ _ h)
theorem wg_load1 {v : Value} (hgd : Region.wanted { dst := d, op := .load ty x, type := tt, pos := pos, after := after, guard := g } (yielded ops a.tmps) = true) (hx : a.eval x = .pointer (some ⟨b, off, none⟩)) (hg : w.heap[b]? = some (.cells cs T fr)) (ht : oneSize P ty = true) (hv : cs[off]? = some v) (h : wpList P ops Q rest (a.put d v) w) :
    wpList P ops Q ({ dst := d, op := .load ty x, type := tt, pos := pos, after := after, guard := g } :: rest) a w := wg_run hgd (rnb_load1 rfl hx hg ht hv) h
theorem wg_loadA (hgd : Region.wanted { dst := d, op := .load ty x, type := tt, pos := pos, after := after, guard := g } (yielded ops a.tmps) = true) (hx : a.eval x = .pointer (some ⟨b, 0, none⟩)) (hg : w.heap[b]? = some (.cells cs T fr)) (ht : aggSize P ty = some cs.size) (h : wpList P ops Q rest (a.put d (.agg cs)) w) :
    wpList P ops Q ({ dst := d, op := .load ty x, type := tt, pos := pos, after := after, guard := g } :: rest) a w := wg_run hgd (rnb_loadA rfl hx hg ht) h
theorem wg_loadP (hgd : Region.wanted { dst := d, op := .load ty x, type := tt, pos := pos, after := after, guard := g } (yielded ops a.tmps) = true) (hx : a.eval x = .pointer (some ⟨b, off, none⟩)) (hg : w.heap[b]? = some (.cells cs T fr)) (ht : aggSize P ty = some n) (hm : cs.extract off (off + n) = m) (hn : off + n ≤ cs.size) (h : wpList P ops Q rest (a.put d (.agg m)) w) :
    wpList P ops Q ({ dst := d, op := .load ty x, type := tt, pos := pos, after := after, guard := g } :: rest) a w := wg_run hgd (rnb_loadP rfl hx hg ht hm hn) h
theorem wb_store1 (hw : Sat E w H) (hx : a.eval x = .pointer (some ⟨b, off, none⟩)) (hk : Upd H (pt b (.cells cs T (0, 0))) (pt b (.cells cs' T (0, 0))) H') (v : Value) (hy : a.eval y = v) (hs : oneSize P ty = true) (hn : off < cs.size) (h1 : v.oneCell' = true)
    (hc : cs.setIfInBounds off v = cs') (h : ∀ w', Sat E w' H' → wpList P ops Q rest (a.put d undef) w') :
    wpList P ops Q ({ dst := d, op := .store ty x y, type := tt, pos := pos, after := after, guard := none } :: rest) a w := by
  obtain ⟨k, hk, rfl⟩ := hk; subst hc
  exact wl_store1 hw hx k hk v hy hs hn h1 h
theorem wb_storeA (hw : Sat E w H) (hx : a.eval x = .pointer (some ⟨b, 0, none⟩)) (hy : a.eval y = .agg vs) (hk : Upd H (pt b (.cells cs T (0, 0))) (pt b (.cells vs T (0, 0))) H') (hs : (P.info? ty).map (·.size) = some vs.size) (hn : vs.size = cs.size) (h1 : vs.all (·.oneCell') = true)
    (h : ∀ w', Sat E w' H' → wpList P ops Q rest (a.put d undef) w') :
    wpList P ops Q ({ dst := d, op := .store ty x y, type := tt, pos := pos, after := after, guard := none } :: rest) a w := by
  obtain ⟨k, hk, rfl⟩ := hk
  exact wl_store_all hw hx k hk hy hs hn h1 h
theorem wb_storeP (hw : Sat E w H) (hx : a.eval x = .pointer (some ⟨b, off, none⟩)) (vs : Array Value) (hy : a.eval y = .agg vs) (hk : Upd H (pt b (.cells cs T (0, 0))) (pt b (.cells cs' T (0, 0))) H') (hs : (P.info? ty).map (·.size) = some n) (hvn : vs.size = n) (hn : off + n ≤ cs.size) (h1 : vs.all (·.oneCell') = true)
    (hc : splice cs off vs = cs') (h : ∀ w', Sat E w' H' → wpList P ops Q rest (a.put d undef) w') :
    wpList P ops Q ({ dst := d, op := .store ty x y, type := tt, pos := pos, after := after, guard := none } :: rest) a w := by
  obtain ⟨k, hk, rfl⟩ := hk; subst hc
  exact wl_store hw hx k hk (.agg vs) hy hs hvn hn h1 h
theorem wkb_store1 (hw : Sat E w H) (hx : a.eval x = .pointer (some ⟨b, off, none⟩)) (hk : Upd H (pt b (.cells cs T (0, 0))) (pt b (.cells cs' T (0, 0))) H') (v : Value) (hy : a.eval y = v) (hs : oneSize P ty = true) (hn : off < cs.size) (h1 : v.oneCell' = true)
    (hc : cs.setIfInBounds off v = cs') (h : ∀ w', Sat E w' H' → K (a.put d undef) w') :
    Oper.wp P { dst := d, op := .store ty x y, type := tt, pos := pos, after := after, guard := g } a w K Q := by
  obtain ⟨k, hk, rfl⟩ := hk; subst hc
  exact wk_store1 hw hx k hk v hy hs hn h1 h
theorem wkb_storeA (hw : Sat E w H) (hx : a.eval x = .pointer (some ⟨b, 0, none⟩)) (hy : a.eval y = .agg vs) (hk : Upd H (pt b (.cells cs T (0, 0))) (pt b (.cells vs T (0, 0))) H') (hs : (P.info? ty).map (·.size) = some vs.size) (hn : vs.size = cs.size) (h1 : vs.all (·.oneCell') = true)
    (h : ∀ w', Sat E w' H' → K (a.put d undef) w') :
    Oper.wp P { dst := d, op := .store ty x y, type := tt, pos := pos, after := after, guard := g } a w K Q := by
  obtain ⟨k, hk, rfl⟩ := hk
  exact wk_store_all hw hx k hk hy hs hn h1 h
theorem wkb_storeP (hw : Sat E w H) (hx : a.eval x = .pointer (some ⟨b, off, none⟩)) (vs : Array Value) (hy : a.eval y = .agg vs) (hk : Upd H (pt b (.cells cs T (0, 0))) (pt b (.cells cs' T (0, 0))) H') (hs : (P.info? ty).map (·.size) = some n) (hvn : vs.size = n) (hn : off + n ≤ cs.size) (h1 : vs.all (·.oneCell') = true)
    (hc : splice cs off vs = cs') (h : ∀ w', Sat E w' H' → K (a.put d undef) w') :
    Oper.wp P { dst := d, op := .store ty x y, type := tt, pos := pos, after := after, guard := g } a w K Q := by
  obtain ⟨k, hk, rfl⟩ := hk; subst hc
  exact wk_store hw hx k hk (.agg vs) hy hs hvn hn h1 h
end
end Go.Bst
