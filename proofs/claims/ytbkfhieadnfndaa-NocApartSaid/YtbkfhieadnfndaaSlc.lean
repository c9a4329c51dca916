/- Slices of the call's own over heaps in part: what they hold, append, indexing, a literal slice. Conditions: none. -/
import Derived.Test.YtbkfhieadnfndaaEq
import Derived.Maps.AppendAt
set_option linter.unusedVariables false
set_option linter.unusedSimpArgs false
namespace Go.Bst
open Go.RowKit

def nilS : Value := .slice none 0 0
def emp : HP := fun _ => True
/-- A slice value with n elements of type e (sz cells each): nil, or the head of a block of its own; its cells are xs. -/
def Row (e : TypeId) (sz : Nat) (v : Value) (n : Nat) (xs : List Value) : HP := fun h =>
  (v = .slice none 0 0 ∧ n = 0 ∧ xs = []) ∨
  ∃ g cap cur, v = .slice (some ⟨g, 0, none⟩) n cap ∧ n ≤ cap ∧ cap ≤ maxLen ∧ cur.size = cap * sz ∧ cur.toList.take (n * sz) = xs ∧ xs.length = n * sz ∧ pt g (.cells cur e (0, 0)) h

section
variable {E : Env} {w w' : World} {H F : List HP} {e : TypeId} {sz n : Nat} {v : Value} {xs : List Value}
theorem Row_open (s : Sat E w (Row e sz v n xs :: F)) :
    (v = .slice none 0 0 ∧ n = 0 ∧ xs = [] ∧ Sat E w F) ∨
    ∃ g cap cur, v = .slice (some ⟨g, 0, none⟩) n cap ∧ n ≤ cap ∧ cap ≤ maxLen ∧ cur.size = cap * sz ∧ cur.toList.take (n * sz) = xs ∧ xs.length = n * sz ∧ Sat E w (pt g (.cells cur e (0, 0)) :: F) := by
  obtain ⟨h, h1, h2, d, hr, hs, rfl, hb⟩ := s.parts
  rcases hr with ⟨a, b, c⟩ | ⟨g, cap, cur, a1, a2, a3, a4, a5, a6, hp⟩
  · exact .inl ⟨a, b, c, s.tail⟩
  · refine .inr ⟨g, cap, cur, a1, a2, a3, a4, a5, a6, ?_⟩
    exact Sat.of_parts s d hp hs hb
theorem Row_nil (s : Sat E w F) : Sat E w (Row e sz (.slice none 0 0) 0 [] :: F) := s.cons_emp (fun h => .inl ⟨rfl, rfl, rfl⟩)
theorem Row_mk {g cap : Nat} {cur : Array Value} (h2 : n ≤ cap) (h3 : cap ≤ maxLen) (h4 : cur.size = cap * sz) (h5 : cur.toList.take (n * sz) = xs) (s : Sat E w (pt g (.cells cur e (0, 0)) :: F)) :
    Sat E w (Row e sz (.slice (some ⟨g, 0, none⟩) n cap) n xs :: F) :=
  s.imp fun h hp => .inr ⟨g, cap, cur, rfl, h2, h3, h4, h5, by
    rw [← h5, List.length_take, Array.length_toList, h4]
    exact Nat.min_eq_left (Nat.mul_le_mul_right _ h2), hp⟩
theorem Row_len (s : Sat E w H) (k : Nat) (hk : H[k]? = some (Row e sz v n xs)) : xs.length = n * sz := by
  rcases Row_open (s.front k hk) with ⟨_, rfl, rfl, _⟩ | ⟨_, _, _, _, _, _, _, _, h, _⟩
  · simp
  · exact h
/-- It is what the kit's laws take. -/
theorem Row_owns (s : Sat E w H) (k : Nat) (hk : H[k]? = some (Row e sz v n xs)) : w.ownsRow 0 e sz v n xs := by
  rcases Row_open (s.front k hk) with ⟨rfl, rfl, rfl, _⟩ | ⟨g, cap, cur, rfl, h2, h3, h4, h5, h6, s'⟩
  · exact ⟨by simp, .inl ⟨rfl, rfl⟩⟩
  · exact ⟨h6, .inr ⟨g, cap, cur, rfl, Nat.zero_le _, s'.read 0 rfl, h2, h3, h4, h5⟩⟩
/-- The slice's value. -/
theorem Row_val (s : Sat E w H) (k : Nat) (hk : H[k]? = some (Row e sz v n xs)) : ∃ A cap, v = .slice A n cap ∧ n ≤ cap ∧ (0 < n → ∃ g, A = some ⟨g, 0, none⟩) := by
  rcases Row_open (s.front k hk) with ⟨rfl, rfl, rfl, _⟩ | ⟨g, cap, cur, rfl, h2, h3, h4, h5, h6, s'⟩
  · exact ⟨none, 0, rfl, by omega, by omega⟩
  · exact ⟨_, cap, rfl, h2, fun _ => ⟨g, rfl⟩⟩
end

theorem blk_cells {E : Env} {w : World} {H : List HP} {b : Nat} {cs : Array Value} {T : TypeId} {fr : Nat × Nat} (s : Sat E w H) (k : Nat) (hk : H[k]? = some (pt b (.cells cs T fr))) :
    ∀ j u, cs.toList[j]? = some u → w.cell? ((⟨b, 0, none⟩ : Addr).add j) = some u := fun j u hu => by
  rw [add_at, Nat.zero_add, cell_of_row w b j cs T fr (s.read k hk)]; simpa using hu
/-! ### slices that are read -/
/-- A slice value of n elements (sz cells each) reads as the cells xs. -/
def Rd (w : World) (sz : Nat) (v : Value) (n : Nat) (xs : List Value) : Prop :=
  ∃ A cap, v = .slice A n cap ∧ n ≤ cap ∧ xs.length = n * sz ∧ (0 < n → ∃ ad, A = some ad ∧ ∀ j u, xs[j]? = some u → w.cell? (ad.add j) = some u)
/-- What was there is as it was. -/
def Sub (W w : World) : Prop := ∀ b, b < W.heap.size → w.heap[b]? = W.heap[b]?
theorem Sub.refl (w : World) : Sub w w := fun _ _ => rfl
theorem Sub.drewN (w : World) (n : Nat) : Sub w (w.drewN n) := fun _ _ => rfl
theorem Sub.trans {a b c : World} (h : Sub a b) (k : Sub b c) : Sub a c := fun i hi => by
  rw [k i ?_, h i hi]
  have := h i hi
  rw [Array.getElem?_eq_getElem hi] at this
  rcases Nat.lt_or_ge i b.heap.size with hl | hge
  · exact hl
  · rw [Array.getElem?_eq_none hge] at this; cases this
theorem Sub.cell {W w : World} (h : Sub W w) {a : Addr} {u : Value} (hc : W.cell? a = some u) : w.cell? a = some u := by
  have hb := block_lt_of_cell hc
  rw [World.cell?_of_block (h _ hb), hc]
theorem Sat.subOld {E : Env} {W w : World} {H : List HP} (s : Sat E w H) (k : Nat) (h : H[k]? = some (Old W)) : Sub W w := fun _ hb => s.old k h hb
theorem Rd.sub {W w : World} {sz n : Nat} {v : Value} {xs : List Value} (h : Sub W w) (r : Rd W sz v n xs) : Rd w sz v n xs := by
  obtain ⟨A, cap, h1, h2, h3, h4⟩ := r
  exact ⟨A, cap, h1, h2, h3, fun hn => let ⟨ad, e, hc⟩ := h4 hn; ⟨ad, e, fun j u hu => h.cell (hc j u hu)⟩⟩
theorem Rd.drewN {w : World} {sz n : Nat} {v : Value} {xs : List Value} (r : Rd w sz v n xs) (k : Nat) : Rd (w.drewN k) sz v n xs := r.sub (Sub.drewN w k)
theorem Rd.nil (w : World) (sz : Nat) : Rd w sz (.slice none 0 0) 0 [] := ⟨none, 0, rfl, Nat.le_refl _, by simp, fun h => absurd h (by omega)⟩
theorem Rd_row {E : Env} {w : World} {H : List HP} {e : TypeId} {sz n : Nat} {v : Value} {xs : List Value} (s : Sat E w H) (k : Nat) (hk : H[k]? = some (Row e sz v n xs)) : Rd w sz v n xs := by
  have o := Row_owns s k hk
  rcases Row_open (s.front k hk) with ⟨rfl, rfl, rfl, _⟩ | ⟨g, cap, cur, rfl, h2, h3, h4, h5, h6, s'⟩
  · exact Rd.nil w sz
  · exact ⟨_, cap, rfl, h2, h6, fun _ => ⟨_, rfl, o.cells rfl⟩⟩
theorem Rd_blk {E : Env} {w : World} {H : List HP} {sz n g cap : Nat} {cur : Array Value} {T : TypeId} {fr : Nat × Nat} (s : Sat E w H) (k : Nat) (hk : H[k]? = some (pt g (.cells cur T fr))) (h1 : n ≤ cap) (xs : List Value) (h2 : xs.length = n * sz) (h3 : xs = cur.toList.take (n * sz)) :
    Rd w sz (.slice (some ⟨g, 0, none⟩) n cap) n xs :=
  ⟨_, cap, rfl, h1, h2, fun _ => ⟨_, rfl, fun j u hu => by
    rw [add_at, Nat.zero_add, cell_of_row w g j cur T fr (s.read k hk)]
    rw [h3, List.getElem?_take] at hu
    split at hu
    · simpa using hu
    · cases hu⟩⟩

theorem add_add (a : Addr) (i j : Nat) : (a.add i).add j = a.add (i + j) := by
  unfold Addr.add
  by_cases hi : i = 0 <;> by_cases hj : j = 0 <;> simp [hi, hj, Nat.add_assoc]
/-- A part of it. -/
theorem Rd.cut {w : World} {sz n k cap : Nat} {A : Option Addr} {xs : List Value} (r : Rd w sz (.slice A n cap) n xs) (hk : k ≤ n) :
    Rd w sz (.slice (if cap = k then A else A.map (·.add (k * sz))) (n - k) (cap - k)) (n - k) (xs.drop (k * sz)) := by
  obtain ⟨A', cap', h1, h2, h3, h4⟩ := r
  injection h1 with e1 _ e2
  subst e1; subst e2
  refine ⟨_, _, rfl, by omega, by rw [List.length_drop, h3, Nat.sub_mul], fun hn => ?_⟩
  obtain ⟨ad, rfl, hc⟩ := h4 (by omega)
  rw [if_neg (by omega)]
  refine ⟨ad.add (k * sz), rfl, fun j u hu => ?_⟩
  rw [add_add]
  exact hc _ u (by rw [← hu, List.getElem?_drop])
theorem Rd.upto {w : World} {sz n k cap : Nat} {A : Option Addr} {xs : List Value} (r : Rd w sz (.slice A n cap) n xs) (hk : k ≤ n) :
    Rd w sz (.slice A k cap) k (xs.take (k * sz)) := by
  obtain ⟨A', cap', h1, h2, h3, h4⟩ := r
  injection h1 with e1 _ e2
  subst e1; subst e2
  refine ⟨_, _, rfl, by omega, by rw [List.length_take, h3]; exact Nat.min_eq_left (Nat.mul_le_mul_right _ hk), fun hn => ?_⟩
  obtain ⟨ad, rfl, hc⟩ := h4 (by omega)
  refine ⟨ad, rfl, fun j u hu => hc j u ?_⟩
  rw [List.getElem?_take] at hu
  split at hu
  · exact hu
  · cases hu

/-- Rows of structs: their cells, one behind the other. -/
def flat (l : List (Array Value)) : List Value := (l.map Array.toList).flatten
theorem flat_nil : flat [] = [] := rfl
theorem flat_app (l m : List (Array Value)) : flat (l ++ m) = flat l ++ flat m := by simp [flat]
theorem flat_one (m : Array Value) : flat [m] = m.toList := by simp [flat]
theorem flat_len {sz : Nat} : ∀ {l : List (Array Value)}, (∀ m ∈ l, m.size = sz) → (flat l).length = l.length * sz
  | [], _ => by simp [flat]
  | m :: l, h => by
    have := flat_len (l := l) (fun x hx => h x (by simp [hx]))
    have hm := h m (by simp)
    simp only [flat, List.map_cons, List.flatten_cons, List.length_append, Array.length_toList, List.length_cons, Nat.succ_mul] at this ⊢
    omega
theorem flat_take {sz : Nat} : ∀ {l : List (Array Value)} (k : Nat), (∀ m ∈ l, m.size = sz) → (flat l).take (k * sz) = flat (l.take k)
  | [], k, _ => by simp [flat]
  | m :: l, 0, h => by simp [flat]
  | m :: l, k + 1, h => by
    have := flat_take (l := l) k (fun x hx => h x (by simp [hx]))
    have hm := h m (by simp)
    simp only [flat, List.map_cons, List.flatten_cons, List.take_succ_cons] at this ⊢
    rw [List.take_append, Array.length_toList, hm, List.take_of_length_le (by rw [Array.length_toList, hm, Nat.succ_mul]; omega), ← this]
    congr 2
    rw [Nat.succ_mul]; omega
theorem flat_drop {sz : Nat} : ∀ {l : List (Array Value)} (k : Nat), (∀ m ∈ l, m.size = sz) → (flat l).drop (k * sz) = flat (l.drop k)
  | [], k, _ => by simp [flat]
  | m :: l, 0, h => by simp [flat]
  | m :: l, k + 1, h => by
    have := flat_drop (l := l) k (fun x hx => h x (by simp [hx]))
    have hm := h m (by simp)
    simp only [flat, List.map_cons, List.flatten_cons, List.drop_succ_cons] at this ⊢
    rw [List.drop_append, Array.length_toList, hm, List.drop_of_length_le (by rw [Array.length_toList, hm, Nat.succ_mul]; omega), List.nil_append, ← this]
    congr 1
    rw [Nat.succ_mul]; omega
theorem flat_at {sz k : Nat} {l : List (Array Value)} {m : Array Value} (h : ∀ m ∈ l, m.size = sz) (hk : l[k]? = some m) {j : Nat} {u : Value} (hu : m.toList[j]? = some u) : (flat l)[k * sz + j]? = some u := by
  rw [← List.getElem?_drop, flat_drop k h]
  obtain ⟨hlt, e⟩ := List.getElem?_eq_some_iff.1 hk
  rw [List.drop_eq_getElem_cons hlt, e]
  simp only [flat, List.map_cons, List.flatten_cons]
  rw [List.getElem?_append_left (List.getElem?_eq_some_iff.1 hu).1]
  exact hu

section
variable {P : Program} {w : World}
theorem rn_indexAddr {o : Oper} {a : Act} {t el : TypeId} {x ix : Operand} {A : Option Addr} {ad : Addr} {n cap sz : Nat} {i : Int} (ho : o.op = .indexAddr t x ix) (hx : a.eval x = .slice A n cap) (hix : a.eval ix = .int .i64 i)
    (hu : P.underlying t = some (.slice el)) (hs : (P.info? el).map (·.size) = some sz) (hA : A = some ad) (h0 : 0 ≤ i) (h1 : i < n) :
    (execOp a.eval o).run P w = .ok (.value (.pointer (some (ad.add (i.toNat * sz))))) w := by
  obtain ⟨f, f1, f2⟩ := info_of hs
  subst hA
  unfold execOp
  simp [ho, hx, hix, Instr.indexAt, asIntOf, run_underlying hu, sizeOf, typeInfo, f1, f2, h0, h1]
theorem rn_load_agg {o : Oper} {a : Act} {ty : TypeId} {x : Operand} {ad : Addr} {m : Array Value} (ho : o.op = .load ty x) (hx : a.eval x = .pointer (some ad)) (ht : aggSize P ty = some m.size)
    (hc : ∀ j u, m.toList[j]? = some u → w.cell? (ad.add j) = some u) : (execOp a.eval o).run P w = .ok (.value (.agg m)) w := by
  obtain ⟨h1, i, h2, h3⟩ := run_isAgg_yes ht w
  have hl := run_loadCells_list (P := P) w ad m.toList (fun j v hv => hc j v hv)
  rw [Array.length_toList, Array.toArray_toList] at hl
  unfold execOp
  simp [ho, Instr.loadAt, hx, Instr.sureAddr, loadVar, h1, sizeOf, typeInfo, h2, h3, hl]
theorem rn_load_one {o : Oper} {a : Act} {ty : TypeId} {x : Operand} {ad : Addr} {v : Value} (ho : o.op = .load ty x) (hx : a.eval x = .pointer (some ad)) (ht : oneSize P ty = true)
    (hc : w.cell? ad = some v) : (execOp a.eval o).run P w = .ok (.value v) w := by
  obtain ⟨h1, i, h2, h3⟩ := run_isAgg_no ht w
  unfold execOp
  simp [ho, Instr.loadAt, hx, Instr.sureAddr, loadVar, h1, load, Sem.run, hc]
theorem rn_blk1 {o : Oper} {a : Act} {ty : TypeId} {x : Operand} {b off : Nat} {cs : Array Value} {T : TypeId} {fr : Nat × Nat} {v : Value} (ho : o.op = .load ty x) (hx : a.eval x = .pointer (some ⟨b, off, none⟩)) (ht : oneSize P ty = true)
    (hg : w.heap[b]? = some (.cells cs T fr)) (hv : cs[off]? = some v) : (execOp a.eval o).run P w = .ok (.value v) w := rn_load_one ho hx ht (by rw [cell_of_row w b off cs T fr hg, hv])
theorem rn_blkA {o : Oper} {a : Act} {ty : TypeId} {x : Operand} {b : Nat} {cs : Array Value} {T : TypeId} {fr : Nat × Nat} (ho : o.op = .load ty x) (hx : a.eval x = .pointer (some ⟨b, 0, none⟩)) (ht : aggSize P ty = some cs.size)
    (hg : w.heap[b]? = some (.cells cs T fr)) : (execOp a.eval o).run P w = .ok (.value (.agg cs)) w := rn_load_agg ho hx ht (fun j u hu => by
      rw [add_at, Nat.zero_add, cell_of_row w b j cs T fr hg]; simpa using hu)
theorem rn_slice {o : Oper} {a : Act} {t el : TypeId} {x : Operand} {lo hi : Option Operand} {A : Option Addr} {n cap sz l h : Nat} (ho : o.op = .slice t x lo hi none) (hx : a.eval x = .slice A n cap)
    (hu : P.underlying t = some (.slice el)) (hs : (P.info? el).map (·.size) = some sz) (hlo : (lo.map a.eval = none ∧ l = 0) ∨ lo.map a.eval = some (.int .i64 l)) (hhi : (hi.map a.eval = none ∧ h = n) ∨ hi.map a.eval = some (.int .i64 h))
    (h1 : l ≤ h) (h2 : h ≤ cap) : (execOp a.eval o).run P w = .ok (.value (.slice (if cap = l then A else A.map (·.add (l * sz))) (h - l) (cap - l))) w := by
  obtain ⟨f, f1, f2⟩ := info_of hs
  have e : (Instr.sliceBounds true n cap (lo.map a.eval) (hi.map a.eval) none).run P w = .ok (l, h, cap) w := by
    unfold Instr.sliceBounds
    rcases hlo with ⟨e1, rfl⟩ | e1 <;> rcases hhi with ⟨e2, rfl⟩ | e2 <;> simp [e1, e2, Instr.sliceBound, asIntOf, h1, h2]
  unfold execOp
  simp [ho, hx, Instr.sliceAt, Instr.slice, run_underlying hu, e, sizeOf, typeInfo, f1, f2]

theorem fold_list : ∀ (l : List Value) (k : Nat) (old : Array Value), k + l.length ≤ old.size → (l.zipIdx k).foldl (fun (acc : Array Value) (p : Value × Nat) => acc.setIfInBounds p.2 p.1) old = (old.toList.take k ++ l ++ old.toList.drop (k + l.length)).toArray
  | [], k, old, _ => by simp
  | v :: l, k, old, h => by
    simp only [List.length_cons] at h
    rw [List.zipIdx_cons, List.foldl_cons, fold_list l (k + 1) _ (by simp; omega)]
    apply Array.toList_inj.1
    simp only [Array.toList_setIfInBounds]
    apply List.ext_getElem?
    intro j
    simp only [List.getElem?_append, List.length_take, List.length_append, List.length_set, Array.length_toList, List.getElem?_take, List.getElem?_drop, List.getElem?_set, List.length_cons, List.getElem?_cons]
    rcases Nat.lt_trichotomy j k with hj | rfl | hj
    · simp [show min (k + 1) old.size = k + 1 by omega, show min k old.size = k by omega, hj, show j < k + 1 by omega, show ¬ k = j by omega, show j < k + 1 + l.length by omega, show j < k + (l.length + 1) by omega]
    · simp [show min (j + 1) old.size = j + 1 by omega, show min j old.size = j by omega, show j < old.size by omega]
      omega
    · have e1 : min (k + 1) old.size = k + 1 := by omega
      have e2 : min k old.size = k := by omega
      have e3 : ¬ j < k + 1 := by omega
      have e4 : ¬ j < k := by omega
      have e5 : ¬ j - k = 0 := by omega
      have e6 : j - k - 1 = j - (k + 1) := by omega
      have e7 : ¬ k = k + 1 + l.length + (j - (k + 1 + l.length)) := by omega
      have e8 : (j < k + 1 + l.length) = (j < k + (l.length + 1)) := by rw [show k + 1 + l.length = k + (l.length + 1) by omega]
      have e9 : k + 1 + l.length + (j - (k + 1 + l.length)) = k + (l.length + 1) + (j - (k + (l.length + 1))) := by omega
      simp only [e1, e2, e3, e4, e5, e6, e8, if_false]
      by_cases hl : j < k + (l.length + 1)
      · simp only [hl, if_true]
      · simp only [hl, if_false, e7, ← e9]
theorem fold_all (cs old : Array Value) (h : cs.size = old.size) : cs.zipIdx.foldl (fun acc (c, j) => acc.setIfInBounds (0 + j) c) old = cs := by
  have := fold_list cs.toList 0 old (by simp; omega)
  rw [← Array.foldl_toList, Array.toList_zipIdx]
  simp only [Nat.zero_add]
  rw [this]
  apply Array.toList_inj.1
  simp only [List.take_zero, List.nil_append, Nat.zero_add]
  rw [List.drop_of_length_le (by simp; omega), List.append_nil]
section laws
variable {ops : Array Oper} {Q : Exit → Act → World → Prop} {rest : List Oper} {d : Option Tmp} {ty tt t el : TypeId} {pos : String} {after : Array Edge} {a : Act} {E : Env} {H : List HP} {x ix : Operand}
/-- A quiet operation, in whatever world behind draws. -/
theorem wq_run {op : Op} {v : Value} {Q : Act → Prop} (hr : ∀ n, (execOp a.eval { dst := d, op := op, type := tt, pos := pos, after := after, guard := none }).run P (w.drewN n) = .ok (.value v) (w.drewN n))
    (h : wpQuiet P ops (fun w' => ∃ n, w' = w.drewN n) Q rest (a.put d v)) : wpQuiet P ops (fun w' => ∃ n, w' = w.drewN n) Q ({ dst := d, op := op, type := tt, pos := pos, after := after, guard := none } :: rest) a :=
  wpQuiet_step fun K hK => by
    rw [if_pos (by simp [Region.wanted])]
    refine ⟨v, ?_, hK _ h⟩
    rintro _ ⟨n, rfl⟩
    unfold Oper.quietAt
    rw [hr n]
    exact ⟨rfl, rfl⟩
theorem qk_run {o : Oper} {v : Value} {K : Act → Prop} (hr : ∀ n, (execOp a.eval o).run P (w.drewN n) = .ok (.value v) (w.drewN n)) (h : K (a.put o.dst v)) : o.quiet P a (fun w' => ∃ n, w' = w.drewN n) K := by
  refine ⟨v, ?_, h⟩
  rintro _ ⟨n, rfl⟩
  unfold Oper.quietAt
  rw [hr n]
  exact ⟨rfl, rfl⟩
theorem qk_index {o : Oper} {A : Option Addr} {ad : Addr} {n cap sz : Nat} {i : Int} {K : Act → Prop} (ho : o.op = .indexAddr t x ix) (hx : a.eval x = .slice A n cap) (hix : a.eval ix = .int .i64 i)
    (hu : P.underlying t = some (.slice el)) (hs : (P.info? el).map (·.size) = some sz) (hA : A = some ad) (h0 : 0 ≤ i) (h1 : i < n) (h : K (a.put o.dst (.pointer (some (ad.add (i.toNat * sz)))))) :
    o.quiet P a (fun w' => ∃ n, w' = w.drewN n) K := qk_run (fun _ => rn_indexAddr ho hx hix hu hs hA h0 h1) h
theorem qk_ldA {o : Oper} {ad : Addr} {m : Array Value} {K : Act → Prop} (ho : o.op = .load ty x) (hx : a.eval x = .pointer (some ad)) (ht : aggSize P ty = some m.size)
    (hc : ∀ j u, m.toList[j]? = some u → w.cell? (ad.add j) = some u) (h : K (a.put o.dst (.agg m))) : o.quiet P a (fun w' => ∃ n, w' = w.drewN n) K := qk_run (fun _ => rn_load_agg ho hx ht hc) h
theorem qk_ld1 {o : Oper} {ad : Addr} {v : Value} {K : Act → Prop} (ho : o.op = .load ty x) (hx : a.eval x = .pointer (some ad)) (ht : oneSize P ty = true)
    (hc : w.cell? ad = some v) (h : K (a.put o.dst v)) : o.quiet P a (fun w' => ∃ n, w' = w.drewN n) K := qk_run (fun _ => rn_load_one ho hx ht hc) h
theorem qk_eql {o : Oper} {y : Operand} {yt : TypeId} {d : Nat} {t : TypeId} {ks : List SK} {K : Act → Prop} (ho : o.op = .binOp .eql t x y yt) (xs ys : Array Value) (e1 : a.eval x = .agg xs) (e2 : a.eval y = .agg ys) (h : skinds P d t = some ks) (hd : d ≤ 10000) (ha : aggSize P t ≠ none) (hg : P.eqGuardType P.depth t = false) (hx : fitAll ks xs.toList) (hy : fitAll ks ys.toList)
    (b : Bool) (hb : same xs ys = b) (hk : K (a.put o.dst (.bool b))) : o.quiet P a (fun w' => ∃ n, w' = w.drewN n) K := by
  subst hb; exact qk_run (fun _ => rn_eql_agg ho xs ys e1 e2 h hd ha hg hx hy) hk
theorem qk_neq {o : Oper} {y : Operand} {yt : TypeId} {d : Nat} {t : TypeId} {ks : List SK} {K : Act → Prop} (ho : o.op = .binOp .neq t x y yt) (xs ys : Array Value) (e1 : a.eval x = .agg xs) (e2 : a.eval y = .agg ys) (h : skinds P d t = some ks) (hd : d ≤ 10000) (ha : aggSize P t ≠ none) (hg : P.eqGuardType P.depth t = false) (hx : fitAll ks xs.toList) (hy : fitAll ks ys.toList)
    (b : Bool) (hb : (!same xs ys) = b) (hk : K (a.put o.dst (.bool b))) : o.quiet P a (fun w' => ∃ n, w' = w.drewN n) K := by
  subst hb; exact qk_run (fun _ => rn_neq_agg ho xs ys e1 e2 h hd ha hg hx hy) hk
theorem rn_index {o : Oper} {A : Option Addr} {n cap sz : Nat} {xs : List Value} (ho : o.op = .indexAddr t x ix) (i : Int) (r : Rd w sz (.slice A n cap) n xs) (hx : a.eval x = .slice A n cap) (hix : a.eval ix = .int .i64 i)
    (hu : P.underlying t = some (.slice el)) (hs : (P.info? el).map (·.size) = some sz) (h0 : 0 ≤ i) (h1 : i < n) (ad : Addr) (hA : A = some ad) :
    (execOp a.eval o).run P w = .ok (.value (.pointer (some (ad.add (i.toNat * sz))))) w := rn_indexAddr ho hx hix hu hs hA h0 h1
theorem Rd.addr {A : Option Addr} {n cap sz : Nat} {xs : List Value} (r : Rd w sz (.slice A n cap) n xs) (h : 0 < n) : ∃ ad, A = some ad ∧ ∀ j u, xs[j]? = some u → w.cell? (ad.add j) = some u := by
  obtain ⟨A', cap', e, _, _, h4⟩ := r
  injection e with e1 _ e2
  subst e1
  exact h4 h
theorem Rd.form {n sz : Nat} {xs : List Value} {v : Value} (r : Rd w sz v n xs) : ∃ A cap, v = .slice A n cap ∧ n ≤ cap := let ⟨A, cap, h, h2, _⟩ := r; ⟨A, cap, h, h2⟩
theorem wl_index {A : Option Addr} {n cap sz : Nat} {xs : List Value} (i : Int) (r : Rd w sz (.slice A n cap) n xs) (hx : a.eval x = .slice A n cap) (hix : a.eval ix = .int .i64 i)
    (hu : P.underlying t = some (.slice el)) (hs : (P.info? el).map (·.size) = some sz) (h0 : 0 ≤ i) (h1 : i < n)
    (h : ∀ ad, A = some ad → (∀ j u, xs[j]? = some u → w.cell? (ad.add j) = some u) → wpList P ops Q rest (a.put d (.pointer (some (ad.add (i.toNat * sz))))) w) :
    wpList P ops Q ({ dst := d, op := .indexAddr t x ix, type := tt, pos := pos, after := after, guard := none } :: rest) a w := by
  obtain ⟨A', cap', e, _, _, h4⟩ := r
  injection e with e1 _ e2
  subst e1; subst e2
  obtain ⟨ad, e, hc⟩ := h4 (by omega)
  exact wl_run (rn_indexAddr rfl hx hix hu hs e h0 h1) (h ad e hc)
theorem wq_index {A : Option Addr} {n cap sz : Nat} {xs : List Value} {Q : Act → Prop} (i : Int) (r : Rd w sz (.slice A n cap) n xs) (hx : a.eval x = .slice A n cap) (hix : a.eval ix = .int .i64 i)
    (hu : P.underlying t = some (.slice el)) (hs : (P.info? el).map (·.size) = some sz) (h0 : 0 ≤ i) (h1 : i < n)
    (h : ∀ ad, A = some ad → (∀ j u, xs[j]? = some u → w.cell? (ad.add j) = some u) → wpQuiet P ops (fun w' => ∃ n, w' = w.drewN n) Q rest (a.put d (.pointer (some (ad.add (i.toNat * sz)))))) :
    wpQuiet P ops (fun w' => ∃ n, w' = w.drewN n) Q ({ dst := d, op := .indexAddr t x ix, type := tt, pos := pos, after := after, guard := none } :: rest) a := by
  obtain ⟨A', cap', e, _, _, h4⟩ := r
  injection e with e1 _ e2
  subst e1; subst e2
  obtain ⟨ad, e, hc⟩ := h4 (by omega)
  exact wq_run (fun _ => rn_indexAddr rfl hx hix hu hs e h0 h1) (h ad e hc)
theorem cells_at {sz : Nat} {l : List (Array Value)} {ad : Addr} (hc : ∀ j u, (flat l)[j]? = some u → w.cell? (ad.add j) = some u) (hm : ∀ m ∈ l, m.size = sz) {k : Nat} {m : Array Value} (hk : l[k]? = some m) :
    ∀ j u, m.toList[j]? = some u → w.cell? ((ad.add (k * sz)).add j) = some u := fun j u hu => by
  rw [add_add]; exact hc _ u (flat_at hm hk hu)
theorem wl_ldA {ad : Addr} {m : Array Value} (hx : a.eval x = .pointer (some ad)) (ht : aggSize P ty = some m.size) (hc : ∀ j u, m.toList[j]? = some u → w.cell? (ad.add j) = some u)
    (h : wpList P ops Q rest (a.put d (.agg m)) w) : wpList P ops Q ({ dst := d, op := .load ty x, type := tt, pos := pos, after := after, guard := none } :: rest) a w :=
  wl_run (rn_load_agg rfl hx ht hc) h
theorem wq_ldA {ad : Addr} {m : Array Value} {Q : Act → Prop} (hx : a.eval x = .pointer (some ad)) (ht : aggSize P ty = some m.size) (hc : ∀ j u, m.toList[j]? = some u → w.cell? (ad.add j) = some u)
    (h : wpQuiet P ops (fun w' => ∃ n, w' = w.drewN n) Q rest (a.put d (.agg m))) : wpQuiet P ops (fun w' => ∃ n, w' = w.drewN n) Q ({ dst := d, op := .load ty x, type := tt, pos := pos, after := after, guard := none } :: rest) a :=
  wq_run (fun _ => rn_load_agg rfl hx ht hc) h
theorem wl_ld1 {ad : Addr} {v : Value} (hx : a.eval x = .pointer (some ad)) (ht : oneSize P ty = true) (hc : w.cell? ad = some v)
    (h : wpList P ops Q rest (a.put d v) w) : wpList P ops Q ({ dst := d, op := .load ty x, type := tt, pos := pos, after := after, guard := none } :: rest) a w :=
  wl_run (rn_load_one rfl hx ht hc) h
theorem wq_ld1 {ad : Addr} {v : Value} {Q : Act → Prop} (hx : a.eval x = .pointer (some ad)) (ht : oneSize P ty = true) (hc : w.cell? ad = some v)
    (h : wpQuiet P ops (fun w' => ∃ n, w' = w.drewN n) Q rest (a.put d v)) : wpQuiet P ops (fun w' => ∃ n, w' = w.drewN n) Q ({ dst := d, op := .load ty x, type := tt, pos := pos, after := after, guard := none } :: rest) a :=
  wq_run (fun _ => rn_load_one rfl hx ht hc) h
theorem wl_slice {lo hi : Option Operand} {A : Option Addr} {n cap sz : Nat} (l h : Nat) (hx : a.eval x = .slice A n cap)
    (hu : P.underlying t = some (.slice el)) (hs : (P.info? el).map (·.size) = some sz) (hlo : (lo.map a.eval = none ∧ l = 0) ∨ lo.map a.eval = some (.int .i64 l)) (hhi : (hi.map a.eval = none ∧ h = n) ∨ hi.map a.eval = some (.int .i64 h))
    (h1 : l ≤ h) (h2 : h ≤ cap) (hh : ∀ A', Kp (A' = if cap = l then A else A.map (·.add (l * sz))) → wpList P ops Q rest (a.put d (.slice A' (h - l) (cap - l))) w) :
    wpList P ops Q ({ dst := d, op := .slice t x lo hi none, type := tt, pos := pos, after := after, guard := none } :: rest) a w :=
  wl_run (rn_slice rfl hx hu hs hlo hhi h1 h2) (hh _ (Kp.mk rfl))
/-- A literal slice of one element. -/
theorem wl_lit1 {v : Value} {sz : Nat} (hw : Sat E w H) (hx : a.eval x = v) (hu : P.underlying ty = some (.slice el)) (hs : (P.info? el).map (·.size) = some sz) (hz : (zeroOf P el).map (·.cells.size) = some sz) (hv : v.cells.size = sz) (hb : sz ≤ 16777216) (h0 : 0 < sz)
    (h : ∀ b w', Sat E w' (pt b (.cells v.cells el) :: H) → wpList P ops Q rest (a.put d (.slice (some ⟨b, 0, none⟩) 1 1)) w') :
    wpList P ops Q ({ dst := d, op := .buildSlice ty 1 #[(0, x)], type := tt, pos := pos, after := after, guard := none } :: rest) a w := by
  obtain ⟨f, f1, f2⟩ := info_of hs
  cases hzz : zeroOf P el with
  | none => simp [hzz] at hz
  | some z =>
    have hzs : z.cells.size = sz := by simpa [hzz] using hz
    refine wl_run (v := .slice (some ⟨w.heap.size, 0, none⟩) 1 1) (w' := w.alloc (.cells v.cells el)) ?_ (h _ _ (hw.alloc _))
    have hfill : ∀ g : Nat → Value, Instr.fill (fun i => some (i * sz, sz)) ((Array.range sz).map g) [(0, v)] = some v.cells := by
      intro g
      simp only [Instr.fill, Nat.zero_mul, hv, ne_eq, not_true_eq_false, Nat.zero_add, Array.size_map, Array.size_range, gt_iff_lt, Nat.lt_irrefl, or_self, decide_false, Bool.or_self, Bool.false_eq_true, if_false, Option.some.injEq]
      have := fold_all v.cells ((Array.range sz).map g) (by simp [hv])
      simpa using this
    have hn : ¬ (1 * sz > 2 ^ 24) := by omega
    have h00 : ¬ (1 * sz = 0) := by omega
    simp [execOp, Instr.buildSlice, hx, run_underlying hu, sizeOf, typeInfo, f1, f2, hn, h00, run_zeroValue hzz, newRow, newObj, Sem.run]
    rw [if_neg (by omega), if_neg (by omega), hfill]
    rfl
/-- A literal slice without elements: not nil, a block of its own without cells. -/
theorem wl_lit0 {sz : Nat} (hw : Sat E w H) (hu : P.underlying ty = some (.slice el)) (hs : (P.info? el).map (·.size) = some sz)
    (h : ∀ b w', Sat E w' (Row el sz (.slice (some ⟨b, 0, none⟩) 0 0) 0 [] :: H) → wpList P ops Q rest (a.put d (.slice (some ⟨b, 0, none⟩) 0 0)) w') :
    wpList P ops Q ({ dst := d, op := .buildSlice ty 0 #[], type := tt, pos := pos, after := after, guard := none } :: rest) a w := by
  obtain ⟨f, f1, f2⟩ := info_of hs
  refine wl_run (v := .slice (some ⟨w.heap.size, 0, none⟩) 0 0) (w' := w.alloc (.cells #[] el)) ?_ (h _ _ ?_)
  · simp [execOp, Instr.buildSlice, run_underlying hu, sizeOf, typeInfo, f1, f2, newRow, newObj, Sem.run, Instr.fill]
    rw [show Array.range 0 = #[] from Array.eq_empty_of_size_eq_zero (by simp)]
    simp
  · exact Row_mk (Nat.le_refl _) (by simp [maxLen]) (by simp) (by simp) (hw.alloc _)
theorem run_append_nil_src (t ty e : TypeId) (i : TypeInfo) (ht : P.underlying t = some (.slice e)) (hi : P.info? e = some i) {A : Option Addr} {n cap : Nat} (hn : n ≤ cap) (c : Nat) (v : Value) (hv : v = .slice A n cap) (hA : A = none → n = 0 ∧ cap = 0) :
    (Builtin.append_ #[t, t] ty #[v, .slice none 0 c]).run P w = .ok v w := by
  subst hv
  cases A with
  | none => obtain ⟨rfl, rfl⟩ := hA rfl; simp [Builtin.append_, run_underlying ht, sizeOf, typeInfo, hi, Builtin.lenOf, Builtin.firstCells]
  | some ad => simp [Builtin.append_, run_underlying ht, sizeOf, typeInfo, hi, Builtin.lenOf, Builtin.firstCells, hn, storeCells]
theorem Row_grow {w' : World} {e : TypeId} {sz n n' : Nat} {v v' : Value} {xs xs' : List Value} (s : Sat E w (Row e sz v n xs :: H)) (hg : w.grownBy w' v.ownBlock) (ho : w'.ownsRow 0 e sz v' n' xs') (hb : v'.ownBlock = v.ownBlock ∨ v'.ownBlock = some w.heap.size) :
    Sat E w' (Row e sz v' n' xs' :: H) := by
  have henv : World.env w' = World.env w := by unfold World.env; rw [hg.os, hg.output, hg.tape]
  rcases Row_open s with ⟨rfl, rfl, rfl, s'⟩ | ⟨g, cap, cur, rfl, h2, h3, h4, h5, h6, s'⟩
  · have hk : ∀ c, c < w.heap.size → w'.heap[c]? = w.heap[c]? := fun c hc => hg.block c hc (by simp [Value.ownBlock])
    rcases ho.2 with ⟨rfl, rfl⟩ | ⟨g, cap, cur, rfl, _, hgg, a1, a2, a3, a4⟩
    · have := ho.1
      have : xs' = [] := List.eq_nil_of_length_eq_zero (by simpa using ho.1)
      subst this
      exact Row_nil (s'.step henv hk)
    · refine Row_mk a1 a2 a3 a4 (s'.newblk henv hk hgg ?_)
      rcases hb with hb | hb <;> simp [Value.ownBlock] at hb
      omega
  · have hk : ∀ c, c < w.heap.size → c ≠ g → w'.heap[c]? = w.heap[c]? := fun c hc hcg => hg.block c hc (by simp [Value.ownBlock]; exact hcg)
    rcases ho.2 with ⟨rfl, rfl⟩ | ⟨g', cap', cur', rfl, _, hgg, a1, a2, a3, a4⟩
    · have : xs' = [] := List.eq_nil_of_length_eq_zero (by simpa using ho.1)
      subst this
      simp [Value.ownBlock] at hb
    · refine Row_mk a1 a2 a3 a4 (s'.regrow henv hk hgg ?_)
      rcases hb with hb | hb <;> simp [Value.ownBlock] at hb
      · exact .inl hb
      · exact .inr (by omega)
theorem wl_append {s : Operand} {src v z : Value} {sz n m bytes : Nat} {xs news : List Value} (hw : Sat E w H) (k : Nat) (hk : H[k]? = some (Row el sz v n xs)) (hs : a.eval s = v) (hx : a.eval x = src) (r : Rd w sz src m news)
    (ht : P.underlying t = some (.slice el)) (hi : (P.info? el).map (fun i => (i.zero, i.size, i.bytes)) = some (some z, sz, bytes)) (hzs : z.cells.size = sz) (hsz : 0 < sz) (h1 : ∀ u ∈ news, u.oneCell' = true) (h63 : n + m ≤ maxLen) (hbytes : (n + m) * bytes ≤ 140737488355328)
    (h : ∀ v' w', Sat E w' (H.set k (Row el sz v' (n + m) (xs ++ news))) → (v' = .slice none 0 0 ↔ v = .slice none 0 0 ∧ m = 0) → wpList P ops Q rest (a.put d v') w') :
    wpList P ops Q ({ dst := d, op := .call { callee := .builtin .append, args := #[s, x], argTypes := #[t, t] }, type := tt, pos := pos, after := after, guard := none } :: rest) a w := by
  cases hq : P.info? el with
  | none => simp [hq] at hi
  | some i =>
    simp only [hq, Option.map_some, Option.some.injEq, Prod.mk.injEq] at hi
    obtain ⟨i1, i2, i3⟩ := hi
    have own := Row_owns hw k hk
    obtain ⟨A, cap, rfl, q2, q3, q4⟩ := r
    have go : ∀ v' w', (Builtin.append_ #[t, t] tt #[v, .slice A m cap]).run P w = .ok v' w' → Sat E w' (H.set k (Row el sz v' (n + m) (xs ++ news))) → (v' = .slice none 0 0 ↔ v = .slice none 0 0 ∧ m = 0) →
        wpList P ops Q ({ dst := d, op := .call { callee := .builtin .append, args := #[s, x], argTypes := #[t, t] }, type := tt, pos := pos, after := after, guard := none } :: rest) a w := by
      intro v' w' hr hs' hv'
      exact wl_run (by simp only [execOp, resolve, invoke, builtin, Sem.run_bind, Sem.run_pure, Result.andThen_ok, List.map_toArray, List.map_cons, List.map_nil, hs, hx, hr]) (h v' w' hs' hv')
    cases A with
    | none =>
      have hm : m = 0 := by
        rcases Nat.eq_zero_or_pos m with e | e
        · exact e
        · obtain ⟨_, e, _⟩ := q4 e; cases e
      subst hm
      have hn : news = [] := List.eq_nil_of_length_eq_zero (by simpa using q3)
      subst hn
      obtain ⟨B, c, rfl, b1, b2⟩ := Row_val hw k hk
      refine go (.slice B n c) w (run_append_nil_src (P := P) t tt el i ht hq b1 cap _ rfl ?_) ?_ (by simp)
      · rintro rfl
        rcases own.2 with ⟨e, _⟩ | ⟨_, _, _, e, _⟩
        · injection e with _ e1 e2; exact ⟨e1, e2⟩
        · injection e with e1; cases e1
      · have := hw.upd (B := Row el sz (.slice B n c) (n + 0) (xs ++ [])) k hk (w' := w) (fun _ s => by simpa using s)
        exact this
    | some ad =>
      have hcells : ∀ j u, news[j]? = some u → w.cell? (ad.add j) = some u := by
        intro j u hu
        rcases Nat.eq_zero_or_pos m with e | e
        · subst e
          have hn : news = [] := List.eq_nil_of_length_eq_zero (by simpa using q3)
          subst hn; simp at hu
        · obtain ⟨ad', e, hc⟩ := q4 e
          injection e with e; subst e
          exact hc j u hu
      obtain ⟨v', w', r1, r2, r3, r4, r5⟩ := run_append_own_at (P := P) w 0 t tt el i z sz bytes ht hq i1 i2 i3 hzs hsz v n xs own ad m cap news q3 hcells h1 h63 hbytes (Nat.zero_le _)
      exact go v' w' r1 (hw.upd k hk fun _ s => Row_grow s r3 r2 r5) r4
end laws
end
attribute [irreducible] Row
end Go.Bst
