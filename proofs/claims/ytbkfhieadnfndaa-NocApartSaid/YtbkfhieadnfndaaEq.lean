/- '==' between two values of a type of ints and bools, or of structs and arrays of such: true just where all cells are the same. Conditions: none. -/
import Derived.Test.YtbkfhieadnfndaaLaws
import Derived.ChangeKeysEq
set_option linter.unusedVariables false
set_option linter.unusedSimpArgs false
namespace Go.Bst
open Go.RowKit

inductive SK where
  | int (k : IntKind)
  | bool
  deriving DecidableEq

def SK.fits : SK → Value → Prop
  | .int k, v => ∃ n, v = .int k n ∧ k.min ≤ n ∧ n ≤ k.max
  | .bool, v => ∃ b, v = .bool b

def fitAll : List SK → List Value → Prop
  | [], [] => True
  | k :: ks, v :: vs => k.fits v ∧ fitAll ks vs
  | _, _ => False

theorem fitAll_len : ∀ {ks : List SK} {vs : List Value}, fitAll ks vs → vs.length = ks.length
  | [], [], _ => rfl
  | _ :: ks, _ :: vs, h => by simp [fitAll_len h.2]
  | [], _ :: _, h => h.elim
  | _ :: _, [], h => h.elim
theorem fitAll_app : ∀ {a b : List SK} {vs : List Value}, fitAll (a ++ b) vs → fitAll a (vs.take a.length) ∧ fitAll b (vs.drop a.length)
  | [], b, vs, h => ⟨by simp [fitAll], by simpa using h⟩
  | k :: a, b, [], h => h.elim
  | k :: a, b, v :: vs, h => by
    have := fitAll_app (a := a) (b := b) (vs := vs) h.2
    exact ⟨⟨h.1, this.1⟩, this.2⟩
theorem fitAll_mk : ∀ {a b : List SK} {vs us : List Value}, fitAll a vs → fitAll b us → fitAll (a ++ b) (vs ++ us)
  | [], b, [], us, _, h => h
  | k :: a, b, v :: vs, us, h, h' => ⟨h.1, fitAll_mk h.2 h'⟩
  | [], _, _ :: _, _, h, _ => h.elim
  | _ :: _, _, [], _, h, _ => h.elim
theorem SK.fits_one {k : SK} {v : Value} (h : k.fits v) : v.oneCell' = true ∧ v.cells = #[v] := by
  cases k with
  | int k => obtain ⟨n, rfl, _⟩ := h; exact ⟨rfl, rfl⟩
  | bool => obtain ⟨b, rfl⟩ := h; exact ⟨rfl, rfl⟩
theorem fitAll_one : ∀ {ks : List SK} {vs : List Value}, fitAll ks vs → vs.all (·.oneCell') = true
  | [], [], _ => rfl
  | _ :: ks, _ :: vs, h => by simp only [List.all_cons, Bool.and_eq_true]; exact ⟨(SK.fits_one h.1).1, fitAll_one h.2⟩
  | [], _ :: _, h => h.elim
  | _ :: _, [], h => h.elim

def fieldKinds (r : TypeId → Option (List SK)) : List Field → List SK → Option (List SK)
  | [], acc => some acc
  | f :: fs, acc => if f.name = "_" ∨ f.offset ≠ acc.length then none else match r f.type with
    | some l => fieldKinds r fs (acc ++ l)
    | none => none
def skinds (P : Program) : Nat → TypeId → Option (List SK)
  | 0, _ => none
  | d + 1, t => match P.underlying t with
    | some .bool => if (P.info? t).map (·.size) = some 1 then some [.bool] else none
    | some (.int k) => if (P.info? t).map (·.size) = some 1 then some [.int k] else none
    | some (.struct fs) => if P.stoodInHeld t then none else match fieldKinds (skinds P d) fs.toList [] with
      | some ks => if (P.info? t).map (·.size) = some ks.length then some ks else none
      | none => none
    | some (.array n e) => match skinds P d e with
      | some l => if (P.info? e).map (·.size) = some l.length ∧ (P.info? t).map (·.size) = some (n * l.length) then some (List.replicate n l).flatten else none
      | none => none
    | _ => none

/-- A value of type t, whose cells are of these kinds. -/
def TV (P : Program) (t : TypeId) (ks : List SK) (v : Value) : Prop :=
  (aggSize P t ≠ none → ∃ cs, v = .agg cs) ∧ (aggSize P t = none → v.cells = #[v]) ∧ fitAll ks v.cells.toList

section
variable {P : Program} {w : World}
theorem skinds_agg {d : Nat} {t : TypeId} {ks : List SK} (h : skinds P d t = some ks) : aggSize P t = some ks.length ∨ (aggSize P t = none ∧ oneSize P t = true ∧ ∃ k, ks = [k] ∧ ((P.underlying t = some .bool ∧ k = .bool) ∨ ∃ q, P.underlying t = some (.int q) ∧ k = .int q)) := by
  cases d with
  | zero => cases h
  | succ d =>
    unfold skinds at h
    split at h
    · rename_i hu
      split at h
      · rename_i hs
        simp only [Option.some.injEq] at h; subst h
        exact .inr ⟨by unfold aggSize; rw [hu], by unfold oneSize; rw [hu]; simp [hs], _, rfl, .inl ⟨hu, rfl⟩⟩
      · cases h
    · rename_i q hu
      split at h
      · rename_i hs
        simp only [Option.some.injEq] at h; subst h
        exact .inr ⟨by unfold aggSize; rw [hu], by unfold oneSize; rw [hu]; simp [hs], _, rfl, .inr ⟨q, hu, rfl⟩⟩
      · cases h
    · rename_i fs hu
      split at h
      · cases h
      · split at h
        · split at h
          · rename_i hs
            simp only [Option.some.injEq] at h; subst h
            exact .inl (by unfold aggSize; rw [hu]; exact hs)
          · cases h
        · cases h
    · rename_i n e hu
      split at h
      · split at h
        · rename_i hs
          simp only [Option.some.injEq] at h; subst h
          exact .inl (by unfold aggSize; rw [hu]; simp only; rw [hs.2]; simp [List.length_flatten, List.map_replicate])
        · cases h
      · cases h
    · cases h
theorem info_of {t : TypeId} {n : Nat} (h : (P.info? t).map (·.size) = some n) : ∃ i, P.info? t = some i ∧ i.size = n := by
  cases hq : P.info? t with
  | none => simp [hq] at h
  | some i => exact ⟨i, rfl, by simpa [hq] using h⟩
/-- A part of a value, read as its type has it. -/
theorem part_ok {d : Nat} {t : TypeId} {l : List SK} (h : skinds P d t = some l) {cs : Array Value} {off : Nat} (hf : fitAll l ((cs.toList.drop off).take l.length)) :
    ∃ a, (part t cs off).run P w = .ok a w ∧ TV P t l a ∧ a.cells.toList = (cs.toList.drop off).take l.length := by
  rcases skinds_agg h with h1 | ⟨h0, h1, k, rfl, h2⟩
  · obtain ⟨e1, i, e2, e3⟩ := run_isAgg_yes h1 w
    have hx : (cs.extract off (off + l.length)).toList = (cs.toList.drop off).take l.length := by simp [Array.toList_extract, List.extract_eq_take_drop]
    refine ⟨.agg (cs.extract off (off + l.length)), by simp [part, e1, sizeOf, typeInfo, e2, e3], ⟨fun _ => ⟨_, rfl⟩, (fun e => by rw [h1] at e; cases e), ?_⟩, hx⟩
    simp only [Value.cells]
    rw [hx]; exact hf
  · obtain ⟨e1, _⟩ := run_isAgg_no h1 w
    have hl := fitAll_len hf
    simp only [List.length_cons, List.length_nil] at hl
    cases hd : cs.toList.drop off with
    | nil => simp [hd] at hl
    | cons v r =>
      rw [hd] at hf
      simp only [List.length_cons, List.length_nil, Nat.zero_add, List.take_succ_cons, List.take_zero] at hf ⊢
      have hv : cs[off]? = some v := by
        have := congrArg (fun l => l[0]?) hd
        simpa using this
      refine ⟨v, by simp [part, e1, hv], ⟨fun hh => absurd h0 hh, fun _ => (SK.fits_one hf.1).2, ?_⟩, ?_⟩
      · rw [(SK.fits_one hf.1).2]; exact hf
      · rw [(SK.fits_one hf.1).2]

def EqOk (P : Program) (d : Nat) : Prop := ∀ (t : TypeId) (ks : List SK), skinds P d t = some ks → ∀ (D : Nat) (x y : Value) (w : World), TV P t ks x → TV P t ks y →
  ∃ r : Bool, (Op.equalIn (D + d) t x y).run P w = .ok r w ∧ (r = true ↔ x.cells.toList = y.cells.toList)

theorem eqFields_ok {d : Nat} (ih : EqOk P d) (D : Nat) {xs ys : Array Value} : ∀ (fs : List Field) (acc ks : List SK), fieldKinds (skinds P d) fs acc = some ks → fitAll ks xs.toList → fitAll ks ys.toList →
    xs.toList.take acc.length = ys.toList.take acc.length → ∃ r : Bool, (Op.eqFields (D + d) xs ys fs).run P w = .ok r w ∧ (r = true ↔ xs.toList = ys.toList)
  | [], acc, ks, hk, hx, hy, he => by
    simp only [fieldKinds, Option.some.injEq] at hk
    subst hk
    rw [List.take_of_length_le (by rw [fitAll_len hx]; omega), List.take_of_length_le (by rw [fitAll_len hy]; omega)] at he
    exact ⟨true, by simp [Op.eqFields], by simp [he]⟩
  | f :: fs, acc, ks, hk, hx, hy, he => by
    simp only [fieldKinds] at hk
    split at hk
    · cases hk
    · rename_i hc
      split at hk
      · rename_i l hl
        have hn : f.name ≠ "_" := fun e => hc (.inl e)
        have ho : f.offset = acc.length := Classical.byContradiction fun e => hc (.inr e)
        obtain ⟨tail, rfl⟩ : ∃ tail, ks = (acc ++ l) ++ tail := fieldKinds_app hk
        have fx := fitAll_app (fitAll_app hx).1
        have fy := fitAll_app (fitAll_app hy).1
        have sx : fitAll l ((xs.toList.drop acc.length).take l.length) := by
          have := fx.2; rw [List.length_append, List.drop_take] at this; simpa using this
        have sy : fitAll l ((ys.toList.drop acc.length).take l.length) := by
          have := fy.2; rw [List.length_append, List.drop_take] at this; simpa using this
        obtain ⟨a, a1, a2, a3⟩ := part_ok (w := w) hl sx
        obtain ⟨b, b1, b2, b3⟩ := part_ok (w := w) hl sy
        obtain ⟨r, r1, r2⟩ := ih _ _ hl D a b w a2 b2
        rw [a3, b3] at r2
        cases r
        · refine ⟨false, by simp [Op.eqFields, hn, ho, a1, b1, r1], ?_⟩
          constructor
          · intro h; cases h
          · intro h; rw [h] at r2; exact absurd (r2.2 rfl) (by simp)
        · obtain ⟨r', q1, q2⟩ := eqFields_ok ih D fs (acc ++ l) _ hk hx hy (by
            rw [List.length_append, List.take_add, List.take_add, he, r2.1 rfl])
          exact ⟨r', by simp [Op.eqFields, hn, ho, a1, b1, r1, q1], q2⟩
      · cases hk
  where fieldKinds_app {r : TypeId → Option (List SK)} : ∀ {fs : List Field} {acc ks : List SK}, fieldKinds r fs acc = some ks → ∃ tail, ks = acc ++ tail
  | [], acc, ks, h => ⟨[], by simp [fieldKinds] at h; simp [h]⟩
  | f :: fs, acc, ks, h => by
    simp only [fieldKinds] at h
    split at h
    · cases h
    · split at h
      · rename_i l hl
        obtain ⟨tail, e⟩ := fieldKinds_app h
        exact ⟨l ++ tail, by rw [e, List.append_assoc]⟩
      · cases h

theorem eqItems_ok {d : Nat} (ih : EqOk P d) (D : Nat) {e : TypeId} {l : List SK} (hl : skinds P d e = some l) {xs ys : Array Value} : ∀ (n k : Nat), 
    fitAll (List.replicate n l).flatten (xs.toList.drop (k * l.length)) → fitAll (List.replicate n l).flatten (ys.toList.drop (k * l.length)) →
    ∃ r : Bool, (Op.eqItems (D + d) e l.length xs ys (List.range' k n)).run P w = .ok r w ∧ (r = true ↔ xs.toList.drop (k * l.length) = ys.toList.drop (k * l.length))
  | 0, k, hx, hy => by
    refine ⟨true, by simp [Op.eqItems], ?_⟩
    simp only [true_iff]
    rw [List.eq_nil_of_length_eq_zero (l := xs.toList.drop _) (by simpa using fitAll_len hx), List.eq_nil_of_length_eq_zero (l := ys.toList.drop _) (by simpa using fitAll_len hy)]
  | n + 1, k, hx, hy => by
    rw [List.replicate_succ, List.flatten_cons] at hx hy
    have fx := fitAll_app hx
    have fy := fitAll_app hy
    obtain ⟨a, a1, a2, a3⟩ := part_ok (w := w) hl fx.1
    obtain ⟨b, b1, b2, b3⟩ := part_ok (w := w) hl fy.1
    obtain ⟨r, r1, r2⟩ := ih _ _ hl D a b w a2 b2
    rw [a3, b3] at r2
    have dx : (xs.toList.drop (k * l.length)).drop l.length = xs.toList.drop ((k + 1) * l.length) := by rw [List.drop_drop, Nat.succ_mul]
    have dy : (ys.toList.drop (k * l.length)).drop l.length = ys.toList.drop ((k + 1) * l.length) := by rw [List.drop_drop, Nat.succ_mul]
    rw [List.range'_succ]
    cases r
    · refine ⟨false, by simp [Op.eqItems, a1, b1, r1], ?_⟩
      constructor
      · intro h; cases h
      · intro h; rw [h] at r2; exact absurd (r2.2 rfl) (by simp)
    · obtain ⟨r', q1, q2⟩ := eqItems_ok ih D hl n (k + 1) (by rw [← dx]; exact fx.2) (by rw [← dy]; exact fy.2)
      refine ⟨r', by simp [Op.eqItems, a1, b1, r1, q1], ?_⟩
      rw [q2]
      constructor
      · intro h
        rw [← List.take_append_drop l.length (xs.toList.drop (k * l.length)), ← List.take_append_drop l.length (ys.toList.drop (k * l.length)), r2.1 rfl, dx, dy, h]
      · intro h; rw [← dx, ← dy, h]

theorem eqOk (P : Program) : ∀ d, EqOk P d
  | 0 => fun t ks h => by cases h
  | d + 1 => by
    intro t ks h D x y w hx hy
    have ih := eqOk P d
    obtain ⟨x1, x2, x3⟩ := hx
    obtain ⟨y1, y2, y3⟩ := hy
    rcases skinds_agg h with h1 | ⟨h0, h1, k, rfl, h2⟩
    · obtain ⟨xs, rfl⟩ := x1 (by rw [h1]; simp)
      obtain ⟨ys, rfl⟩ := y1 (by rw [h1]; simp)
      simp only [Value.cells] at x3 y3 ⊢
      unfold skinds at h
      split at h
      · rename_i hu; unfold aggSize at h1; rw [hu] at h1; cases h1
      · rename_i q hu; unfold aggSize at h1; rw [hu] at h1; cases h1
      · rename_i fs hu
        split at h
        · cases h
        · rename_i hp
          split at h
          · rename_i ks' hk
            split at h
            · simp only [Option.some.injEq] at h; subst h
              have hfo : P.fieldsOf t = fs := by unfold Program.fieldsOf; rw [hu]
              obtain ⟨r, r1, r2⟩ := eqFields_ok (w := w) ih D fs.toList [] _ hk x3 y3 rfl
              refine ⟨r, ?_, r2⟩
              rw [← Nat.add_assoc, run_equalIn_struct w (D + d) t xs ys (by rw [hfo]; exact hu) (by simpa using hp), hfo]
              exact r1
            · cases h
          · cases h
      · rename_i n e hu
        split at h
        · rename_i l hl
          split at h
          · rename_i hs
            simp only [Option.some.injEq] at h; subst h
            obtain ⟨i, i1, i2⟩ := info_of hs.1
            obtain ⟨r, r1, r2⟩ := eqItems_ok (w := w) ih D hl n 0 (xs := xs) (ys := ys) (by simpa using x3) (by simpa using y3)
            refine ⟨r, ?_, by simpa using r2⟩
            rw [← Nat.add_assoc, run_equalIn_array w (D + d) xs ys hu i1, List.range_eq_range']
            rw [show P.cellsOf e = l.length from by unfold Program.cellsOf; simp [i1, i2]]
            exact r1
          · cases h
        · cases h
      · cases h
    · have ex := x2 h0
      have ey := y2 h0
      rw [ex] at x3 ⊢
      rw [ey] at y3 ⊢
      have fx := x3.1
      have fy := y3.1
      rcases h2 with ⟨hu, rfl⟩ | ⟨q, hu, rfl⟩
      · obtain ⟨a, rfl⟩ := fx
        obtain ⟨b, rfl⟩ := fy
        exact ⟨a == b, run_equalIn_bool w (D + d) t a b hu, by simp⟩
      · obtain ⟨a, rfl, _⟩ := fx
        obtain ⟨b, rfl, _⟩ := fy
        exact ⟨a == b, run_equalIn_int w (D + d) t q q a b hu, by simp⟩
end

/-- Are two rows of cells the same? -/
noncomputable def same (xs ys : Array Value) : Bool := @decide (xs = ys) (Classical.propDecidable _)
theorem same_iff {xs ys : Array Value} : same xs ys = true ↔ xs = ys := by unfold same; simp
theorem same_self (xs : Array Value) : same xs xs = true := same_iff.2 rfl
theorem same_not {xs ys : Array Value} (h : xs ≠ ys) : same xs ys = false := by
  cases e : same xs ys with
  | false => rfl
  | true => exact absurd (same_iff.1 e) h

section
variable {P : Program} {w : World}
theorem run_equal_agg {d : Nat} (hd : d ≤ 10000) {t : TypeId} {ks : List SK} (h : skinds P d t = some ks) (ha : aggSize P t ≠ none) {xs ys : Array Value} (hx : fitAll ks xs.toList) (hy : fitAll ks ys.toList) :
    (Op.equalIn 10000 t (.agg xs) (.agg ys)).run P w = .ok (same xs ys) w := by
  obtain ⟨r, r1, r2⟩ := eqOk P d t ks h (10000 - d) (.agg xs) (.agg ys) w ⟨fun _ => ⟨_, rfl⟩, fun e => absurd e ha, hx⟩ ⟨fun _ => ⟨_, rfl⟩, fun e => absurd e ha, hy⟩
  rw [show 10000 - d + d = 10000 from by omega] at r1
  rw [r1]
  congr 1
  simp only [Value.cells, Array.toList_inj] at r2
  cases r
  · exact (same_not (fun e => by simpa using r2.2 e)).symm
  · exact (same_iff.2 (r2.1 rfl)).symm
theorem run_eql_agg {d : Nat} (hd : d ≤ 10000) {t : TypeId} {ks : List SK} (h : skinds P d t = some ks) (ha : aggSize P t ≠ none) {xs ys : Array Value} (hx : fitAll ks xs.toList) (hy : fitAll ks ys.toList) :
    (binOp .eql t (.agg xs) (.agg ys)).run P w = .ok (.bool (same xs ys)) w := by
  rw [run_eql_struct, run_equal_agg hd h ha hx hy]; rfl
theorem run_neq_agg {d : Nat} (hd : d ≤ 10000) {t : TypeId} {ks : List SK} (h : skinds P d t = some ks) (ha : aggSize P t ≠ none) {xs ys : Array Value} (hx : fitAll ks xs.toList) (hy : fitAll ks ys.toList) :
    (binOp .neq t (.agg xs) (.agg ys)).run P w = .ok (.bool (!same xs ys)) w := by
  rw [run_neq_struct, run_equal_agg hd h ha hx hy]; rfl
theorem rn_eql_agg {o : Oper} {a : Act} {x y : Operand} {yt : TypeId} {d : Nat} {t : TypeId} {ks : List SK} (ho : o.op = .binOp .eql t x y yt) (xs ys : Array Value) (e1 : a.eval x = .agg xs) (e2 : a.eval y = .agg ys) (h : skinds P d t = some ks) (hd : d ≤ 10000) (ha : aggSize P t ≠ none) (hg : P.eqGuardType P.depth t = false) (hx : fitAll ks xs.toList) (hy : fitAll ks ys.toList) :
    (execOp a.eval o).run P w = .ok (.value (.bool (same xs ys))) w := by
  unfold execOp
  simp only [ho, Sem.run_bind, e1, e2, run_eqGuard_agg w .eql t x y xs ys hg, Result.andThen_ok, run_eql_agg hd h ha hx hy, Sem.run_pure]
theorem rn_neq_agg {o : Oper} {a : Act} {x y : Operand} {yt : TypeId} {d : Nat} {t : TypeId} {ks : List SK} (ho : o.op = .binOp .neq t x y yt) (xs ys : Array Value) (e1 : a.eval x = .agg xs) (e2 : a.eval y = .agg ys) (h : skinds P d t = some ks) (hd : d ≤ 10000) (ha : aggSize P t ≠ none) (hg : P.eqGuardType P.depth t = false) (hx : fitAll ks xs.toList) (hy : fitAll ks ys.toList) :
    (execOp a.eval o).run P w = .ok (.value (.bool (!same xs ys))) w := by
  unfold execOp
  simp only [ho, Sem.run_bind, e1, e2, run_eqGuard_agg w .neq t x y xs ys hg, Result.andThen_ok, run_neq_agg hd h ha hx hy, Sem.run_pure]
end
end Go.Bst
