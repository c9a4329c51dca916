/- Maps whose keys are structs of three ints. Conditions: none. -/
import Derived.Test.YtbkfhieadnfndaaMapsK
import Derived.Test.YtbkfhieadnfndaaAuto
import Derived.Test.YtbkfhieadnfndaaSxX
set_option linter.unusedVariables false
set_option linter.unusedSimpArgs false
namespace Go.Bst
open Go.RowKit Go.MapKept
def lkV (l : Int × Int × Int) : Value := .agg #[.int .i64 l.1, .int .i64 l.2.1, .int .i64 l.2.2]
def fit3 (l : Int × Int × Int) : Prop := fitAll [.int .i64, .int .i64, .int .i64] [.int .i64 l.1, .int .i64 l.2.1, .int .i64 l.2.2]
def IsLk (v : Value) : Prop := ∃ l, v = lkV l ∧ fit3 l
theorem lkV_inj {l m : Int × Int × Int} (h : lkV l = lkV m) : l = m := by
  obtain ⟨a, b, c⟩ := l
  obtain ⟨x, y, z⟩ := m
  simp only [lkV, Value.agg.injEq, Array.mk.injEq, List.cons.injEq, Value.int.injEq, and_true, true_and] at h
  obtain ⟨h1, h2, h3⟩ := h
  rw [h1, h2, h3]
section
variable {P : Program} {t e : TypeId} {f1 f2 f3 : Field}
theorem run_checkLk (hu : P.underlying t = some (.struct #[f1, f2, f3])) (n1 : f1.name ≠ "_") (n2 : f2.name ≠ "_") (n3 : f3.name ≠ "_") (t1 : f1.type = e) (t2 : f2.type = e) (t3 : f3.type = e) (o1 : f1.offset = 0) (o2 : f2.offset = 1) (o3 : f3.offset = 2) (he : P.underlying e = some (.int .i64))
    {k : Value} (hk : IsLk k) (em : Bool) (n : Nat) (w : World) : (Instr.checkKey em (n + 2) t k).run P w = .ok () w := by
  obtain ⟨l, rfl, _⟩ := hk
  have h1 : ∀ x : Int, (Instr.checkKey em (n + 1) e (.int .i64 x)).run P w = .ok () w := fun x => by unfold Instr.checkKey; simp [run_underlying he]
  unfold Instr.checkKey lkV
  simp [run_underlying hu, part, isAgg, run_underlying he, h1, n1, n2, n3, t1, t2, t3, o1, o2, o3, List.forIn_cons, List.forIn_nil, Result.andThen]
theorem ask_lk (hs : skinds P 9 t = some [.int .i64, .int .i64, .int .i64]) (ha : aggSize P t ≠ none) {k : Value} (hk : IsLk k) (w : World) : ∀ (l : List MapEntry) (i : Nat), (∀ x ∈ l, IsLk x.key) →
    ((Instr.findAsking t k l i).run P w = .ok none w ∧ ∀ x ∈ l, x.key ≠ k) ∨ ∃ j e, (Instr.findAsking t k l i).run P w = .ok (some (i + j, e.val)) w ∧ l[j]? = some e ∧ e.key = k
  | [], i, _ => .inl ⟨by simp [Instr.findAsking], by simp⟩
  | x :: l, i, h => by
    obtain ⟨a, hk1, hk2⟩ := hk
    obtain ⟨c, hx1, hx2⟩ := h x List.mem_cons_self
    have e1 : (Op.equal t k x.key).run P w = .ok (same #[.int .i64 a.1, .int .i64 a.2.1, .int .i64 a.2.2] #[.int .i64 c.1, .int .i64 c.2.1, .int .i64 c.2.2]) w := by
      rw [hk1, hx1]
      exact run_equal_agg (d := 9) (by omega) hs ha hk2 hx2
    cases hb : same #[.int .i64 a.1, .int .i64 a.2.1, .int .i64 a.2.2] #[.int .i64 c.1, .int .i64 c.2.1, .int .i64 c.2.2] with
    | true =>
      rw [hb] at e1
      refine .inr ⟨0, x, ?_, rfl, ?_⟩
      · simp [Instr.findAsking, e1, Result.andThen]
      · rw [hk1, hx1]; unfold lkV; rw [same_iff.1 hb]
    | false =>
      rw [hb] at e1
      have hne : x.key ≠ k := fun e => by
        rw [hk1, hx1] at e
        rw [lkV_inj e, same_self] at hb
        cases hb
      rcases ask_lk hs ha ⟨a, hk1, hk2⟩ w l (i + 1) (fun y hy => h y (List.mem_cons_of_mem _ hy)) with ⟨h1, h2⟩ | ⟨j, e, h1, h2, h3⟩
      · refine .inl ⟨by simp [Instr.findAsking, e1, h1, Result.andThen], fun y hy => ?_⟩
        rcases List.mem_cons.1 hy with rfl | hy
        · exact hne
        · exact h2 y hy
      · refine .inr ⟨j + 1, e, ?_, by simpa using h2, h3⟩
        rw [show i + 1 + j = i + (j + 1) by omega] at h1
        simp [Instr.findAsking, e1, h1, Result.andThen]
theorem KeyKind.lk (hu : P.underlying t = some (.struct #[f1, f2, f3])) (n1 : f1.name ≠ "_") (n2 : f2.name ≠ "_") (n3 : f3.name ≠ "_") (t1 : f1.type = e) (t2 : f2.type = e) (t3 : f3.type = e) (o1 : f1.offset = 0) (o2 : f2.offset = 1) (o3 : f3.offset = 2) (he : P.underlying e = some (.int .i64))
    (hs : skinds P 9 t = some [.int .i64, .int .i64, .int .i64]) (ha : aggSize P t ≠ none) : KeyKind P t IsLk where
  check em k w hk := run_checkLk hu n1 n2 n3 t1 t2 t3 o1 o2 o3 he hk em 9998 w
  find k l w hk hl := by
    cases l with
    | nil =>
      refine .inl ⟨?_, by simp⟩
      simp [Instr.findKey, run_underlying hu, Instr.findNow]
    | cons x l =>
      have h0 : Instr.findNow (.struct #[f1, f2, f3]) k (x :: l) 0 = none := by simp [Instr.findNow, Instr.sameNow]
      have h1 : (Instr.findKey t k (x :: l)).run P w = (Instr.findAsking t k (x :: l) 0).run P w := by simp [Instr.findKey, run_underlying hu, h0, Result.andThen]
      rw [h1]
      rcases ask_lk hs ha hk w (x :: l) 0 hl with h | ⟨j, q, h2, h3, h4⟩
      · exact .inl h
      · exact .inr ⟨j, q, by rw [Nat.zero_add] at h2; exact h2, h3, h4⟩
  stays k hk := by
    obtain ⟨l, rfl, _⟩ := hk
    show Instr.sameBits (9999 + 1) _ _ = true
    simp [Instr.sameBits, lkV]
end
section
variable {P : Program} {tt t kt et : TypeId} {a : Act} {E : Env} {w : World} {H : List HP} {x y : Operand} {b : Nat} {good : Value → Prop} {f : Value → Option Value} {key z : Value}
/-- A look into a map, with what is found and whether. -/
theorem ans_lookup2 (hs : Sat E w H) (k : Nat) (hk : H[k]? = some (Mf b good f)) (K : KeyKind P kt good) (hu : P.underlying t = some (.map kt et)) (hz : zeroOf P et = some z) (hx : a.eval x = .map (some b)) (hy : a.eval y = key) (hg : good key) :
    Go.Sx.Ans P (.lookup t x y true) tt a w (.tuple #[(f key).getD z, .bool (f key).isSome]) := by
  have := run_map_lookup hs k hk K hu hz hg true
  rw [if_pos rfl] at this
  unfold Go.Sx.Ans execOp
  simp only [hx, hy, Sem.run_bind, this, Result.andThen_ok, Sem.run_pure]
theorem ans_lookup1 (hs : Sat E w H) (k : Nat) (hk : H[k]? = some (Mf b good f)) (K : KeyKind P kt good) (hu : P.underlying t = some (.map kt et)) (hz : zeroOf P et = some z) (hx : a.eval x = .map (some b)) (hy : a.eval y = key) (hg : good key) :
    Go.Sx.Ans P (.lookup t x y false) tt a w ((f key).getD z) := by
  have := run_map_lookup hs k hk K hu hz hg false
  unfold Go.Sx.Ans execOp
  simp only [hx, hy, Sem.run_bind, this, Result.andThen_ok, Sem.run_pure]
  rfl
end
end Go.Bst
