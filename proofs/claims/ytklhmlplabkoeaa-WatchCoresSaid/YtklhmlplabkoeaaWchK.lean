/- Maps whose keys are pairs of ints. Conditions: none. -/
import Derived.Test.YtklhmlplabkoeaaMapsK
import Derived.Test.YtklhmlplabkoeaaAuto
import Derived.Test.YtklhmlplabkoeaaProg
set_option linter.unusedVariables false
set_option linter.unusedSimpArgs false
namespace Go.Bst
open Go.RowKit Go.MapKept
def IsPair (v : Value) : Prop := ∃ a b : Int, v = .agg #[.int .i64 a, .int .i64 b] ∧ fitAll [.int .i64, .int .i64] [.int .i64 a, .int .i64 b]
section
variable {P : Program} {t e : TypeId}
theorem run_checkPair (hu : P.underlying t = some (.array 2 e)) (he : P.underlying e = some (.int .i64)) (hs : (P.info? e).map (·.size) = some 1) {k : Value} (hk : IsPair k) (em : Bool) (n : Nat) (w : World) : (Instr.checkKey em (n + 2) t k).run P w = .ok () w := by
  obtain ⟨a, b, rfl, _⟩ := hk
  obtain ⟨i, e2, e3⟩ := info_of hs
  have h1 : ∀ x : Int, (Instr.checkKey em (n + 1) e (.int .i64 x)).run P w = .ok () w := fun x => by unfold Instr.checkKey; simp [run_underlying he]
  unfold Instr.checkKey
  simp [run_underlying hu, part, isAgg, run_underlying he, sizeOf, typeInfo, e2, e3, h1, show List.range' 0 2 = [0, 1] from rfl, List.forIn_cons, List.forIn_nil, Result.andThen]
theorem ask_spec (hs : skinds P 9 t = some [.int .i64, .int .i64]) (ha : aggSize P t ≠ none) {k : Value} (hk : IsPair k) (w : World) : ∀ (l : List MapEntry) (i : Nat), (∀ x ∈ l, IsPair x.key) →
    ((Instr.findAsking t k l i).run P w = .ok none w ∧ ∀ x ∈ l, x.key ≠ k) ∨ ∃ j e, (Instr.findAsking t k l i).run P w = .ok (some (i + j, e.val)) w ∧ l[j]? = some e ∧ e.key = k
  | [], i, _ => .inl ⟨by simp [Instr.findAsking], by simp⟩
  | x :: l, i, h => by
    obtain ⟨a, b, hk1, hk2⟩ := hk
    obtain ⟨c, d, hx1, hx2⟩ := h x List.mem_cons_self
    have e1 : (Op.equal t k x.key).run P w = .ok (same #[.int .i64 a, .int .i64 b] #[.int .i64 c, .int .i64 d]) w := by
      rw [hk1, hx1]
      exact run_equal_agg (d := 9) (by omega) hs ha hk2 hx2
    cases hb : same #[.int .i64 a, .int .i64 b] #[.int .i64 c, .int .i64 d] with
    | true =>
      rw [hb] at e1
      refine .inr ⟨0, x, ?_, rfl, ?_⟩
      · simp [Instr.findAsking, e1, Result.andThen]
      · rw [hk1, hx1, same_iff.1 hb]
    | false =>
      rw [hb] at e1
      have hne : x.key ≠ k := fun e => by
        rw [hk1, hx1] at e
        injection e with e
        rw [e, same_self] at hb
        cases hb
      rcases ask_spec hs ha ⟨a, b, hk1, hk2⟩ w l (i + 1) (fun y hy => h y (List.mem_cons_of_mem _ hy)) with ⟨h1, h2⟩ | ⟨j, e, h1, h2, h3⟩
      · refine .inl ⟨by simp [Instr.findAsking, e1, h1, Result.andThen], fun y hy => ?_⟩
        rcases List.mem_cons.1 hy with rfl | hy
        · exact hne
        · exact h2 y hy
      · refine .inr ⟨j + 1, e, ?_, by simpa using h2, h3⟩
        rw [show i + 1 + j = i + (j + 1) by omega] at h1
        simp [Instr.findAsking, e1, h1, Result.andThen]
theorem KeyKind.pair (hu : P.underlying t = some (.array 2 e)) (he : P.underlying e = some (.int .i64)) (hz : (P.info? e).map (·.size) = some 1) (hs : skinds P 9 t = some [.int .i64, .int .i64]) (ha : aggSize P t ≠ none) : KeyKind P t IsPair where
  check em k w hk := run_checkPair hu he hz hk em 9998 w
  find k l w hk hl := by
    cases l with
    | nil =>
      refine .inl ⟨?_, by simp⟩
      simp [Instr.findKey, run_underlying hu, Instr.findNow]
    | cons x l =>
      have h0 : Instr.findNow (.array 2 e) k (x :: l) 0 = none := by simp [Instr.findNow, Instr.sameNow]
      have h1 : (Instr.findKey t k (x :: l)).run P w = (Instr.findAsking t k (x :: l) 0).run P w := by simp [Instr.findKey, run_underlying hu, h0, Result.andThen]
      rw [h1]
      rcases ask_spec hs ha hk w (x :: l) 0 hl with h | ⟨j, q, h2, h3, h4⟩
      · exact .inl h
      · exact .inr ⟨j, q, by rw [Nat.zero_add] at h2; exact h2, h3, h4⟩
  stays k hk := by
    obtain ⟨a, b, rfl, _⟩ := hk
    show Instr.sameBits (9999 + 1) _ _ = true
    simp [Instr.sameBits]
end
end Go.Bst
