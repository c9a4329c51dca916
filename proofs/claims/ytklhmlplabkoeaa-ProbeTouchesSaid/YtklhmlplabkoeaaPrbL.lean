/- The n-th part of a kind, in plain Lean. Conditions: none. -/
import Derived.Test.YtklhmlplabkoeaaPrb
set_option linter.unusedVariables false
set_option linter.unusedSimpArgs false
namespace Go.Proofs.Ytklhmlplabkoeaa
open Go.RowKit Go.Bst
def wI (n : Int) : Int := IntKind.i64.wrap n
theorem wI_in {n : Int} (h : i64B n) : wI n = n := IntWalk.i64_in n h
theorem wI_ok (n : Int) : i64B (wI n) := by unfold wI i64B; rw [IntKind.wrap_i64]; omega
theorem wI_sub {n : Int} (h : i64B n) : wI (n - 1) = if n = -9223372036854775808 then 9223372036854775807 else n - 1 := by
  unfold i64B at h
  unfold wI
  rw [IntKind.wrap_i64]
  split <;> omega
def partR (k : Int) : List Prt → Int → Option Int
  | [], _ => none
  | x :: l, n => if x.kind = k then (if n = 0 then some x.at_ else partR k l (wI (n - 1))) else partR k l n
theorem partR_none {k : Int} : ∀ {l : List Prt} {n : Int}, i64B n → (n < 0 ∨ ((l.filter (fun x => x.kind = k)).length : Int) ≤ n) → l.length ≤ 100000 → partR k l n = none
  | [], _, _, _, _ => rfl
  | x :: l, n, hb, h, hl => by
    unfold partR
    simp only [List.length_cons] at hl
    have hle : (l.filter (fun x => x.kind = k)).length ≤ l.length := List.length_filter_le _ _
    by_cases hk : x.kind = k
    · rw [if_pos hk]
      rw [List.filter_cons_of_pos (by simpa using hk), List.length_cons] at h
      rw [if_neg (by omega)]
      refine partR_none (wI_ok _) ?_ (by omega)
      rw [wI_sub hb]
      split <;> omega
    · rw [if_neg hk]
      rw [List.filter_cons_of_neg (by simpa using hk)] at h
      exact partR_none hb h (by omega)
theorem partR_some {k : Int} : ∀ {l : List Prt} {n : Nat}, n < 1000000 → n < (l.filter (fun x => x.kind = k)).length → partR k l n = ((l.filter (fun x => x.kind = k))[n]?).map Prt.at_
  | [], _, _, h => by simp at h
  | x :: l, n, hb, h => by
    unfold partR
    by_cases hk : x.kind = k
    · rw [if_pos hk]
      rw [List.filter_cons_of_pos (by simpa using hk)] at h ⊢
      cases n with
      | zero => simp
      | succ n =>
        rw [if_neg (by omega), wI_sub (by unfold i64B; omega), if_neg (by omega), show ((n + 1 : Nat) : Int) - 1 = (n : Int) by omega, partR_some (by omega) (by simpa using h)]
        simp
    · rw [if_neg hk]
      rw [List.filter_cons_of_neg (by simpa using hk)] at h ⊢
      exact partR_some hb h
theorem itsL_at {a : Nat} {ws : List Nat} : ∀ (m n : Nat), n < sumW ws m → ((itsL a ws m)[n]?).map Prt.at_ = some ((40 * a + 32 * n : Nat) : Int)
  | 0, n, h => by simp [sumW] at h
  | m + 1, n, h => by
    rw [sumW_succ] at h
    rw [itsL_succ]
    by_cases hn : n < sumW ws m
    · rw [List.getElem?_append_left (by rw [itsL_len]; exact hn)]
      exact itsL_at m n hn
    · rw [List.getElem?_append_right (by rw [itsL_len]; omega), itsL_len]
      unfold itL
      rw [List.getElem?_map, List.getElem?_range (by omega)]
      simp only [Option.map_some, itP, Option.some.injEq]
      omega
theorem filter_range {α : Type} (f : Nat → α) (q : α → Bool) (b : Bool) (n : Nat) (h : ∀ i, q (f i) = b) : ((List.range n).map f).filter q = if b then (List.range n).map f else [] := by
  cases b with
  | true => rw [if_pos rfl, List.filter_eq_self]; intro x hx; obtain ⟨i, _, rfl⟩ := List.mem_map.1 hx; exact h i
  | false => rw [if_neg (by simp), List.filter_eq_nil_iff]; intro x hx; obtain ⟨i, _, rfl⟩ := List.mem_map.1 hx; rw [h i]; simp
theorem its_kind {a : Nat} {ws : List Nat} {m : Nat} : ∀ x ∈ itsL a ws m, x.kind = 3 := by
  intro x hx
  unfold itsL itL at hx
  obtain ⟨l, _, hx⟩ := List.mem_flatMap.1 hx
  obtain ⟨i, _, rfl⟩ := List.mem_map.1 hx
  rfl
theorem part_fact {p : Pl} (h : rightB p = true) {k n : Int} (hk : k = 1 ∨ k = 2 ∨ k = 3) (hn : i64B n) : partR k (partsL p) n = if partB p k n then some (partA p k n) else none := by
  have hsh := (rightB_iff.1 h).1
  have ha := allI_in h
  have haN : (allN p : Int) = allI p := by unfold allN; omega
  have hl := parts_len h
  have ht := totN_le h
  obtain ⟨N, hN⟩ : ∃ N, allN p = N := ⟨_, rfl⟩
  have hP : partsL p = dtL N ++ itsL N (wsOf p) (wsOf p).length := by unfold partsL; rw [if_pos h, hN]
  have d1 : ∀ (q : Prt → Bool) b c, (∀ i, q (dataP i) = b) → (∀ i, q (tagP N i) = c) → (dtL N).filter q = (if b then (List.range N).map dataP else []) ++ (if c then (List.range N).map (tagP N) else []) := by
    intro q b c h1 h2
    unfold dtL
    rw [List.filter_append, filter_range dataP q b N h1, filter_range (tagP N) q c N h2]
  have d2 : ∀ (q : Prt → Bool) b, (∀ x : Prt, x.kind = 3 → q x = b) → (itsL N (wsOf p) (wsOf p).length).filter q = if b then itsL N (wsOf p) (wsOf p).length else [] := by
    intro q b h1
    cases b with
    | true => rw [if_pos rfl, List.filter_eq_self]; intro x hx; exact h1 x (its_kind x hx)
    | false => rw [if_neg (by simp), List.filter_eq_nil_iff]; intro x hx; rw [h1 x (its_kind x hx)]; simp
  rcases hk with rfl | rfl | rfl
  · have hf : (partsL p).filter (fun x => x.kind = 1) = (List.range N).map dataP := by
      rw [hP, List.filter_append, d1 _ true false (fun i => rfl) (fun i => rfl), d2 _ false (fun x hx => by simp [hx])]; simp
    unfold partB partA
    simp only [if_true, true_or]
    cases hb : lineB p n with
    | true =>
      have : 0 ≤ n ∧ n < allI p := by unfold lineB at hb; simp at hb; exact ⟨hb.1.2, hb.2⟩
      obtain ⟨m, rfl⟩ : ∃ m : Nat, n = m := ⟨n.toNat, by omega⟩
      rw [partR_some (by omega) (by rw [hf]; simp; omega), hf, List.getElem?_map, List.getElem?_range (by omega)]
      simp [dataP]; omega
    | false =>
      have : n < 0 ∨ allI p ≤ n := by
        unfold lineB at hb; rw [h] at hb; simp at hb
        by_cases h0 : 0 ≤ n
        · exact .inr (hb h0)
        · exact .inl (by omega)
      rw [partR_none hn (by rw [hf]; simp; omega) (by omega)]
      rfl
  · have hf : (partsL p).filter (fun x => x.kind = 2) = (List.range N).map (tagP N) := by
      rw [hP, List.filter_append, d1 _ false true (fun i => rfl) (fun i => rfl), d2 _ false (fun x hx => by simp [hx])]; simp
    unfold partB partA
    simp only [if_true, or_true, show ¬ ((2 : Int) = 1) by decide, if_false]
    cases hb : lineB p n with
    | true =>
      have : 0 ≤ n ∧ n < allI p := by unfold lineB at hb; simp at hb; exact ⟨hb.1.2, hb.2⟩
      obtain ⟨m, rfl⟩ : ∃ m : Nat, n = m := ⟨n.toNat, by omega⟩
      rw [partR_some (by omega) (by rw [hf]; simp; omega), hf, List.getElem?_map, List.getElem?_range (by omega)]
      simp [tagP]; omega
    | false =>
      have : n < 0 ∨ allI p ≤ n := by
        unfold lineB at hb; rw [h] at hb; simp at hb
        by_cases h0 : 0 ≤ n
        · exact .inr (hb h0)
        · exact .inl (by omega)
      rw [partR_none hn (by rw [hf]; simp; omega) (by omega)]
      rfl
  · have hf : (partsL p).filter (fun x => x.kind = 3) = itsL N (wsOf p) (wsOf p).length := by
      rw [hP, List.filter_append, d1 _ false false (fun i => rfl) (fun i => rfl), d2 _ true (fun x hx => by simp [hx])]; simp
    unfold partB partA
    simp only [show ¬ ((3 : Int) = 1) by decide, show ¬ ((3 : Int) = 2) by decide, if_false, or_self]
    cases hb : itB p n with
    | true =>
      have : 0 ≤ n ∧ n < totN p := by unfold itB at hb; simp at hb; exact ⟨hb.1.2, hb.2⟩
      obtain ⟨m, rfl⟩ : ∃ m : Nat, n = m := ⟨n.toNat, by omega⟩
      have hm : m < sumW (wsOf p) (wsOf p).length := by unfold totN at this; omega
      rw [partR_some (by omega) (by rw [hf, itsL_len]; exact hm), hf, itsL_at _ _ hm]
      simp; omega
    | false =>
      have : n < 0 ∨ (totN p : Int) ≤ n := by
        unfold itB at hb; rw [h] at hb; simp at hb
        by_cases h0 : 0 ≤ n
        · exact .inr (hb h0)
        · exact .inl (by omega)
      rw [partR_none hn (by rw [hf, itsL_len]; unfold totN at this; omega) (by omega)]
      rfl
end Go.Proofs.Ytklhmlplabkoeaa
