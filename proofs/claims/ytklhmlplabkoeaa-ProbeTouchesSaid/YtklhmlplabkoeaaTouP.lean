/- The places of memory, and the bytes of all parts: plain facts. Conditions: none. -/
import Derived.Test.YtklhmlplabkoeaaTouL
set_option linter.unusedVariables false
set_option linter.unusedSimpArgs false
namespace Go.Proofs.Ytklhmlplabkoeaa
open Go.RowKit Go.Bst
/-- Fields small enough. -/
structure Plc.Sm (x : Plc) : Prop where
  kind : i64B x.kind
  line : i64B x.line
  lev : i64B x.lev
  idx : i64B x.idx
  off : i64B x.off
theorem Plc.Sm.fits {x : Plc} (h : x.Sm) : fitAll Plc.K x.cs.toList := Plc.fit h.kind h.line h.lev h.idx h.off
theorem its_small {a : Nat} {ws : List Nat} : ∀ m, ∀ x ∈ itsL a ws m, x.kind = 3 ∧ x.line = 0 ∧ 0 ≤ x.lev ∧ x.lev < m ∧ 0 ≤ x.idx ∧ x.idx < sumW ws m
  | 0, x, h => by simp [itsL] at h
  | m + 1, x, h => by
    rw [itsL_succ, List.mem_append] at h
    rw [sumW_succ]
    rcases h with h | h
    · have := its_small m x h
      obtain ⟨h1, h2, h3, h4, h5, h6⟩ := this
      refine ⟨h1, h2, h3, by omega, h5, by omega⟩
    · unfold itL at h
      rw [List.mem_map] at h
      obtain ⟨i, hi, rfl⟩ := h
      rw [List.mem_range] at hi
      unfold itP
      refine ⟨rfl, rfl, ?_, ?_, ?_, ?_⟩ <;> dsimp only <;> omega
theorem parts_small {p : Pl} {x : Prt} (hx : x ∈ partsL p) : (plc x).Sm := by
  unfold partsL at hx
  by_cases h : rightB p = true
  · rw [if_pos h] at hx
    have hsh := (rightB_iff.1 h).1
    have h1 := allI_in h
    have h4 := ws_len hsh
    have h5 := sumW_le (ws_mem hsh) (wsOf p).length
    have h6 : allN p ≤ 128 := by unfold allN; omega
    unfold dtL at hx
    rw [List.mem_append, List.mem_append, List.mem_map, List.mem_map] at hx
    rcases hx with (⟨i, hi, rfl⟩ | ⟨i, hi, rfl⟩) | hx
    · rw [List.mem_range] at hi
      unfold plc dataP
      refine ⟨?_, ?_, ?_, ?_, ?_⟩ <;> unfold i64B <;> dsimp only <;> omega
    · rw [List.mem_range] at hi
      unfold plc tagP
      refine ⟨?_, ?_, ?_, ?_, ?_⟩ <;> unfold i64B <;> dsimp only <;> omega
    · obtain ⟨a1, a2, a3, a4, a5, a6⟩ := its_small _ x hx
      unfold plc
      refine ⟨?_, ?_, ?_, ?_, ?_⟩ <;> unfold i64B <;> dsimp only <;> omega
  · rw [if_neg h] at hx; simp at hx
theorem touch_len {p : Pl} (a n : Nat) : (touchL p a n).length ≤ 1000 := by
  unfold touchL
  split
  · simp
  · rename_i h
    rw [List.length_map]
    refine Nat.le_trans (List.length_take_le' ..) ?_
    rw [List.length_drop]
    by_cases h : rightB p = true
    · have := parts_len h; omega
    · have : partsL p = [] := by unfold partsL; rw [if_neg h]
      rw [this]; simp
theorem touch_small {p : Pl} {a n : Nat} {x : Plc} (h : x ∈ touchL p a n) : x.Sm := by
  unfold touchL at h
  split at h
  · simp at h
  · rw [List.mem_map] at h
    obtain ⟨y, hy, rfl⟩ := h
    exact parts_small (List.mem_of_mem_drop (List.mem_of_mem_take hy))
/-- One byte more, as the walk takes it. -/
theorem touch_next {p : Pl} (h : rightB p = true) {a n : Nat} (ha : a + n < sizeN p) : ∃ x, (partsL p)[pix (allN p) (a + n)]? = some x ∧ (plc x).Sm ∧
    ((n = 0 ∧ touchL p a n = [] ∧ touchL p a (n + 1) = [plc x]) ∨ (0 < n ∧ ∃ y L, (touchL p a n).length = L + 1 ∧ (touchL p a n)[L]? = some y ∧ y.Sm ∧ ((y = plc x ∧ touchL p a (n + 1) = touchL p a n) ∨ (y ≠ plc x ∧ touchL p a (n + 1) = touchL p a n ++ [plc x])))) := by
  by_cases hn : n = 0
  · subst hn
    obtain ⟨x, h1, h2, h3⟩ := touch_one h ha
    exact ⟨x, h1, parts_small (List.mem_of_getElem? h1), .inl ⟨rfl, by unfold touchL; rw [if_pos rfl], h3⟩⟩
  · obtain ⟨x, y, h1, h2, h3, h4⟩ := touch_step h (by omega) ha
    refine ⟨x, h1, parts_small (List.mem_of_getElem? h1), .inr ⟨by omega, plc y, (touchL p a n).length - 1, ?_, ?_, ?_, ?_⟩⟩
    · cases e : touchL p a n with
      | nil => rw [e] at h3; simp at h3
      | cons b l => simp
    · rw [← h3, List.getLast?_eq_getElem?]
    · exact touch_small (List.mem_of_getLast? h3)
    · rcases h4 with ⟨e, h4⟩ | ⟨e, h4⟩
      · exact .inl ⟨e.symm, h4⟩
      · exact .inr ⟨fun q => e q.symm, h4⟩
/-- What holds of every part. -/
theorem parts_all {q : Prt → Prop} (h1 : ∀ i, q (dataP i)) (h2 : ∀ a i, q (tagP a i)) (h3 : ∀ a l s i, q (itP a l s i)) {p : Pl} {x : Prt} (hx : x ∈ partsL p) : q x := by
  unfold partsL at hx
  split at hx
  · unfold dtL at hx
    rw [List.mem_append, List.mem_append, List.mem_map, List.mem_map] at hx
    rcases hx with (⟨i, hi, rfl⟩ | ⟨i, hi, rfl⟩) | hx
    · exact h1 i
    · exact h2 _ i
    · unfold itsL at hx
      rw [List.mem_flatMap] at hx
      obtain ⟨l, _, hx⟩ := hx
      unfold itL at hx
      rw [List.mem_map] at hx
      obtain ⟨i, _, rfl⟩ := hx
      exact h3 _ _ _ _
  · simp at hx
theorem parts_off {p : Pl} {x : Prt} (hx : x ∈ partsL p) : x.off = 0 := parts_all (q := fun x => x.off = 0) (fun _ => rfl) (fun _ _ => rfl) (fun _ _ _ _ => rfl) hx
theorem parts_n {p : Pl} {x : Prt} (hx : x ∈ partsL p) : x.n = 8 ∨ x.n = 32 := parts_all (q := fun x => x.n = 8 ∨ x.n = 32) (fun _ => .inr rfl) (fun _ _ => .inl rfl) (fun _ _ _ _ => .inr rfl) hx
theorem parts_plc {p : Pl} {x : Prt} (hx : x ∈ partsL p) : plc x = Plc.mk x.kind x.line x.lev x.idx x.off := by rw [parts_off hx]; rfl
theorem parts_at {p : Pl} {x : Prt} (hx : x ∈ partsL p) : 0 ≤ x.at_ ∧ x.at_ ≤ 1000000 := by
  by_cases h : rightB p = true
  · obtain ⟨j, hj⟩ := List.getElem?_of_mem hx
    have hl := parts_len h
    have hjl := (List.getElem?_eq_some_iff.1 hj).1
    obtain ⟨y, y1, y2⟩ := parts_is h (j := j) (by rw [← parts_count h]; exact hjl)
    rw [hj] at y1
    obtain rfl : x = y := Option.some.inj y1
    have h1 := allI_in h
    have h6 : allN p ≤ 128 := by unfold allN; omega
    rw [y2.loc]
    unfold aof
    repeat' split
    all_goals omega
  · unfold partsL at hx; rw [if_neg h] at hx; simp at hx
/-- The sum of lengths. -/
def sumP (l : List Prt) : Int := (l.map (·.n)).foldr (· + ·) 0
theorem sumP_cons (x : Prt) (l : List Prt) : sumP (x :: l) = x.n + sumP l := rfl
theorem sumP_app : ∀ (l m : List Prt), sumP (l ++ m) = sumP l + sumP m
  | [], m => by rw [List.nil_append]; show _ = 0 + _; omega
  | x :: l, m => by rw [List.cons_append, sumP_cons, sumP_cons, sumP_app l m]; omega
theorem sumP_const {c : Int} : ∀ {l : List Prt}, (∀ x ∈ l, x.n = c) → sumP l = c * l.length
  | [], _ => by simp [sumP]
  | x :: l, h => by
    rw [sumP_cons, h x List.mem_cons_self, sumP_const (l := l) (fun y hy => h y (List.mem_cons_of_mem _ hy)), List.length_cons, Int.natCast_succ, Int.mul_add]; omega
theorem sumP_pos {l : List Prt} (h : ∀ x ∈ l, x.n = 8 ∨ x.n = 32) : 0 ≤ sumP l := by
  induction l with
  | nil => exact Int.le_refl _
  | cons x l ih =>
    rw [sumP_cons]
    have := ih (fun y hy => h y (List.mem_cons_of_mem _ hy))
    have := h x List.mem_cons_self
    omega
theorem sumP_parts (p : Pl) : sumP (partsL p) = (sizeN p : Nat) := by
  unfold partsL sizeN
  split
  · unfold dtL totN
    rw [sumP_app, sumP_app, sumP_const (c := 32) (l := (List.range (allN p)).map dataP), sumP_const (c := 8) (l := (List.range (allN p)).map (tagP (allN p))), sumP_const (c := 32) (l := itsL (allN p) (wsOf p) (wsOf p).length), itsL_len, List.length_map, List.length_map, List.length_range]
    · omega
    · intro x hx
      unfold itsL at hx
      rw [List.mem_flatMap] at hx
      obtain ⟨l, _, hx⟩ := hx
      unfold itL at hx
      rw [List.mem_map] at hx
      obtain ⟨i, _, rfl⟩ := hx
      rfl
    · intro x hx
      rw [List.mem_map] at hx
      obtain ⟨i, _, rfl⟩ := hx
      rfl
    · intro x hx
      rw [List.mem_map] at hx
      obtain ⟨i, _, rfl⟩ := hx
      rfl
  · rfl
/-- Does a part hold one of n bytes from an address? -/
def overZ (a n : Int) (x : Prt) : Bool := decide (0 < n) && (decide (x.at_ < a + n) && decide (a < x.at_ + x.n))
theorem touch_over {p : Pl} {a n : Nat} (ha : a + n ≤ sizeN p) : touchL p a n = ((partsL p).filter (overZ a n)).map plc := by
  by_cases hn : n = 0
  · subst hn
    have : (partsL p).filter (overZ a (0 : Nat)) = [] := by
      rw [List.filter_eq_nil_iff]
      intro x _
      unfold overZ
      simp
    rw [this]
    unfold touchL
    rw [if_pos rfl]; rfl
  · have h : rightB p = true := by
      cases h : rightB p with
      | true => rfl
      | false => unfold sizeN at ha; rw [h] at ha; simp at ha; omega
    rw [touch_filter h (by omega) ha]
    congr 1
    refine List.filter_congr fun x _ => ?_
    unfold overZ overB
    have : decide ((0 : Int) < (n : Int)) = true := decide_eq_true (by omega)
    rw [this, Bool.true_and]
end Go.Proofs.Ytklhmlplabkoeaa
