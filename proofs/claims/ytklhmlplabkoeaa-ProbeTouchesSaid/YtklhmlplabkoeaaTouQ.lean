/- bastionref26.Touches: the document's places that an act may change: plain. Conditions: none. -/
import Derived.Test.YtklhmlplabkoeaaTouR
import Derived.Test.YtklhmlplabkoeaaTouT
set_option linter.unusedVariables false
set_option linter.unusedSimpArgs false
namespace Go.Proofs.Ytklhmlplabkoeaa
open Go.RowKit Go.Bst Go.MapKept Go.Proofs.YtklhmlplabkoeaaW.PrintLast
theorem no_cases (Z a n : Int) : (thereZ Z a n = true ∧ 0 ≤ a ∧ 0 ≤ n ∧ a ≤ Z ∧ n ≤ Z - a) ∨ (thereZ Z a n = false ∧ (a < 0 ∨ (0 ≤ a ∧ n < 0) ∨ (0 ≤ a ∧ 0 ≤ n ∧ Z < a) ∨ (0 ≤ a ∧ 0 ≤ n ∧ a ≤ Z ∧ Z - a < n))) := by
  cases h : thereZ Z a n with
  | true =>
    unfold thereZ at h
    simp only [Bool.and_eq_true, decide_eq_true_eq] at h
    exact .inl ⟨rfl, by omega⟩
  | false =>
    refine .inr ⟨rfl, ?_⟩
    unfold thereZ at h
    simp only [Bool.and_eq_false_iff, decide_eq_false_iff_not] at h
    omega
theorem touchesF_no {p : Pl} {t : Tmv} {l : Nat} (h : (writtenF (sizeN p) t l).2.2 = false) : touchesF p t l = [] := by unfold touchesF; rw [h]; rfl
theorem touchesF_in {p : Pl} {t : Tmv} {l : Nat} {a n : Int} (h : writtenF (sizeN p) t l = (a, n, true)) (h1 : 0 ≤ a) (h2 : 0 ≤ n) (h3 : a + n ≤ (sizeN p : Nat)) : touchesF p t l = ((partsL p).filter (overZ a n)).map plc := by
  obtain ⟨a, rfl⟩ : ∃ b : Nat, a = b := ⟨a.toNat, by omega⟩
  obtain ⟨n, rfl⟩ : ∃ b : Nat, n = b := ⟨n.toNat, by omega⟩
  unfold touchesF
  rw [h]
  simp only [if_true, Int.toNat_natCast]
  exact touch_over (by omega)
/-- Bytes that there are not. -/
def NoZ (Z a n : Int) : Prop := a < 0 ∨ (0 ≤ a ∧ n < 0) ∨ (0 ≤ a ∧ 0 ≤ n ∧ Z < a) ∨ (0 ≤ a ∧ 0 ≤ n ∧ a ≤ Z ∧ Z - a < n)
def NotW (Z : Int) (t : Tmv) (l : Int) : Prop := (t.kind = 1 ∧ NoZ Z t.loc l) ∨ (t.kind = 2 ∧ (t.loc < 0 ∨ (0 ≤ t.loc ∧ t.loc / 8 = Z) ∨ (0 ≤ t.loc ∧ Z < t.loc / 8))) ∨ (t.kind = 3 ∧ NoZ Z t.loc t.n) ∨ (t.kind = 3 ∧ (0 ≤ t.loc ∧ 0 ≤ t.n ∧ t.loc ≤ Z ∧ t.n ≤ Z - t.loc) ∧ NoZ Z t.to t.n) ∨ (t.kind = 5 ∧ NoZ Z t.loc t.n) ∨ (¬ t.kind = 1 ∧ ¬ t.kind = 2 ∧ ¬ t.kind = 3 ∧ ¬ t.kind = 5)
theorem no_Z {Z a n : Int} (h : thereZ Z a n = false) : NoZ Z a n := by
  rcases no_cases Z a n with ⟨hb, _⟩ | ⟨_, g⟩
  · rw [hb] at h; cases h
  · exact g
theorem yes_Z {Z a n : Int} (h : thereZ Z a n = true) : 0 ≤ a ∧ 0 ≤ n ∧ a ≤ Z ∧ n ≤ Z - a := by
  rcases no_cases Z a n with ⟨_, g⟩ | ⟨hb, _⟩
  · exact g
  · rw [hb] at h; cases h
theorem written_not {Z : Int} {t : Tmv} {l : Int} (h : (writtenF Z t l).2.2 = false) : NotW Z t l := by
  unfold writtenF at h
  by_cases k1 : t.kind = 1
  · rw [if_pos k1] at h; exact .inl ⟨k1, no_Z h⟩
  rw [if_neg k1] at h
  by_cases k2 : t.kind = 2
  · rw [if_pos k2] at h
    simp only [tdiv8, Bool.and_eq_false_iff, decide_eq_false_iff_not] at h
    refine .inr (.inl ⟨k2, ?_⟩)
    by_cases h0 : 0 ≤ t.loc
    · rw [if_pos h0] at h; omega
    · exact .inl (by omega)
  rw [if_neg k2] at h
  by_cases k3 : t.kind = 3
  · rw [if_pos k3] at h
    simp only at h
    cases h1 : thereZ Z t.loc t.n with
    | false => exact .inr (.inr (.inl ⟨k3, no_Z h1⟩))
    | true =>
      rw [h1, Bool.true_and] at h
      exact .inr (.inr (.inr (.inl ⟨k3, yes_Z h1, no_Z h⟩)))
  rw [if_neg k3] at h
  by_cases k5 : t.kind = 5
  · rw [if_pos k5] at h; exact .inr (.inr (.inr (.inr (.inl ⟨k5, no_Z h⟩))))
  · exact .inr (.inr (.inr (.inr (.inr ⟨k1, k2, k3, k5⟩))))
end Go.Proofs.Ytklhmlplabkoeaa
