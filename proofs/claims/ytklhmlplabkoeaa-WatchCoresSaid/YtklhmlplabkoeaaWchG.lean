/- The document's marks are the program's: each against all, and against those ahead. Conditions: none. -/
import Derived.Test.YtklhmlplabkoeaaWchB
set_option linter.unusedVariables false
set_option linter.unusedSimpArgs false
namespace Go.Proofs.Ytklhmlplabkoeaa
open Go.RowKit Go.Bst
/-- One line against all cores but its own. -/
def gk (g : Nev → List Nev → Bool) (x : Nev) (i : Nat) : Nat → List Cov → Bool
  | _, [] => false
  | k, y :: r => (if k = i then false else g x y.ls) || gk g x i (k + 1) r
def gLine (g : Nev → List Nev → Bool) (cs : List Cov) (i : Nat) (ls : List Nev) : Bool := ls.any fun x => gk g x i 0 cs
def gAll (g : Nev → List Nev → Bool) (cs : List Cov) : Nat → List Cov → Bool
  | _, [] => false
  | i, x :: r => gLine g cs i x.ls || gAll g cs (i + 1) r
def pairG (g : Nev → List Nev → Bool) (a b : List Nev) : Bool := a.any fun x => g x b
def gR (g : Nev → List Nev → Bool) : List Cov → List Cov → Bool
  | _, [] => false
  | pre, x :: r => (pre.any fun y => pairG g x.ls y.ls) || gR g (pre ++ [x]) r
theorem gk_iff {g : Nev → List Nev → Bool} {x : Nev} {i : Nat} : ∀ {r : List Cov} {k : Nat}, gk g x i k r = true ↔ ∃ j y, r[j]? = some y ∧ k + j ≠ i ∧ g x y.ls = true
  | [], k => by simp [gk]
  | y :: r, k => by
    unfold gk
    rw [Bool.or_eq_true, gk_iff]
    constructor
    · rintro (h | ⟨j, z, h1, h2, h3⟩)
      · split at h
        · cases h
        · rename_i hk
          exact ⟨0, y, rfl, by simpa using hk, h⟩
      · exact ⟨j + 1, z, by simpa using h1, by omega, h3⟩
    · rintro ⟨j, z, h1, h2, h3⟩
      cases j with
      | zero =>
        obtain rfl : y = z := by simpa using h1
        exact .inl (by rw [if_neg (by simpa using h2)]; exact h3)
      | succ j => exact .inr ⟨j, z, by simpa using h1, by omega, h3⟩
theorem gAll_iff {g : Nev → List Nev → Bool} {cs : List Cov} : ∀ {r : List Cov} {i : Nat}, gAll g cs i r = true ↔ ∃ j x, r[j]? = some x ∧ ∃ k y, cs[k]? = some y ∧ k ≠ i + j ∧ pairG g x.ls y.ls = true
  | [], i => by simp [gAll]
  | x :: r, i => by
    unfold gAll
    rw [Bool.or_eq_true, gAll_iff]
    have hl : gLine g cs i x.ls = true ↔ ∃ k y, cs[k]? = some y ∧ k ≠ i ∧ pairG g x.ls y.ls = true := by
      unfold gLine pairG
      rw [List.any_eq_true]
      constructor
      · rintro ⟨z, hz, h⟩
        obtain ⟨j, y, h1, h2, h3⟩ := gk_iff.1 h
        exact ⟨j, y, h1, by omega, List.any_eq_true.2 ⟨z, hz, h3⟩⟩
      · rintro ⟨k, y, h1, h2, h3⟩
        obtain ⟨z, hz, h4⟩ := List.any_eq_true.1 h3
        exact ⟨z, hz, gk_iff.2 ⟨k, y, h1, by omega, h4⟩⟩
    rw [hl]
    constructor
    · rintro (⟨k, y, h1, h2, h3⟩ | ⟨j, z, h1, k, y, h2, h3, h4⟩)
      · exact ⟨0, x, rfl, k, y, h1, by omega, h3⟩
      · exact ⟨j + 1, z, by simpa using h1, k, y, h2, by omega, h4⟩
    · rintro ⟨j, z, h1, k, y, h2, h3, h4⟩
      cases j with
      | zero =>
        obtain rfl : x = z := by simpa using h1
        exact .inl ⟨k, y, h2, by omega, h4⟩
      | succ j => exact .inr ⟨j, z, by simpa using h1, k, y, h2, by omega, h4⟩
theorem gR_iff {g : Nev → List Nev → Bool} {cs : List Cov} : ∀ {r pre : List Cov}, pre ++ r = cs → (gR g pre r = true ↔ ∃ j x, r[j]? = some x ∧ ∃ k y, cs[k]? = some y ∧ k < pre.length + j ∧ pairG g x.ls y.ls = true)
  | [], pre, _ => by simp [gR]
  | x :: r, pre, e => by
    unfold gR
    rw [Bool.or_eq_true, gR_iff (cs := cs) (r := r) (pre := pre ++ [x]) (by rw [List.append_assoc]; exact e), List.any_eq_true]
    constructor
    · rintro (⟨y, hy, h⟩ | ⟨j, z, h1, k, y, h2, h3, h4⟩)
      · obtain ⟨k, hk⟩ := List.getElem?_of_mem hy
        have hkl := (List.getElem?_eq_some_iff.1 hk).1
        exact ⟨0, x, rfl, k, y, by rw [← e, List.getElem?_append_left hkl]; exact hk, by omega, h⟩
      · exact ⟨j + 1, z, by simpa using h1, k, y, h2, by rw [List.length_append] at h3; simp at h3; omega, h4⟩
    · rintro ⟨j, z, h1, k, y, h2, h3, h4⟩
      cases j with
      | zero =>
        obtain rfl : x = z := by simpa using h1
        refine .inl ⟨y, ?_, h4⟩
        rw [← e, List.getElem?_append_left (by omega)] at h2
        exact List.mem_of_getElem? h2
      | succ j => exact .inr ⟨j, z, by simpa using h1, k, y, h2, by rw [List.length_append]; simp; omega, h4⟩
theorem gAll_R {g : Nev → List Nev → Bool} (hg : ∀ a b, pairG g a b = pairG g b a) (cs : List Cov) : gAll g cs 0 cs = gR g [] cs := by
  rw [Bool.eq_iff_iff, gAll_iff, gR_iff (cs := cs) rfl]
  constructor
  · rintro ⟨j, x, h1, k, y, h2, h3, h4⟩
    rcases Nat.lt_or_ge k j with h | h
    · exact ⟨j, x, h1, k, y, h2, by simpa using h, h4⟩
    · exact ⟨k, y, h2, j, x, h1, by simp; omega, by rw [hg]; exact h4⟩
  · rintro ⟨j, x, h1, k, y, h2, h3, h4⟩
    exact ⟨j, x, h1, k, y, h2, by simp at h3; omega, h4⟩
theorem aR_gR : ∀ (r pre : List Cov), aR pre r = gR rowA pre r
  | [], pre => by rw [aR_nil]; rfl
  | x :: r, pre => by
    rw [aR_cons, aR_gR r]
    show _ = ((pre.any fun y => pairG rowA x.ls y.ls) || gR rowA (pre ++ [x]) r)
    congr 1
theorem uR_gR : ∀ (r pre : List Cov), uR pre r = gR rowU pre r
  | [], pre => by rw [uR_nil]; rfl
  | x :: r, pre => by
    rw [uR_cons, uR_gR r]
    show _ = ((pre.any fun y => pairG rowU x.ls y.ls) || gR rowU (pre ++ [x]) r)
    congr 1
theorem aR_all (cs : List Cov) : gAll rowA cs 0 cs = aR [] cs := by
  rw [aR_gR]
  exact gAll_R (fun a b => pairA_comm a b) cs
theorem uR_all (cs : List Cov) : gAll rowU cs 0 cs = uR [] cs := by
  rw [uR_gR]
  exact gAll_R (fun a b => pairU_comm a b) cs
theorem gk_nil (g : Nev → List Nev → Bool) (x : Nev) (i k : Nat) : gk g x i k [] = false := rfl
theorem gk_same (g : Nev → List Nev → Bool) (x : Nev) (i : Nat) (y : Cov) (r : List Cov) : gk g x i i (y :: r) = gk g x i (i + 1) r := by
  show ((if i = i then false else g x y.ls) || _) = _
  rw [if_pos rfl, Bool.false_or]
theorem gk_else {g : Nev → List Nev → Bool} {x : Nev} {i k : Nat} {y : Cov} {r : List Cov} (h : ¬ k = i) : gk g x i k (y :: r) = (g x y.ls || gk g x i (k + 1) r) := by
  show ((if k = i then false else g x y.ls) || _) = _
  rw [if_neg h]
theorem gLine_nil (g : Nev → List Nev → Bool) (cs : List Cov) (i : Nat) : gLine g cs i [] = false := rfl
theorem gLine_cons (g : Nev → List Nev → Bool) (cs : List Cov) (i : Nat) (x : Nev) (r : List Nev) : gLine g cs i (x :: r) = (gk g x i 0 cs || gLine g cs i r) := rfl
theorem gAll_nil (g : Nev → List Nev → Bool) (cs : List Cov) (i : Nat) : gAll g cs i [] = false := rfl
theorem gAll_cons (g : Nev → List Nev → Bool) (cs : List Cov) (i : Nat) (x : Cov) (r : List Cov) : gAll g cs i (x :: r) = (gLine g cs i x.ls || gAll g cs (i + 1) r) := rfl
/-- The document's marks in a row. -/
def mkV (m : Mk) : List Value := [.bool false, .bool m.a, .bool m.k, .bool m.u, .bool false, .bool m.d, .bool false, .bool false, .bool false]
theorem mkV_at (m : Mk) {i : Nat} (h : i < 9) : (mkV m)[i]? = some (.bool (m.on i)) := by
  obtain rfl | rfl | rfl | rfl | rfl | rfl | rfl | rfl | rfl : i = 0 ∨ i = 1 ∨ i = 2 ∨ i = 3 ∨ i = 4 ∨ i = 5 ∨ i = 6 ∨ i = 7 ∨ i = 8 := by omega
  all_goals rfl
end Go.Proofs.Ytklhmlplabkoeaa
