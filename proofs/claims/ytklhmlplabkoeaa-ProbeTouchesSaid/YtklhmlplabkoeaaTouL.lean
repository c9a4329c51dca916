/- Which places of memory bytes belong to, in plain Lean. Conditions: none. -/
import Derived.Test.YtklhmlplabkoeaaPrbL
set_option linter.unusedVariables false
set_option linter.unusedSimpArgs false
namespace Go.Proofs.Ytklhmlplabkoeaa
open Go.RowKit Go.Bst
def plc (x : Prt) : Plc := ⟨x.kind, x.line, x.lev, x.idx, 0⟩
/-- Of N lines: where the j-th part begins, how long it is; which one an address belongs to. -/
def aof (N j : Nat) : Nat := if j < N then 32 * j else if j < 2 * N then 32 * N + 8 * (j - N) else 40 * N + 32 * (j - 2 * N)
def nof (N j : Nat) : Nat := if j < N then 32 else if j < 2 * N then 8 else 32
def pix (N i : Nat) : Nat := if i < 32 * N then i / 32 else if i < 40 * N then N + (i - 32 * N) / 8 else 2 * N + (i - 40 * N) / 32
theorem pix_in (N i : Nat) : aof N (pix N i) ≤ i ∧ i < aof N (pix N i) + nof N (pix N i) := by
  unfold pix aof nof
  repeat' split
  all_goals omega
theorem pix_le {N i j : Nat} : aof N j ≤ i ↔ j ≤ pix N i := by
  unfold pix aof
  repeat' split
  all_goals omega
theorem pix_ge {N i j : Nat} : i < aof N j + nof N j ↔ pix N i ≤ j := by
  unfold pix aof nof
  repeat' split
  all_goals omega
theorem pix_step (N i : Nat) : pix N (i + 1) = pix N i ∨ pix N (i + 1) = pix N i + 1 := by
  unfold pix
  repeat' split
  all_goals omega
/-- The number of a part. -/
def jOf (ws : List Nat) (N : Nat) (x : Plc) : Int := if x.kind = 1 then x.line else if x.kind = 2 then N + x.line else 2 * N + sumW ws x.lev.toNat + x.idx
structure PartIs (p : Pl) (j : Nat) (x : Prt) : Prop where
  loc : x.at_ = (aof (allN p) j : Nat)
  len : x.n = (nof (allN p) j : Nat)
  num : jOf (wsOf p) (allN p) (plc x) = j
theorem its_is {a : Nat} {ws : List Nat} : ∀ (m n : Nat), n < sumW ws m → ∃ l i, (itsL a ws m)[n]? = some (itP a l (sumW ws l) i) ∧ sumW ws l + i = n
  | 0, n, h => by simp [sumW] at h
  | m + 1, n, h => by
    rw [sumW_succ] at h
    rw [itsL_succ]
    by_cases hn : n < sumW ws m
    · rw [List.getElem?_append_left (by rw [itsL_len]; exact hn)]
      exact its_is m n hn
    · rw [List.getElem?_append_right (by rw [itsL_len]; omega), itsL_len]
      unfold itL
      rw [List.getElem?_map, List.getElem?_range (by omega)]
      exact ⟨m, n - sumW ws m, rfl, by omega⟩
theorem parts_count {p : Pl} (h : rightB p = true) : (partsL p).length = 2 * allN p + totN p := by
  unfold partsL dtL totN
  rw [if_pos h, List.length_append, itsL_len, List.length_append, List.length_map, List.length_map, List.length_range]; omega
theorem parts_is {p : Pl} (h : rightB p = true) {j : Nat} (hj : j < 2 * allN p + totN p) : ∃ x, (partsL p)[j]? = some x ∧ PartIs p j x := by
  obtain ⟨N, hN⟩ : ∃ N, allN p = N := ⟨_, rfl⟩
  unfold partsL dtL
  rw [if_pos h, hN]
  rw [hN] at hj
  by_cases h1 : j < N
  · rw [List.getElem?_append_left (by simp; omega), List.getElem?_append_left (by simp; omega), List.getElem?_map, List.getElem?_range h1]
    refine ⟨_, rfl, ?_, ?_, ?_⟩
    · rw [hN]; unfold aof; rw [if_pos h1]; rfl
    · rw [hN]; unfold nof; rw [if_pos h1]; rfl
    · unfold jOf plc dataP; simp
  by_cases h2 : j < 2 * N
  · rw [List.getElem?_append_left (by simp; omega), List.getElem?_append_right (by simp; omega), List.getElem?_map, List.length_map, List.length_range, List.getElem?_range (by omega)]
    refine ⟨_, rfl, ?_, ?_, ?_⟩
    · rw [hN]; unfold aof; rw [if_neg h1, if_pos h2]; rfl
    · rw [hN]; unfold nof; rw [if_neg h1, if_pos h2]; rfl
    · unfold jOf plc tagP; rw [hN]; simp; omega
  · rw [List.getElem?_append_right (by simp; omega)]
    simp only [List.length_append, List.length_map, List.length_range]
    obtain ⟨l, i, e1, e2⟩ := its_is (a := N) (ws := wsOf p) (wsOf p).length (j - (N + N)) (by unfold totN at hj; omega)
    refine ⟨_, e1, ?_, ?_, ?_⟩
    · rw [hN]; unfold aof; rw [if_neg h1, if_neg h2]; unfold itP; simp only; omega
    · rw [hN]; unfold nof; rw [if_neg h1, if_neg h2]; rfl
    · unfold jOf plc itP; rw [hN]; simp; omega
def sizeN (p : Pl) : Nat := if rightB p then 40 * allN p + 32 * totN p else 0
theorem pix_lt {p : Pl} (h : rightB p = true) {i : Nat} (hi : i < sizeN p) : pix (allN p) i < 2 * allN p + totN p := by
  unfold sizeN at hi
  rw [if_pos h] at hi
  unfold pix
  repeat' split
  all_goals omega
/-- The places that n bytes from an address belong to. -/
def touchL (p : Pl) (a n : Nat) : List Plc := if n = 0 then [] else ((partsL p).drop (pix (allN p) a)).take (pix (allN p) (a + n - 1) - pix (allN p) a + 1) |>.map plc
theorem touch_one {p : Pl} (h : rightB p = true) {a : Nat} (ha : a < sizeN p) : ∃ x, (partsL p)[pix (allN p) a]? = some x ∧ PartIs p (pix (allN p) a) x ∧ touchL p a 1 = [plc x] := by
  obtain ⟨x, h1, h2⟩ := parts_is h (pix_lt h ha)
  refine ⟨x, h1, h2, ?_⟩
  unfold touchL
  rw [if_neg (by omega), show a + 1 - 1 = a by omega, Nat.sub_self, Nat.zero_add]
  obtain ⟨hl, e⟩ := List.getElem?_eq_some_iff.1 h1
  rw [List.drop_eq_getElem_cons hl, e]
  rfl
theorem pix_mono {N i j : Nat} (h : i ≤ j) : pix N i ≤ pix N j := pix_le.1 (Nat.le_trans (pix_in N i).1 h)
/-- One byte more. -/
theorem touch_step {p : Pl} (h : rightB p = true) {a n : Nat} (hn : 0 < n) (ha : a + n < sizeN p) : ∃ x y, (partsL p)[pix (allN p) (a + n)]? = some x ∧ PartIs p (pix (allN p) (a + n)) x ∧ (touchL p a n).getLast? = some (plc y) ∧
    ((plc x = plc y ∧ touchL p a (n + 1) = touchL p a n) ∨ (plc x ≠ plc y ∧ touchL p a (n + 1) = touchL p a n ++ [plc x])) := by
  obtain ⟨x, x1, x2⟩ := parts_is h (pix_lt h ha)
  obtain ⟨y, y1, y2⟩ := parts_is h (j := pix (allN p) (a + n - 1)) (pix_lt h (by omega))
  have hm : pix (allN p) a ≤ pix (allN p) (a + n - 1) := pix_mono (by omega)
  have hs := pix_step (allN p) (a + n - 1)
  rw [show a + n - 1 + 1 = a + n by omega] at hs
  obtain ⟨hxl, hxe⟩ := List.getElem?_eq_some_iff.1 x1
  obtain ⟨hyl, hye⟩ := List.getElem?_eq_some_iff.1 y1
  have e1 : touchL p a n = (((partsL p).drop (pix (allN p) a)).take (pix (allN p) (a + n - 1) - pix (allN p) a + 1)).map plc := by unfold touchL; rw [if_neg (by omega)]
  have e2 : touchL p a (n + 1) = (((partsL p).drop (pix (allN p) a)).take (pix (allN p) (a + n) - pix (allN p) a + 1)).map plc := by unfold touchL; rw [if_neg (by omega), show a + (n + 1) - 1 = a + n by omega]
  have hlast : ((touchL p a n).getLast? = some (plc y)) := by
    rw [e1, List.getLast?_map, List.take_add_one, List.getElem?_drop, show pix (allN p) a + (pix (allN p) (a + n - 1) - pix (allN p) a) = pix (allN p) (a + n - 1) by omega, y1]
    simp
  refine ⟨x, y, x1, x2, hlast, ?_⟩
  rcases hs with hs | hs
  · left
    rw [hs, y1] at x1
    obtain rfl : y = x := Option.some.inj x1
    exact ⟨rfl, by rw [e1, e2, hs]⟩
  · right
    refine ⟨fun e => ?_, ?_⟩
    · have h1 := x2.num
      have h2 := y2.num
      rw [e, h2] at h1
      omega
    · rw [e1, e2, show pix (allN p) (a + n) - pix (allN p) a + 1 = (pix (allN p) (a + n - 1) - pix (allN p) a + 1) + 1 by omega, List.take_add_one, List.map_append]
      congr 1
      rw [List.getElem?_drop, show pix (allN p) a + (pix (allN p) (a + n - 1) - pix (allN p) a + 1) = pix (allN p) (a + n) by omega, x1]
      rfl
theorem filter_span {α : Type} (q : α → Bool) : ∀ (l : List α) (lo hi b : Nat), lo ≤ hi → b ≤ lo → (∀ j x, l[j]? = some x → (q x = true ↔ lo ≤ b + j ∧ b + j ≤ hi)) → l.filter q = (l.drop (lo - b)).take (hi - lo + 1)
  | [], _, _, _, _, _, _ => by simp
  | x :: l, lo, hi, b, h1, h2, h => by
    have h0 := h 0 x rfl
    by_cases hb : b = lo
    · subst hb
      have hq : q x = true := h0.2 (by omega)
      rw [List.filter_cons_of_pos hq, Nat.sub_self, List.drop_zero, List.take_succ_cons]
      congr 1
      have : ∀ (l : List α) (k : Nat), (∀ j x, l[j]? = some x → (q x = true ↔ j < k)) → l.filter q = l.take k := by
        intro l
        induction l with
        | nil => intro k _; simp
        | cons y l ih =>
          intro k hk
          cases k with
          | zero =>
            rw [List.take_zero, List.filter_eq_nil_iff]
            intro z hz
            obtain ⟨i, hi⟩ := List.getElem?_of_mem hz
            have := hk i z hi
            simp at this
            simp [this]
          | succ k =>
            rw [List.filter_cons_of_pos ((hk 0 y rfl).2 (by omega)), List.take_succ_cons, ih k (fun j x hx => by
              have := hk (j + 1) x (by simpa using hx)
              rw [this]; omega)]
      exact this l (hi - b) (fun j x hx => by
        have := h (j + 1) x (by simpa using hx)
        rw [this]; omega)
    · have hq : ¬ q x = true := fun e => by have := h0.1 e; omega
      rw [List.filter_cons_of_neg hq, show lo - b = (lo - (b + 1)) + 1 by omega, List.drop_succ_cons]
      exact filter_span q l lo hi (b + 1) h1 (by omega) (fun j x hx => by
        have := h (j + 1) x (by simpa using hx)
        rw [this]; omega)
def overB (a n : Nat) (x : Prt) : Bool := decide (x.at_ < (a : Int) + n) && decide ((a : Int) < x.at_ + x.n)
theorem touch_filter {p : Pl} (h : rightB p = true) {a n : Nat} (hn : 0 < n) (ha : a + n ≤ sizeN p) : touchL p a n = ((partsL p).filter (overB a n)).map plc := by
  unfold touchL
  rw [if_neg (by omega), filter_span (overB a n) (partsL p) (pix (allN p) a) (pix (allN p) (a + n - 1)) 0 (pix_mono (by omega)) (Nat.zero_le _) (fun j x hx => ?_), Nat.sub_zero]
  obtain ⟨y, y1, y2⟩ := parts_is h (j := j) (by rw [← parts_count h]; exact (List.getElem?_eq_some_iff.1 hx).1)
  rw [hx] at y1
  obtain rfl : x = y := Option.some.inj y1
  unfold overB
  rw [Nat.zero_add, ← pix_ge, ← pix_le, y2.loc, y2.len]
  simp only [Bool.and_eq_true, decide_eq_true_eq]
  omega
end Go.Proofs.Ytklhmlplabkoeaa
