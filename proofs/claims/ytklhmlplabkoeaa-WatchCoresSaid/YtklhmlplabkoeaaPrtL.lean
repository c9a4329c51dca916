/- What stands in memory: plain facts. Conditions: none. -/
import Derived.Test.YtklhmlplabkoeaaPrt
set_option linter.unusedVariables false
set_option linter.unusedSimpArgs false
namespace Go.Proofs.Ytklhmlplabkoeaa
open Go.RowKit Go.Bst Go.MapKept
theorem parts_data {p : Pl} (h : rightB p = true) {k : Nat} (hk : k < allN p) : (partsL p)[k]? = some (dataP k) := by
  unfold partsL dtL
  rw [if_pos h, List.append_assoc, List.getElem?_append_left (by simp; exact hk), List.getElem?_map, List.getElem?_range hk]; rfl
/-- The cells of the k-th of structs in a row. -/
theorem rowN_cells {α : Type} {f : α → Array Value} {sz : Nat} {l : List α} {k : Nat} {x : α} (hf : ∀ x, (f x).size = sz) (hk : l[k]? = some x) : ∀ r u, (f x).toList[r]? = some u → (flat (l.map f))[k * sz + r]? = some u := fun r u hu =>
  flat_at (sz := sz) (by intro m hm; obtain ⟨y, _, rfl⟩ := List.mem_map.1 hm; exact hf y) (by rw [List.getElem?_map, hk]; rfl) hu
theorem itsL_len {a : Nat} {ws : List Nat} : ∀ m, (itsL a ws m).length = sumW ws m
  | 0 => by simp [itsL, sumW]
  | m + 1 => by rw [itsL_succ, List.length_append, itsL_len m, sumW_succ]; simp [itL]
theorem parts_len {p : Pl} (h : rightB p = true) : (partsL p).length ≤ 1000 := by
  have h1 := allI_in h
  have h2 := (rightB_iff.1 h).1
  have h3 := sumW_le (ws_mem h2) (wsOf p).length
  have h4 := ws_len h2
  unfold partsL dtL
  rw [if_pos h, List.length_append, itsL_len, List.length_append, List.length_map, List.length_map, List.length_range]
  have : allN p ≤ 128 := by unfold allN; omega
  omega
theorem prt_c {x : Prt} {i : Nat} {v : Value} (h : x.cs[i]? = some v) : x.cs.toList[i]? = some v := by simpa using h
theorem prt_plc (x : Prt) : ∀ (r : Nat) (u : Value), (Plc.mk x.kind x.line x.lev x.idx x.off).cs.toList[r]? = some u → x.cs.toList[r]? = some u := by
  unfold Plc.cs Prt.cs
  intro r u hu
  rcases r with _ | _ | _ | _ | _ | r <;> simp at hu ⊢ <;> exact hu
end Go.Proofs.Ytklhmlplabkoeaa
