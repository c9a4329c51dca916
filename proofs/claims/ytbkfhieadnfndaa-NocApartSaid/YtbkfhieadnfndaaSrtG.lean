/- slices.SortFunc over a row of structs, by the library's shelf, as a contract over heaps in part. Conditions: none. -/
import Derived.Shelf.SlSortCmp.WholeK
import Derived.Shelf.SlSortCmp.NoneTotal
import Derived.Test.YtbkfhieadnfndaaAuto
set_option linter.unusedVariables false
set_option linter.unusedSimpArgs false
namespace Go.Bst
open Go.Shelf Go.RowKit Go.Lib Go.Sort Go.Proofs
/-- Worlds that have grown out of W, and drawn. -/
def SG (W w : World) : Prop := ∃ q os, w = grow (W.drewN q) os
theorem SG.refl {W : World} : SG W W := ⟨0, #[], by simp [grow, World.drewN]⟩
theorem SG.drew {W w : World} (h : SG W w) : SG W w.drew := by
  obtain ⟨q, os, rfl⟩ := h
  exact ⟨q + 1, os, rfl⟩
theorem SG.alloc {W w : World} (h : SG W w) (o : Obj) : SG W (w.alloc o) := by
  obtain ⟨q, os, rfl⟩ := h
  exact ⟨q, os ++ #[o], by rw [alloc_eq_grow, grow_grow]⟩
theorem SG.read {W w : World} (h : SG W w) {b : Nat} {o : Obj} (hb : W.heap[b]? = some o) : w.heap[b]? = some o := by
  obtain ⟨q, os, rfl⟩ := h
  show (W.heap ++ os)[b]? = some o
  rw [Array.getElem?_append_left (Array.getElem?_eq_some_iff.1 hb).1]
  exact hb
theorem SG.old {W : World} (a b : Obj) : SG W ((W.alloc a).alloc b) := ⟨0, #[a, b], by rw [alloc_eq_grow, alloc_eq_grow, grow_grow]; rfl⟩
theorem SG.trans {W w w' : World} (h : SG W w) (h' : SG w w') : SG W w' := by
  obtain ⟨q, os, rfl⟩ := h
  obtain ⟨q', os', rfl⟩ := h'
  exact ⟨q + q', os ++ os', by simp [grow, World.drewN, Nat.add_assoc]⟩
theorem heap_at {W : World} (a b : Obj) : ((W.alloc a).alloc b).heap[W.heap.size]? = some a ∧ ((W.alloc a).alloc b).heap[W.heap.size + 1]? = some b := by
  constructor
  · show ((W.heap.push a).push b)[W.heap.size]? = some a
    simp [Array.getElem?_push]
  · show ((W.heap.push a).push b)[W.heap.size + 1]? = some b
    rw [Array.getElem?_push]; simp
section
variable {α : Type} [Inhabited α] {enc : α → List Value} {k : Nat}
theorem flatK_list (hk : ∀ x, (enc x).length = k) (d : Array α) : (flatK enc k d).toList = flat (d.toList.map fun x => (enc x).toArray) := by
  have hs : ∀ m ∈ d.toList.map (fun x => (enc x).toArray), m.size = k := by
    intro m hm
    obtain ⟨x, _, rfl⟩ := List.mem_map.1 hm
    simp [hk]
  apply List.ext_getElem?
  intro j
  by_cases hj : j < d.size * k
  · have hk0 : 0 < k := by
      rcases Nat.eq_zero_or_pos k with h | h
      · rw [h, Nat.mul_zero] at hj; omega
      · exact h
    have hq : j / k < d.size := Nat.div_lt_of_lt_mul (by rw [Nat.mul_comm]; exact hj)
    have hr : j % k < k := Nat.mod_lt _ hk0
    have e : j / k * k + j % k = j := by rw [Nat.mul_comm]; exact Nat.div_add_mod j k
    have h1 : (d.toList.map fun x => (enc x).toArray)[j / k]? = some (enc d[j / k]).toArray := by simp [hq]
    have hlt : j % k < (enc d[j / k]).length := by rw [hk]; exact hr
    have h2 := flat_at hs h1 (j := j % k) (u := (enc d[j / k])[j % k]) (by simp [hlt])
    rw [e] at h2
    rw [h2, Array.getElem?_toList]
    have h3 := get_flatK enc k d j hj
    rw [getElem!_pos d _ hq, getElem!_pos (enc d[j / k]) _ hlt, getElem!_pos (flatK enc k d) j (by simpa using hj)] at h3
    rw [Array.getElem?_eq_getElem (by simpa using hj), h3]
  · rw [List.getElem?_eq_none (by simp; omega), List.getElem?_eq_none (by rw [flat_len hs]; simp; omega)]
theorem sort_row {P : Program} {ρ : Ren} {E : Env} {F : List HP} {w : World} {T : TypeId} {v : Value} {l : List α} (L : SlLaysF0.n6 P ρ) (hk0 : 0 < k) (aE : ∀ w, (isAgg (ρ.t 24)).run P w = .ok true w) (zE : ∀ w, (Go.sizeOf (ρ.t 24)).run P w = .ok k w) (hk : ∀ x, (enc x).length = k) (h1 : ∀ x, ∀ v ∈ enc x, v.oneCell' = true)
    (cf : α → α → Int) (hO : SWO (ltOf cf)) (g : Nat) (eg : ∀ args w, (callFunc g args).run P w = .ok (.enter g args) w) (hcmp : ∀ x y W, Calls P g #[.agg (enc x).toArray, .agg (enc y).toArray] W fun e w' => e = .returned (.int .i64 (cf x y)) ∧ SG W w')
    (hl : l.length ≤ 1000000000) (hw : Sat E w (Row T k v l.length (flat (l.map fun x => (enc x).toArray)) :: F)) :
    Calls P (ρ.f 6) #[v, .func (.func g) #[] #[]] w fun e w' => e = .returned (.tuple #[]) ∧ ∃ l' : List α, l'.Perm l ∧ l'.Pairwise (fun x y => ltOf cf y x = false) ∧ Sat E w' (Row T k v l.length (flat (l'.map fun x => (enc x).toArray)) :: F) := by
  rcases Row_open hw with ⟨rfl, hn, hx, hs⟩ | ⟨b, cap, cur, rfl, h2, h3, h4, h5, h6, hs⟩
  · have : l = [] := List.length_eq_zero_iff.1 hn
    subst this
    refine (AnyF.slices_SortFunc_none L none 0 _ w).mono fun e w' ⟨he, hw'⟩ => ⟨he, [], List.Perm.refl _, List.Pairwise.nil, ?_⟩
    rw [hw']; exact hw
  · have hd : l.toArray.size = l.length := by simp
    have hb : b < w.heap.size := hs.lt 0 rfl
    have hr := hs.read 0 rfl
    have hfl := flatK_list hk l.toArray
    have hszf : (flatK enc k l.toArray).size = l.length * k := by simp
    have hH : HoldsK enc k w b 0 l.toArray := by
      intro j hj
      have hj' : j < l.length * k := by simpa using hj
      constructor
      · rw [Nat.zero_add]
        refine (cell_of_row w b j cur T (0, 0) hr).trans ?_
        have e1 : cur.toList[j]? = (flatK enc k l.toArray).toList[j]? := by
          rw [hfl, ← h5, List.getElem?_take, if_pos hj']
        rw [Array.getElem?_toList, Array.getElem?_toList] at e1
        rw [e1, Array.getElem?_eq_getElem hj, getElem!_pos (flatK enc k l.toArray) j hj]
        rfl
      · unfold World.frozen?
        rw [hr]
        simp
    have hcon := AnyQ.slices_SortFunc L k aE zE enc hk h1 cf hO g #[] b 0 cap l.toArray w eg (fun m os dk hs x y => hcmp x y _) hH hb (by rw [hd]; omega)
    rw [hd] at hcon
    refine hcon.mono fun e w' ⟨he, d', n, os, hp, hsrt, hw'⟩ => ⟨he, d'.toList, ?_, ?_, ?_⟩
    · have := hp.2.2
      rw [show (d'.extract 0 l.length) = d' from by rw [← hd, ← hp.1]; simp, show (l.toArray.extract 0 l.length) = l.toArray from by rw [← hd]; simp] at this
      exact this
    · rw [List.pairwise_iff_getElem]
      intro i j hi hj hij
      have hsz : d'.size = l.length := by rw [hp.1, hd]
      have := hsrt i j (Nat.zero_le _) hij (by rw [← hsz]; simpa using hj)
      rw [getElem!_pos d' j (by simpa using hj), getElem!_pos d' i (by simpa using hi)] at this
      simpa using this
    · have hsz : d'.size = l.length := by rw [hp.1, hd]
      have hcell : w'.heap[b]? = some (.cells (putCells id 0 (flatK enc k d') cur) T (0, 0)) := by
        subst hw'
        show ((mapBlock (Go.Sort.ahead w n) b (putCells id 0 (flatK enc k d'))).heap ++ os)[b]? = _
        have hh : (mapBlock (Go.Sort.ahead w n) b (putCells id 0 (flatK enc k d'))).heap[b]? = some (.cells (putCells id 0 (flatK enc k d') cur) T (0, 0)) := by
          unfold mapBlock
          show ((Go.Sort.ahead w n).heap.modify b _)[b]? = _
          rw [Array.getElem?_modify, if_pos rfl]
          show (w.heap[b]?).map _ = _
          rw [hr]; rfl
        rw [Array.getElem?_append_left (Array.getElem?_eq_some_iff.1 hh).1]
        exact hh
      have hs' : Sat E w' (pt b (.cells (putCells id 0 (flatK enc k d') cur) T (0, 0)) :: F) := by
        refine hs.regrow ?_ ?_ hcell (.inl rfl)
        · subst hw'; rfl
        · intro c hc hcb
          subst hw'
          show ((mapBlock (Go.Sort.ahead w n) b (putCells id 0 (flatK enc k d'))).heap ++ os)[c]? = _
          have hmod : (mapBlock (Go.Sort.ahead w n) b (putCells id 0 (flatK enc k d'))).heap[c]? = w.heap[c]? := by
            unfold mapBlock
            show ((Go.Sort.ahead w n).heap.modify b _)[c]? = _
            rw [Array.getElem?_modify, if_neg (Ne.symm hcb)]; rfl
          rw [Array.getElem?_append_left, hmod]
          unfold mapBlock
          show c < ((Go.Sort.ahead w n).heap.modify b _).size
          rw [Array.size_modify]; exact hc
      have hfl' := flatK_list hk d'
      refine Sat.imp (A := pt b (.cells (putCells id 0 (flatK enc k d') cur) T (0, 0))) ?_ hs'
      intro h hp'
      unfold Row
      refine Or.inr ⟨b, cap, putCells id 0 (flatK enc k d') cur, rfl, h2, h3, ?_, ?_, ?_, hp'⟩
      · unfold putCells; simp [h4]
      · rw [← hfl']
        apply List.ext_getElem?
        intro j
        by_cases hj : j < l.length * k
        · have hj2 : j < (flatK enc k d').size := by simp [hsz]; exact hj
          have hj3 : j < cur.size := by rw [h4]; exact Nat.lt_of_lt_of_le hj (Nat.mul_le_mul_right k h2)
          rw [List.getElem?_take, if_pos hj, Array.getElem?_toList, Array.getElem?_toList]
          unfold putCells
          rw [Array.getElem?_mapIdx, Array.getElem?_eq_getElem hj3, Option.map_some, if_pos ⟨Nat.zero_le _, by omega⟩, Array.getElem?_eq_getElem hj2, Nat.sub_zero, getElem!_pos (flatK enc k d') j hj2]
          rfl
        · rw [List.getElem?_take, if_neg hj, List.getElem?_eq_none (by simp [hsz]; omega)]
      · rw [← hfl']; simp [hsz]
end
end Go.Bst
