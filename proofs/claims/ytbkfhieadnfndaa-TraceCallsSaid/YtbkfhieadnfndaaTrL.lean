/- A log of operations, in plain Lean: entries, and the numbers in which they were ended. Conditions: none. -/
import Derived.Test.YtbkfhieadnfndaaMapsK
set_option linter.unusedVariables false
set_option linter.unusedSimpArgs false
namespace Go.Bst
open Go.RowKit Go.MapKept

structure Ent where
  core : Int
  k : Int
  a : Int
  n : Int
  v : Int
  w : Int
  bg : Int
  en : Int
  done : Bool
  res : Int
def Ent.cs (e : Ent) : Array Value := #[.int .i64 e.core, .int .i64 e.k, .int .i64 e.a, .int .i64 e.n, .int .u64 e.v, .int .u64 e.w, .int .i64 e.bg, .int .i64 e.en, .bool e.done, .int .u64 e.res]
theorem Ent.size (e : Ent) : e.cs.size = 10 := rfl
theorem Ent.one (e : Ent) : e.cs.all (·.oneCell') = true := by simp [Ent.cs, Value.oneCell']
theorem Ent.mem (e : Ent) : ∀ u ∈ e.cs.toList, u.oneCell' = true := List.all_eq_true.1 (by simpa using e.one)
def entK : List SK := [.int .i64, .int .i64, .int .i64, .int .i64, .int .u64, .int .u64, .int .i64, .int .i64, .bool, .int .u64]
def Ent.Ok (e : Ent) : Prop := fitAll entK e.cs.toList
def openAt (c : Int) (e : Ent) : Bool := e.core == c && !e.done
def openOf (es : List Ent) (c : Int) : Option Nat := es.findIdx? (openAt c)
def cells (es : List Ent) : List Value := flat (es.map Ent.cs)
theorem cells_app (a b : List Ent) : cells (a ++ b) = cells a ++ cells b := by simp [cells, flat_app]
theorem cells_one (e : Ent) : cells [e] = e.cs.toList := by simp [cells, flat_one]
theorem cells_len (es : List Ent) : (cells es).length = es.length * 10 := by
  unfold cells
  rw [flat_len (sz := 10) (fun m hm => by obtain ⟨e, _, rfl⟩ := List.mem_map.1 hm; rfl), List.length_map]
theorem cells_mem {es : List Ent} : ∀ u ∈ cells es, u.oneCell' = true := by
  intro u hu
  unfold cells flat at hu
  obtain ⟨l, hl, hu⟩ := List.mem_flatten.1 hu
  obtain ⟨m, hm, rfl⟩ := List.mem_map.1 hl
  obtain ⟨e, _, rfl⟩ := List.mem_map.1 hm
  exact e.mem u hu

theorem openOf_app (es : List Ent) (e : Ent) (c : Int) : openOf (es ++ [e]) c = (openOf es c).or (if openAt c e then some es.length else none) := by
  unfold openOf
  rw [List.findIdx?_append]
  congr 1
  simp [List.findIdx?_cons]
theorem openOf_some {es : List Ent} {c : Int} {i : Nat} (h : openOf es c = some i) : ∃ e, es[i]? = some e ∧ e.core = c ∧ e.done = false := by
  unfold openOf at h
  rw [List.findIdx?_eq_some_iff_getElem] at h
  obtain ⟨h1, h2, _⟩ := h
  refine ⟨es[i], List.getElem?_eq_getElem h1, ?_⟩
  simpa [openAt] using h2
theorem openOf_none {es : List Ent} {c : Int} (h : openOf es c = none) {i : Nat} {e : Ent} (he : es[i]? = some e) (hc : e.core = c) : e.done = true := by
  unfold openOf at h
  rw [List.findIdx?_eq_none_iff] at h
  have := h e (List.mem_of_getElem? he)
  simpa [openAt, hc] using this

structure LogOk (cores : Int) (es : List Ent) (ended : List Nat) : Prop where
  c0 : 0 ≤ cores
  ok : ∀ e ∈ es, e.Ok
  one : ∀ (i j : Nat) (e e' : Ent), es[i]? = some e → es[j]? = some e' → e.done = false → e'.done = false → e.core = e'.core → i = j
  fin : ∀ (i : Nat) (e : Ent), es[i]? = some e → (e.done = true ↔ i ∈ ended)
  lt : ∀ i ∈ ended, i < es.length
  nd : ended.Nodup
  cnt : ended.length = es.countP (·.done)
theorem LogOk.le {cores : Int} {es : List Ent} {ended : List Nat} (h : LogOk cores es ended) : ended.length ≤ es.length := by rw [h.cnt]; exact List.countP_le_length
theorem LogOk.new {cores : Int} (h0 : 0 ≤ cores) : LogOk cores [] [] :=
  ⟨h0, by simp, by simp, by simp, by simp, by simp, by simp⟩
theorem LogOk.begin {cores : Int} {es : List Ent} {ended : List Nat} (h : LogOk cores es ended) {e : Ent} (he : e.Ok) (hd : e.done = false) (hn : openOf es e.core = none) : LogOk cores (es ++ [e]) ended := by
  have hno : ∀ (i : Nat) (x : Ent), es[i]? = some x → x.done = false → x.core ≠ e.core := fun i x hx hxd hc => by
    have := openOf_none hn hx hc; rw [hxd] at this; cases this
  have cases_ : ∀ (i : Nat) (x : Ent), (es ++ [e])[i]? = some x → es[i]? = some x ∨ (i = es.length ∧ x = e) := fun i x hx => by
    rcases Nat.lt_trichotomy i es.length with q | q | q
    · left; rwa [List.getElem?_append_left q] at hx
    · right; subst q; simp at hx; exact ⟨rfl, hx.symm⟩
    · rw [List.getElem?_eq_none (by simp; omega)] at hx; cases hx
  refine ⟨h.c0, ?_, ?_, ?_, ?_, h.nd, ?_⟩
  · intro x hx
    rcases List.mem_append.1 hx with hx | hx
    · exact h.ok x hx
    · simp at hx; subst hx; exact he
  · intro i j x y hx hy hxd hyd hc
    rcases cases_ i x hx with hx | ⟨e1, e2⟩ <;> rcases cases_ j y hy with hy | ⟨e3, e4⟩
    · exact h.one i j x y hx hy hxd hyd hc
    · exact absurd (e4 ▸ hc) (hno i x hx hxd)
    · exact absurd (e2 ▸ hc).symm (hno j y hy hyd)
    · exact e1.trans e3.symm
  · intro i x hx
    rcases cases_ i x hx with hx | ⟨rfl, rfl⟩
    · exact h.fin i x hx
    · rw [hd]
      constructor
      · intro q; cases q
      · intro q; exact absurd (h.lt _ q) (Nat.lt_irrefl _)
  · intro i hi
    have := h.lt i hi
    simp; omega
  · rw [h.cnt]; simp [hd]
def Ent.fin (e : Ent) (res at' : Int) : Ent := { e with done := true, res := res, en := at' }
theorem LogOk.endd {cores : Int} {es : List Ent} {ended : List Nat} (h : LogOk cores es ended) {i : Nat} {e : Ent} (he : es[i]? = some e) (hd : e.done = false) {res at' : Int} (hok : (e.fin res at').Ok) :
    LogOk cores (es.set i (e.fin res at')) (ended ++ [i]) := by
  have hi : i < es.length := (List.getElem?_eq_some_iff.1 he).1
  have hni : i ∉ ended := fun q => by have := (h.fin i e he).2 q; rw [hd] at this; cases this
  have get : ∀ (j : Nat) (x : Ent), (es.set i (e.fin res at'))[j]? = some x → (j = i ∧ x = e.fin res at') ∨ (j ≠ i ∧ es[j]? = some x) := fun j x hx => by
    rw [List.getElem?_set] at hx
    by_cases q : i = j
    · subst q
      rw [if_pos rfl, if_pos hi] at hx
      injection hx with hx; exact .inl ⟨rfl, hx.symm⟩
    · rw [if_neg q] at hx; exact .inr ⟨fun q' => q q'.symm, hx⟩
  refine ⟨h.c0, ?_, ?_, ?_, ?_, ?_, ?_⟩
  · intro x hx
    rcases List.mem_or_eq_of_mem_set hx with hx | rfl
    · exact h.ok x hx
    · exact hok
  · intro a b x y hx hy hxd hyd hc
    rcases get a x hx with ⟨rfl, rfl⟩ | ⟨ha, hx⟩
    · cases hxd
    · rcases get b y hy with ⟨rfl, rfl⟩ | ⟨hb, hy⟩
      · cases hyd
      · exact h.one a b x y hx hy hxd hyd hc
  · intro j x hx
    rcases get j x hx with ⟨rfl, rfl⟩ | ⟨hj, hx⟩
    · simp [Ent.fin]
    · rw [h.fin j x hx]; simp [hj]
  · intro j hj
    rw [List.length_set]
    rcases List.mem_append.1 hj with hj | hj
    · exact h.lt j hj
    · simp at hj; subst hj; exact hi
  · refine List.nodup_append.2 ⟨h.nd, by simp, ?_⟩
    intro a ha b hb
    simp at hb; subst hb
    rintro rfl; exact hni ha
  · have hget : es[i] = e := by rw [List.getElem?_eq_getElem hi] at he; injection he
    have hp : 0 < es.countP (·.done) + 1 := by omega
    rw [List.length_append, h.cnt, List.countP_set hi, hget, hd]
    simp [Ent.fin]
theorem openOf_set_same {cores : Int} {es : List Ent} {ended : List Nat} (h : LogOk cores es ended) {i : Nat} {e : Ent} (he : es[i]? = some e) (hd : e.done = false) (res at' : Int) : openOf (es.set i (e.fin res at')) e.core = none := by
  unfold openOf
  rw [List.findIdx?_eq_none_iff]
  intro x hx
  obtain ⟨j, hj⟩ := List.getElem?_of_mem hx
  rw [List.getElem?_set] at hj
  split at hj
  · split at hj
    · injection hj with hj; subst hj; simp [openAt, Ent.fin]
    · cases hj
  · rename_i q
    simp only [openAt, Bool.and_eq_false_iff, beq_eq_false_iff_ne, Bool.not_eq_false']
    by_cases hc : x.core = e.core
    · right
      cases hxd : x.done with
      | true => rfl
      | false => exact absurd (h.one i j e x he hj hd hxd hc.symm) q
    · exact .inl hc
theorem openOf_set_ne {es : List Ent} {i : Nat} {e : Ent} (he : es[i]? = some e) (res at' : Int) {c : Int} (hc : e.core ≠ c) : openOf (es.set i (e.fin res at')) c = openOf es c := by
  have hm : (es.set i (e.fin res at')).map (openAt c) = es.map (openAt c) := by
    apply List.ext_getElem?
    intro j
    rw [List.getElem?_map, List.getElem?_map, List.getElem?_set]
    split
    · rename_i q; subst q
      have hi : i < es.length := (List.getElem?_eq_some_iff.1 he).1
      rw [if_pos hi, he]
      simp [openAt, Ent.fin, hc]
    · rfl
  have key : ∀ l : List Ent, openOf l c = (l.map (openAt c)).findIdx? id := fun l => by rw [List.findIdx?_map]; rfl
  rw [key, key, hm]
theorem Ent.fin_cs (e : Ent) (res at' : Int) : ((e.cs.setIfInBounds 8 (.bool true)).setIfInBounds 9 (.int .u64 res)).setIfInBounds 7 (.int .i64 at') = (e.fin res at').cs := rfl
/-- The map's function. -/
def fOpen (es : List Ent) : Value → Option Value
  | .int _ c => (openOf es c).map (fun i => .int .i64 i)
  | _ => none
theorem cells_set (es : List Ent) (i j : Nat) (e : Ent) (v : Value) (he : es[i]? = some e) (e' : Ent) (hj : j < 10) (h : e'.cs = e.cs.setIfInBounds j v) : (cells es).set (i * 10 + j) v = cells (es.set i e') := by
  induction es generalizing i with
  | nil => simp at he
  | cons x es ih =>
    cases i with
    | zero =>
      simp at he; subst he
      rw [List.set_cons_zero]
      have e1 : ∀ (y : Ent) l, cells (y :: l) = y.cs.toList ++ cells l := fun y l => by simp [cells, flat]
      rw [e1, e1, h, List.set_append_left _ _ (by simp [Ent.size]; omega)]
      simp
    | succ i =>
      simp at he
      rw [List.set_cons_succ]
      have e1 : ∀ (y : Ent) l, cells (y :: l) = y.cs.toList ++ cells l := fun y l => by simp [cells, flat]
      rw [e1, e1, ← ih i he, List.set_append_right _ _ (by simp [Ent.size]; omega)]
      congr 2
      simp [Ent.size]; omega
theorem cells_get {es : List Ent} {i : Nat} {e : Ent} (he : es[i]? = some e) : ∀ r u, e.cs.toList[r]? = some u → (cells es)[i * 10 + r]? = some u := fun r u hu => by
  unfold cells
  exact flat_at (sz := 10) (fun m hm => by obtain ⟨e, _, rfl⟩ := List.mem_map.1 hm; rfl) (by rw [List.getElem?_map, he]; rfl) hu
/-- How many operations of a core aren't done. -/
def cnt (es : List Ent) (c : Int) : Int := if (openOf es c).isSome then 1 else 0
theorem cnt_begin {es : List Ent} {e : Ent} (hd : e.done = false) (hn : openOf es e.core = none) (c : Int) : cnt (es ++ [e]) c = if c = e.core then 1 else cnt es c := by
  unfold cnt
  rw [openOf_app]
  by_cases q : c = e.core
  · subst q; simp [hn, openAt, hd]
  · rw [if_neg q]; simp [openAt, Ne.symm q]
theorem cnt_end {cores : Int} {es : List Ent} {ended : List Nat} (h : LogOk cores es ended) {i : Nat} {e : Ent} (he : es[i]? = some e) (hd : e.done = false) (res at' : Int) (c : Int) : cnt (es.set i (e.fin res at')) c = if c = e.core then 0 else cnt es c := by
  unfold cnt
  by_cases q : c = e.core
  · subst q; rw [openOf_set_same h he hd]; simp
  · rw [if_neg q, openOf_set_ne he _ _ (Ne.symm q)]
theorem openOf_first {es : List Ent} {c : Int} {k : Nat} {e : Ent} (he : es[k]? = some e) (h : openAt c e = true) (hb : ∀ (j : Nat) (x : Ent), j < k → es[j]? = some x → openAt c x = false) : openOf es c = some k := by
  unfold openOf
  rw [List.findIdx?_eq_some_iff_getElem]
  have hk := (List.getElem?_eq_some_iff.1 he)
  obtain ⟨hk1, hk2⟩ := hk
  refine ⟨hk1, by rw [hk2]; exact h, fun j hj => ?_⟩
  have := hb j (es[j]'(by omega)) hj (List.getElem?_eq_getElem (by omega))
  simp [this]
theorem openOf_no {es : List Ent} {c : Int} (hb : ∀ (j : Nat) (x : Ent), j < es.length → es[j]? = some x → openAt c x = false) : openOf es c = none := by
  unfold openOf
  rw [List.findIdx?_eq_none_iff]
  intro x hx
  obtain ⟨j, hj⟩ := List.getElem?_of_mem hx
  exact hb j x (List.getElem?_eq_some_iff.1 hj).1 hj
end Go.Bst
