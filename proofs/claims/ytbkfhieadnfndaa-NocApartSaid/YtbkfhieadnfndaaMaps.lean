/- Maps of the call's own over heaps in part: look up, update, delete, a new one. Conditions: none. -/
import Derived.Test.YtbkfhieadnfndaaSlc
import Derived.MapKept
import Derived.Lib.SliceRun
set_option linter.unusedVariables false
set_option linter.unusedSimpArgs false
namespace Go.Bst
open Go.RowKit Go.MapKept

/-- A type of keys: how such a key is found. -/
structure KeyKind (P : Program) (kt : TypeId) (good : Value → Prop) : Prop where
  check : ∀ (e : Bool) (k : Value) (w : World), good k → (Instr.checkKey e 10000 kt k).run P w = .ok () w
  find : ∀ (k : Value) (l : List MapEntry) (w : World), good k → (∀ x ∈ l, good x.key) →
    ((Instr.findKey kt k l).run P w = .ok none w ∧ ∀ x ∈ l, x.key ≠ k) ∨ ∃ j e, (Instr.findKey kt k l).run P w = .ok (some (j, e.val)) w ∧ l[j]? = some e ∧ e.key = k
  stays : ∀ k, good k → Instr.sameBits 10000 k k = true

theorem KeyKind.plain {P : Program} {kt : TypeId} {d : TypeDesc} (hd : P.underlying kt = some d) : KeyKind P kt (IsKey d) where
  check e k w hk := run_checkKey hd hk e 9999
  find k l w hk hl := by
    rcases findNow_spec hk l 0 hl with ⟨h1, h2⟩ | ⟨j, e, h1, h2, h3⟩
    · exact .inl ⟨run_findKey hd h1, h2⟩
    · exact .inr ⟨j, e, by rw [Nat.zero_add] at h1; exact run_findKey hd h1, h2, h3⟩
  stays k hk := sameBits_self hk 10000

noncomputable def upd (f : Value → Option Value) (k : Value) (v : Option Value) : Value → Option Value := fun x => if (Classical.propDecidable (x = k)).decide then v else f x
theorem upd_same (f : Value → Option Value) (k : Value) (v : Option Value) : upd f k v k = v := by unfold upd; simp
theorem upd_ne (f : Value → Option Value) (k : Value) (v : Option Value) {x : Value} (h : x ≠ k) : upd f k v x = f x := by unfold upd; simp [h]

/-- The entries tell the function f. -/
def Tells (good : Value → Prop) (es : Array MapEntry) (clock : Nat) (f : Value → Option Value) : Prop :=
  Stamped es clock ∧ (∀ x ∈ es.toList, good x.key) ∧ ∀ k, good k → ∀ v, f k = some v ↔ ∃ e ∈ es.toList, e.key = k ∧ e.val = v
/-- A map that tells the function f of its keys. -/
def Mf (b : Nat) (good : Value → Prop) (f : Value → Option Value) : HP := exH fun es => exH fun clock => andH (Tells good es clock f) (pt b (.map es clock))

section
variable {E : Env} {w w' : World} {H F : List HP} {b : Nat} {good : Value → Prop} {f : Value → Option Value}
theorem Mf_open (s : Sat E w (Mf b good f :: F)) : ∃ es clock, Tells good es clock f ∧ Sat E w (pt b (.map es clock) :: F) := by
  obtain ⟨es, s⟩ := s.ex
  obtain ⟨clock, s⟩ := s.ex
  obtain ⟨h, s⟩ := s.and
  exact ⟨es, clock, h, s⟩
theorem Mf_shut {es : Array MapEntry} {clock : Nat} (h : Tells good es clock f) (s : Sat E w (pt b (.map es clock) :: F)) : Sat E w (Mf b good f :: F) :=
  Sat.ex_mk es (Sat.ex_mk clock (Sat.and_mk h s))
theorem Tells.congr {es : Array MapEntry} {clock : Nat} {g : Value → Option Value} (h : Tells good es clock f) (e : ∀ k, good k → f k = g k) : Tells good es clock g :=
  ⟨h.1, h.2.1, fun k hk v => by rw [← e k hk]; exact h.2.2 k hk v⟩
theorem Mf_congr {g : Value → Option Value} (s : Sat E w (Mf b good f :: F)) (e : ∀ k, good k → f k = g k) : Sat E w (Mf b good g :: F) := by
  obtain ⟨es, clock, h, s⟩ := Mf_open s
  exact Mf_shut (h.congr e) s
theorem Tells.absent {es : Array MapEntry} {clock : Nat} (h : Tells good es clock f) {k : Value} (hk : good k) (hn : ∀ x ∈ es.toList, x.key ≠ k) : f k = none := by
  cases e : f k with
  | none => rfl
  | some v => obtain ⟨x, hx, h1, _⟩ := (h.2.2 k hk v).1 e; exact absurd h1 (hn x hx)
theorem Tells.at {es : Array MapEntry} {clock : Nat} (h : Tells good es clock f) {k : Value} (hk : good k) {e : MapEntry} (he : e ∈ es.toList) (hek : e.key = k) : f k = some e.val := (h.2.2 k hk _).2 ⟨e, he, hek, rfl⟩
theorem Tells.push {es : Array MapEntry} {clock : Nat} (h : Tells good es clock f) {k v : Value} (hk : good k) (hn : ∀ x ∈ es.toList, x.key ≠ k) : Tells good (es.push { key := k, val := v, born := clock }) (clock + 1) (upd f k (Option.some v)) := by
  refine ⟨stamped_push h.1 hn, ?_, ?_⟩
  · intro x hx
    simp only [Array.toList_push, List.mem_append, List.mem_singleton] at hx
    rcases hx with hx | rfl
    · exact h.2.1 x hx
    · exact hk
  · intro k' hk' v'
    by_cases e : k' = k
    · subst e
      rw [upd_same]
      constructor
      · intro q; injection q with q; subst q
        exact ⟨{ key := k', val := v, born := clock }, by simp, rfl, rfl⟩
      · rintro ⟨x, hx, h1, h2⟩
        simp only [Array.toList_push, List.mem_append, List.mem_singleton] at hx
        rcases hx with hx | rfl
        · exact absurd h1 (hn x hx)
        · exact congrArg Option.some h2
    · rw [upd_ne _ _ _ e, h.2.2 k' hk' v']
      constructor
      · rintro ⟨x, hx, h1, h2⟩; exact ⟨x, by simp only [Array.toList_push, List.mem_append]; exact .inl hx, h1, h2⟩
      · rintro ⟨x, hx, h1, h2⟩
        simp only [Array.toList_push, List.mem_append, List.mem_singleton] at hx
        rcases hx with hx | rfl
        · exact ⟨x, hx, h1, h2⟩
        · exact absurd h1.symm e
theorem keys_unique {es : Array MapEntry} {clock : Nat} (h : Stamped es clock) {i j : Nat} {x y : MapEntry} (hx : es.toList[i]? = Option.some x) (hy : es.toList[j]? = Option.some y) (e : x.key = y.key) : i = j := by
  have hn := h.2.2
  have hi : i < es.toList.length := (List.getElem?_eq_some_iff.1 hx).1
  have hj : j < es.toList.length := (List.getElem?_eq_some_iff.1 hy).1
  refine (List.getElem?_inj (l := es.toList.map (·.key)) (by simpa using hi) hn).1 ?_
  simp only [List.getElem?_map, hx, hy, Option.map_some, e]
theorem Tells.modify {es : Array MapEntry} {clock : Nat} (h : Tells good es clock f) {k v : Value} (hk : good k) {j : Nat} {e : MapEntry} (hj : es.toList[j]? = Option.some e) (he : e.key = k) :
    Tells good (es.modify j fun e => { e with key := k, val := v }) clock (upd f k (Option.some v)) := by
  have hkey : ∀ e', es[j]? = Option.some e' → ({ e' with key := k, val := v } : MapEntry).key = e'.key := fun e' he' => by
    have : es[j]? = Option.some e := by simpa using hj
    rw [this] at he'; cases he'; exact he.symm
  have hget : ∀ i, (es.modify j fun e => { e with key := k, val := v }).toList[i]? = if j = i then Option.some { e with key := k, val := v } else es.toList[i]? := by
    intro i
    rw [Array.getElem?_toList, Array.getElem?_modify]
    by_cases q : j = i
    · subst q
      have : es[j]? = Option.some e := by simpa using hj
      simp [this]
    · simp [q]
  refine ⟨stamped_modify h.1 _ _ (fun _ _ => rfl) (fun e' _ he' => hkey e' he'), ?_, ?_⟩
  · intro x hx
    obtain ⟨i, hi⟩ := List.getElem?_of_mem hx
    rw [hget] at hi
    split at hi
    · injection hi with hi; subst hi; exact hk
    · exact h.2.1 x (List.mem_of_getElem? hi)
  · intro k' hk' v'
    by_cases q : k' = k
    · subst q
      rw [upd_same]
      constructor
      · intro q; injection q with q; subst q
        refine ⟨{ e with key := k', val := v }, ?_, rfl, rfl⟩
        refine List.mem_of_getElem? (i := j) ?_
        rw [hget, if_pos rfl]
      · rintro ⟨x, hx, h1, h2⟩
        obtain ⟨i, hi⟩ := List.getElem?_of_mem hx
        rw [hget] at hi
        split at hi
        · injection hi with hi; subst hi; exact congrArg Option.some h2
        · rename_i hne; exact absurd (keys_unique h.1 hj hi (by rw [he, h1])) hne
    · rw [upd_ne _ _ _ q, h.2.2 k' hk' v']
      constructor
      · rintro ⟨x, hx, h1, h2⟩
        obtain ⟨i, hi⟩ := List.getElem?_of_mem hx
        refine ⟨x, List.mem_of_getElem? (i := i) ?_, h1, h2⟩
        rw [hget, if_neg ?_, hi]
        rintro rfl
        rw [hj] at hi; injection hi with hi; subst hi
        exact q (h1.symm.trans he)
      · rintro ⟨x, hx, h1, h2⟩
        obtain ⟨i, hi⟩ := List.getElem?_of_mem hx
        rw [hget] at hi
        split at hi
        · injection hi with hi; subst hi; exact absurd h1.symm q
        · exact ⟨x, List.mem_of_getElem? hi, h1, h2⟩
theorem Tells.erase {es : Array MapEntry} {clock : Nat} (h : Tells good es clock f) {k : Value} (hk : good k) {j : Nat} {e : MapEntry} (hj : es.toList[j]? = Option.some e) (he : e.key = k) :
    Tells good (es.eraseIdxIfInBounds j) clock (upd f k none) := by
  have hlt : j < es.size := by have := (List.getElem?_eq_some_iff.1 hj).1; simpa using this
  have hs : (es.eraseIdxIfInBounds j).toList = es.toList.eraseIdx j := by
    unfold Array.eraseIdxIfInBounds
    rw [dif_pos hlt, Array.toList_eraseIdx]
  refine ⟨stamped_erase h.1 j, ?_, ?_⟩
  · intro x hx
    rw [hs] at hx
    exact h.2.1 x ((List.eraseIdx_sublist _ _).subset hx)
  · intro k' hk' v'
    rw [hs]
    by_cases q : k' = k
    · subst q
      rw [upd_same]
      constructor
      · intro q; cases q
      · rintro ⟨x, hx, h1, h2⟩
        obtain ⟨i, hne, hi⟩ := List.mem_eraseIdx_iff_getElem?.1 hx
        exact absurd (keys_unique h.1 hi hj (by rw [he, h1])) hne
    · rw [upd_ne _ _ _ q, h.2.2 k' hk' v']
      constructor
      · rintro ⟨x, hx, h1, h2⟩
        obtain ⟨i, hi⟩ := List.getElem?_of_mem hx
        refine ⟨x, List.mem_eraseIdx_iff_getElem?.2 ⟨i, ?_, hi⟩, h1, h2⟩
        rintro rfl
        rw [hj] at hi; injection hi with hi; subst hi
        exact q (h1.symm.trans he)
      · rintro ⟨x, hx, h1, h2⟩
        exact ⟨x, (List.eraseIdx_sublist _ _).subset hx, h1, h2⟩
theorem Tells.erase_no {es : Array MapEntry} {clock : Nat} (h : Tells good es clock f) {k : Value} (hk : good k) (hn : ∀ x ∈ es.toList, x.key ≠ k) : Tells good es clock (upd f k none) :=
  h.congr fun k' hk' => by
    by_cases q : k' = k
    · subst q; rw [upd_same]; exact h.absent hk hn
    · rw [upd_ne _ _ _ q]
theorem Tells.empty : Tells good #[] 0 (fun _ => none) := ⟨stamped_empty 0, by simp, by simp⟩
theorem Sat.setMap {o o' : Obj} (s : Sat E w (pt b o :: F)) : Sat E { w with heap := w.heap.setIfInBounds b o' } (pt b o' :: F) :=
  s.turn rfl (fun c hc => by simp [Ne.symm hc]) (fun h => by
    have := (Array.getElem?_eq_some_iff.1 h).1
    simp [this])
end

section laws
variable {P : Program} {ops : Array Oper} {Q : Exit → Act → World → Prop} {rest : List Oper} {d : Option Tmp} {ty tt t kt et : TypeId} {pos : String} {after : Array Edge} {a : Act} {E : Env} {w : World} {H : List HP} {m x y : Operand} {b : Nat} {good : Value → Prop} {f : Value → Option Value} {key z : Value}
theorem run_map_lookup (hw : Sat E w H) (k : Nat) (hk : H[k]? = some (Mf b good f)) (K : KeyKind P kt good) (hu : P.underlying t = some (.map kt et)) (hz : zeroOf P et = some z) (hg : good key) (ok : Bool) :
    (Instr.lookup t (.map (some b)) key ok).run P w = .ok (if ok then .tuple #[(f key).getD z, .bool (f key).isSome] else (f key).getD z) w := by
  obtain ⟨es, clock, ht, s⟩ := Mf_open (hw.front k hk)
  have hb := s.read 0 rfl
  have hzz := run_zeroValue (w := w) hz
  rcases K.find key es.toList w hg ht.2.1 with ⟨h1, h2⟩ | ⟨j, e, h1, h2, h3⟩
  · have hf := ht.absent hg h2
    cases ok <;> simp [Instr.lookup, run_underlying hu, MapKept.run_getObj_map hb, K.check _ _ _ hg, h1, Result.andThen, hzz, hf]
  · have hf := ht.at hg (List.mem_of_getElem? h2) h3
    cases ok <;> simp [Instr.lookup, run_underlying hu, MapKept.run_getObj_map hb, K.check _ _ _ hg, h1, Result.andThen, hf]
theorem run_map_update (hw : Sat E w H) (k : Nat) (hk : H[k]? = some (Mf b good f)) (K : KeyKind P kt good) (hu : P.underlying t = some (.map kt et)) (hg : good key) (v : Value) :
    ∃ w', (Instr.mapUpdate t (.map (some b)) key v).run P w = .ok () w' ∧ Sat E w' (H.set k (Mf b good (upd f key (some v)))) := by
  obtain ⟨es, clock, ht, s⟩ := Mf_open (hw.front k hk)
  have hb := s.read 0 rfl
  rcases K.find key es.toList w hg ht.2.1 with ⟨h1, h2⟩ | ⟨j, e, h1, h2, h3⟩
  · refine ⟨{ w with heap := w.heap.setIfInBounds b (.map (es.push { key := key, val := v, born := clock }) (clock + 1)) }, ?_, ?_⟩
    · simp [Instr.mapUpdate, run_underlying hu, MapKept.run_getObj_map hb, K.check _ _ _ hg, h1, MapKept.run_setObj_map _ hb, Result.andThen]
    · refine hw.upd k hk fun R s => ?_
      obtain ⟨es', clock', ht', s⟩ := Mf_open s
      have := s.read 0 rfl
      rw [hb] at this; injection this with this; injection this with e1 e2; subst e1; subst e2
      exact Mf_shut (ht.push hg h2) s.setMap
  · have hj : es[j]? = some e := by simpa using h2
    refine ⟨{ w with heap := w.heap.setIfInBounds b (.map (es.modify j fun e => { e with key := key, val := v }) clock) }, ?_, ?_⟩
    · have hst : (Instr.keyThatStays key key).run P w = .ok key w := by simp [Instr.keyThatStays, K.stays key hg]
      simp [Instr.mapUpdate, run_underlying hu, MapKept.run_getObj_map hb, K.check _ _ _ hg, h1, hj, h3, hst, MapKept.run_setObj_map _ hb, Result.andThen]
    · refine hw.upd k hk fun R s => ?_
      obtain ⟨es', clock', ht', s⟩ := Mf_open s
      have := s.read 0 rfl
      rw [hb] at this; injection this with this; injection this with e1 e2; subst e1; subst e2
      exact Mf_shut (ht.modify hg h2 h3) s.setMap
theorem run_map_delete (hw : Sat E w H) (k : Nat) (hk : H[k]? = some (Mf b good f)) (K : KeyKind P kt good) (hu : P.underlying t = some (.map kt et)) (hg : good key) (u ty : TypeId) :
    ∃ w', (Builtin.delete_ #[t, u] ty #[.map (some b), key]).run P w = .ok (.tuple #[]) w' ∧ Sat E w' (H.set k (Mf b good (upd f key none))) := by
  obtain ⟨es, clock, ht, s⟩ := Mf_open (hw.front k hk)
  have hb := s.read 0 rfl
  rcases K.find key es.toList w hg ht.2.1 with ⟨h1, h2⟩ | ⟨j, e, h1, h2, h3⟩
  · refine ⟨{ w with heap := w.heap.setIfInBounds b (.map es clock) }, ?_, ?_⟩
    · simp [Builtin.delete_, run_underlying hu, MapKept.run_getObj_map hb, K.check _ _ _ hg, h1, MapKept.run_setObj_map _ hb, Result.andThen]
    · refine hw.upd k hk fun R s => ?_
      obtain ⟨es', clock', ht', s⟩ := Mf_open s
      have := s.read 0 rfl
      rw [hb] at this; injection this with this; injection this with e1 e2; subst e1; subst e2
      exact Mf_shut (ht.erase_no hg h2) s.setMap
  · refine ⟨{ w with heap := w.heap.setIfInBounds b (.map (es.eraseIdxIfInBounds j) clock) }, ?_, ?_⟩
    · simp [Builtin.delete_, run_underlying hu, MapKept.run_getObj_map hb, K.check _ _ _ hg, h1, MapKept.run_setObj_map _ hb, Result.andThen]
    · refine hw.upd k hk fun R s => ?_
      obtain ⟨es', clock', ht', s⟩ := Mf_open s
      have := s.read 0 rfl
      rw [hb] at this; injection this with this; injection this with e1 e2; subst e1; subst e2
      exact Mf_shut (ht.erase hg h2 h3) s.setMap
theorem wl_makeMap (hw : Sat E w H) (good : Value → Prop) (h : ∀ b w', Sat E w' (Mf b good (fun _ => none) :: H) → wpList P ops Q rest (a.put d (.map (some b))) w') :
    wpList P ops Q ({ dst := d, op := .makeMap ty none, type := tt, pos := pos, after := after, guard := none } :: rest) a w :=
  wl_run (v := .map (some w.heap.size)) (w' := w.alloc (.map #[] 0)) (by simp [execOp, Instr.makeMap, newObj, Sem.run]) (h _ _ (Mf_shut Tells.empty (hw.alloc _)))
theorem wl_lookup (hw : Sat E w H) (hx : a.eval x = .map (some b)) (k : Nat) (hk : H[k]? = some (Mf b good f)) (K : KeyKind P kt good) (hu : P.underlying t = some (.map kt et)) (hz : zeroOf P et = some z) (hy : a.eval y = key) (hg : good key)
    (v : Value) (hv : (f key).getD z = v) (h : wpList P ops Q rest (a.put d v) w) :
    wpList P ops Q ({ dst := d, op := .lookup t x y false, type := tt, pos := pos, after := after, guard := none } :: rest) a w :=
  wl_run (by simp only [execOp, hx, hy, Sem.run_bind, run_map_lookup hw k hk K hu hz hg, Result.andThen_ok, Sem.run_pure]; rfl) (by subst hv; exact h)
theorem wl_lookup2 (hw : Sat E w H) (hx : a.eval x = .map (some b)) (k : Nat) (hk : H[k]? = some (Mf b good f)) (K : KeyKind P kt good) (hu : P.underlying t = some (.map kt et)) (hz : zeroOf P et = some z) (hy : a.eval y = key) (hg : good key)
    (v : Value) (ok : Bool) (hv : (f key).getD z = v) (hok : (f key).isSome = ok) (h : wpList P ops Q rest (a.put d (.tuple #[v, .bool ok])) w) :
    wpList P ops Q ({ dst := d, op := .lookup t x y true, type := tt, pos := pos, after := after, guard := none } :: rest) a w :=
  wl_run (by simp only [execOp, hx, hy, Sem.run_bind, run_map_lookup hw k hk K hu hz hg, Result.andThen_ok, Sem.run_pure]; rfl) (by subst hv; subst hok; exact h)
theorem wl_mapUpdate {u : Operand} (hw : Sat E w H) (hx : a.eval x = .map (some b)) (k : Nat) (hk : H[k]? = some (Mf b good f)) (K : KeyKind P kt good) (hu : P.underlying t = some (.map kt et)) (hy : a.eval y = key) (hg : good key) (v : Value) (hv : a.eval u = v)
    (h : ∀ w', Sat E w' (H.set k (Mf b good (upd f key (some v)))) → wpList P ops Q rest (a.put d undef) w') :
    wpList P ops Q ({ dst := d, op := .mapUpdate t x y u, type := tt, pos := pos, after := after, guard := none } :: rest) a w := by
  obtain ⟨w', h1, h2⟩ := run_map_update hw k hk K hu hg v
  exact wl_skip (by simp only [execOp, hx, hy, hv, Sem.run_bind, h1, Result.andThen_ok, Sem.run_pure]) (h w' h2)
theorem wl_delete {u : TypeId} (hw : Sat E w H) (hx : a.eval x = .map (some b)) (k : Nat) (hk : H[k]? = some (Mf b good f)) (K : KeyKind P kt good) (hu : P.underlying t = some (.map kt et)) (hy : a.eval y = key) (hg : good key)
    (h : ∀ w', Sat E w' (H.set k (Mf b good (upd f key none))) → wpList P ops Q rest (a.put d (.tuple #[])) w') :
    wpList P ops Q ({ dst := d, op := .call { callee := .builtin .delete, args := #[x, y], argTypes := #[t, u] }, type := tt, pos := pos, after := after, guard := none } :: rest) a w := by
  obtain ⟨w', h1, h2⟩ := run_map_delete hw k hk K hu hg u tt
  exact wl_run (by simp only [execOp, resolve, invoke, builtin, Sem.run_bind, Sem.run_pure, Result.andThen_ok, List.map_toArray, List.map_cons, List.map_nil, hx, hy, h1]) (h w' h2)
/-- A store into an element of a slice. -/
theorem wl_rowStore1 {e : TypeId} {sz n gb j cap : Nat} {A : Addr} {xs : List Value} (hw : Sat E w H) (hx : a.eval x = .pointer (some A)) (hA : A = ⟨gb, j, none⟩) (k : Nat) (hk : H[k]? = some (Row e sz (.slice (some ⟨gb, 0, none⟩) n cap) n xs)) (hj : j < n * sz)
    (v : Value) (hy : a.eval y = v) (hs : oneSize P ty = true) (h1 : v.oneCell' = true) (h : ∀ w', Sat E w' (H.set k (Row e sz (.slice (some ⟨gb, 0, none⟩) n cap) n (xs.set j v))) → wpList P ops Q rest (a.put d undef) w') :
    wpList P ops Q ({ dst := d, op := .store ty x y, type := tt, pos := pos, after := after, guard := none } :: rest) a w := by
  subst hA
  rcases Row_open (hw.front k hk) with ⟨e0, _⟩ | ⟨gb', cap', cur, e0, h2, h3, h4, h5, h6, s⟩
  · cases e0
  · injection e0 with e1 e2 e3; injection e1 with e1; injection e1 with e1; subst e1; subst e3
    have hjc : j < cur.size := by rw [h4]; exact Nat.lt_of_lt_of_le hj (Nat.mul_le_mul_right _ h2)
    refine wl_store1 s hx 0 rfl v hy hs hjc h1 ?_
    intro w' s'
    simp only [List.set_cons_zero] at s'
    have s' := Row_mk (n := n) (sz := sz) (xs := xs.set j v) h2 h3 (by simp [h4]) (by rw [Array.toList_setIfInBounds, List.take_set, h5]) s'
    refine h w' (Sat.perm s' ?_)
    have hkl : k < H.length := (List.getElem?_eq_some_iff.1 hk).1
    have := perm_front k (H := H.set k (Row e sz (.slice (some ⟨gb, 0, none⟩) n cap) n (xs.set j v))) (A := Row e sz (.slice (some ⟨gb, 0, none⟩) n cap) n (xs.set j v)) (by simp [hkl])
    rw [show (H.set k (Row e sz (.slice (some ⟨gb, 0, none⟩) n cap) n (xs.set j v))).eraseIdx k = H.eraseIdx k from by
      apply List.ext_getElem?; intro i; simp only [List.getElem?_eraseIdx, List.getElem?_set]; split <;> (try split) <;> first | rfl | omega | (exfalso; omega)] at this
    exact this.symm
theorem row_cell {e : TypeId} {sz n gb cap : Nat} {xs : List Value} (hw : Sat E w H) (k : Nat) (hk : H[k]? = some (Row e sz (.slice (some ⟨gb, 0, none⟩) n cap) n xs)) {j : Nat} {v : Value} (hv : xs[j]? = some v) : w.cell? ⟨gb, j, none⟩ = some v := by
  rcases Row_open (hw.front k hk) with ⟨e0, _⟩ | ⟨g', cap', cur, e0, h2, h3, h4, h5, h6, s⟩
  · cases e0
  · injection e0 with e1 e2 e3; injection e1 with e1; injection e1 with e1; subst e1; subst e3
    rw [cell_of_row w gb j cur e (0, 0) (s.read 0 rfl)]
    subst h5
    rw [List.getElem?_take] at hv
    split at hv
    · simpa using hv
    · cases hv
/-- A load of an element of one cell. -/
theorem wl_rowLd1 {e : TypeId} {sz n gb j cap : Nat} {A : Addr} {xs : List Value} (hw : Sat E w H) (hx : a.eval x = .pointer (some A)) (hA : A = ⟨gb, j, none⟩) (k : Nat) (hk : H[k]? = some (Row e sz (.slice (some ⟨gb, 0, none⟩) n cap) n xs))
    (ht : oneSize P ty = true) (v : Value) (hv : xs[j]? = some v) (h : wpList P ops Q rest (a.put d v) w) :
    wpList P ops Q ({ dst := d, op := .load ty x, type := tt, pos := pos, after := after, guard := none } :: rest) a w :=
  wl_ld1 hx ht (by rw [hA]; exact row_cell hw k hk hv) h
/-- .. of a struct. -/
theorem wl_rowLdA {e : TypeId} {sz n gb j cap : Nat} {A : Addr} {xs : List Value} (hw : Sat E w H) (hx : a.eval x = .pointer (some A)) (hA : A = ⟨gb, j, none⟩) (k : Nat) (hk : H[k]? = some (Row e sz (.slice (some ⟨gb, 0, none⟩) n cap) n xs))
    (m : Array Value) (ht : aggSize P ty = some m.size) (hv : ∀ r u, m.toList[r]? = some u → xs[j + r]? = some u) (h : wpList P ops Q rest (a.put d (.agg m)) w) :
    wpList P ops Q ({ dst := d, op := .load ty x, type := tt, pos := pos, after := after, guard := none } :: rest) a w :=
  wl_ldA hx ht (fun r u hu => by rw [hA, add_at]; exact row_cell hw k hk (hv r u hu)) h
/-- The address of an element. -/
theorem wl_rowIdx {ix : Operand} {el : TypeId} {sz n gb cap : Nat} {xs : List Value} (i j : Nat) (hj : i * sz = j) (hw : Sat E w H) (hx : a.eval x = .slice (some ⟨gb, 0, none⟩) n cap) (hix : a.eval ix = .int .i64 i) (k : Nat) (hk : H[k]? = some (Row el sz (.slice (some ⟨gb, 0, none⟩) n cap) n xs))
    (hu : P.underlying t = some (.slice el)) (hs : (P.info? el).map (·.size) = some sz) (hi : i < n) (h : wpList P ops Q rest (a.put d (.pointer (some ⟨gb, j, none⟩))) w) :
    wpList P ops Q ({ dst := d, op := .indexAddr t x ix, type := tt, pos := pos, after := after, guard := none } :: rest) a w :=
  wl_index i (Rd_row hw k hk) hx hix hu hs (by omega) (by omega) (fun ad hA _ => by
    injection hA with hA; subst hA
    rw [add_at, Nat.zero_add, Int.toNat_natCast, hj]; exact h)
/-- Is a slice nil? -/
theorem wl_eqNil {el : TypeId} {A : Option Addr} {n cap : Nat} {yt : TypeId} (hx : a.eval x = .slice A n cap) (hy : a.eval y = .slice none 0 0) (hu : P.underlying t = some (.slice el)) (v : Bool) (hv : A.isNone = v) (h : wpList P ops Q rest (a.put d (.bool v)) w) :
    wpList P ops Q ({ dst := d, op := .binOp .eql t x y yt, type := tt, pos := pos, after := after, guard := none } :: rest) a w := by
  subst hv
  refine wl_run ?_ h
  have hg : (eqGuard .eql t x y (.slice A n cap) (.slice none 0 0)).run P w = .ok () w := by cases x <;> cases y <;> simp [eqGuard]
  unfold execOp
  simp only [hx, hy, Sem.run_bind, hg, Lib.run_eql_slice_nil w t el A n cap 0 0 hu, Result.andThen_ok, Sem.run_pure]
end laws
attribute [irreducible] Mf
end Go.Bst
