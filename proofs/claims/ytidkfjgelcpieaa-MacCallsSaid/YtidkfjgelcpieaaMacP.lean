/- What stays true of a book, in plain Lean: each message has one mark, with the tag that is fresh. Conditions: none. -/
import Derived.Test.YtidkfjgelcpieaaMacL
import Derived.Test.YtidkfjgelcpieaaMaps
set_option linter.unusedVariables false
set_option linter.unusedSimpArgs false
namespace Go.Bst
open Go.RowKit Go.MapKept

/-- The tag of the mark i, in a book with or without a key. -/
def tagOf (key : Option (List UInt8)) (m : List UInt8) (i : Nat) : BitVec 64 := match key with
  | none => BitVec.ofInt 64 (i : Int) + 1#64
  | some k => sumOf k m
structure Mi (s : Bk) (k : Nat) : Prop where
  len : s.ms.length ≤ k
  blen : s.bs.length ≤ k
  msgs : ∀ x ∈ s.ms, x.msg.length ≤ 100
  own : ∀ (i : Nat) (x : Mk), s.ms[i]? = some x → idx s.ms x.msg = some i ∧ x.tag = tagOf s.key x.msg i
theorem Mi.new (key : Option (List UInt8)) : Mi ⟨key, [], []⟩ 0 := ⟨Nat.le_refl _, Nat.le_refl _, by simp, by simp⟩
theorem Mi.verS {s : Bk} {k : Nat} (h : Mi s k) (m : List UInt8) (t : BitVec 64) : Mi (s.verS m t) (k + 1) ∧ (s.verS m t).ms = s.ms ∧ (s.verS m t).key = s.key := by
  unfold Bk.verS
  have := h.blen
  have := h.len
  split
  · split
    · exact ⟨⟨by omega, by omega, h.msgs, h.own⟩, rfl, rfl⟩
    · exact ⟨⟨by simp only; omega, by simp; omega, h.msgs, h.own⟩, rfl, rfl⟩
  · exact ⟨⟨by omega, by omega, h.msgs, h.own⟩, rfl, rfl⟩
theorem fresh_tagOf (s : Bk) (m : List UInt8) : s.fresh m = tagOf s.key m s.ms.length := by
  unfold Bk.fresh tagOf
  cases s.key <;> rfl
theorem twins_len (s : Bk) (m : List UInt8) (t : BitVec 64) : (s.twins m t).length ≤ 1 := by
  unfold Bk.twins; split <;> simp
theorem tagS_key (s : Bk) (m : List UInt8) : (s.tagS m).key = s.key := by unfold Bk.tagS; split <;> rfl
theorem Mi.tagS {s : Bk} {k : Nat} (h : Mi s k) {m : List UInt8} (hm : m.length ≤ 100) : Mi (s.tagS m) (k + 1) := by
  have h1 := h.len
  have h2 := h.blen
  cases hi : idx s.ms m with
  | some i =>
    have e1 : s.tagS m = s := by unfold Bk.tagS; rw [hi]
    rw [e1]
    exact ⟨by omega, by omega, h.msgs, h.own⟩
  | none =>
    have e1 : s.tagS m = ⟨s.key, s.ms ++ [⟨m, s.fresh m⟩], s.bs ++ s.twins m (s.fresh m)⟩ := by unfold Bk.tagS; rw [hi]
    have h3 := twins_len s m (s.fresh m)
    rw [e1]
    refine ⟨by simp; omega, by simp; omega, fun x hx => ?_, fun i x hx => ?_⟩
    · rcases List.mem_append.1 hx with hx | hx
      · exact h.msgs x hx
      · simp only [List.mem_singleton] at hx; subst hx; exact hm
    · rcases Nat.lt_or_ge i s.ms.length with hl | hl
      · simp only [List.getElem?_append_left hl] at hx
        obtain ⟨o1, o2⟩ := h.own i x hx
        exact ⟨by simp only; rw [idx_app, o1]; rfl, o2⟩
      · simp only [List.getElem?_append_right hl] at hx
        have hz : i - s.ms.length = 0 := by
          have := (List.getElem?_eq_some_iff.1 hx).1
          simp at this; omega
        rw [hz] at hx
        simp at hx
        subst hx
        obtain rfl : i = s.ms.length := by omega
        exact ⟨by simp only; rw [idx_app, hi]; simp, fresh_tagOf s m⟩
theorem Mi.fits {s : Bk} {k : Nat} (h : Mi s k) {i : Nat} {x : Mk} (hx : s.ms[i]? = some x) : s.fits x.msg x.tag = true ∧ s.verS x.msg x.tag = s := by
  obtain ⟨o1, o2⟩ := h.own i x hx
  have hf : s.fits x.msg x.tag = true := by
    unfold Bk.fits
    cases hk : s.key with
    | none => simp only [o1]; simp [tagAt, hx]
    | some key => simp only; rw [o2, hk]; simp [tagOf]
  refine ⟨hf, ?_⟩
  unfold Bk.verS
  rw [if_pos hf, o1]
  rfl
/-- What a map from messages to their tags tells. -/
def fTags (ms : List Mk) : Value → Option Value
  | .string s => (idx ms s.data.toList).map (fun i : Nat => U (tagAt ms i))
  | _ => none
theorem fTags_str (ms : List Mk) (m : List UInt8) : fTags ms (.string (strOf m)) = (idx ms m).map (fun i : Nat => U (tagAt ms i)) := by
  unfold fTags strOf; rfl
theorem fTags_nil (k : Value) (hk : IsKey .string k) : (fun _ => none : Value → Option Value) k = fTags [] k := by
  obtain ⟨m, rfl⟩ := str_of_key hk
  rw [fTags_str]; rfl
theorem idx_lt {ms : List Mk} {m : List UInt8} {i : Nat} (h : idx ms m = some i) : i < ms.length := by
  obtain ⟨x, hx, _⟩ := idx_some h
  exact (List.getElem?_eq_some_iff.1 hx).1
theorem tagAt_app {ms : List Mk} {x : Mk} {i : Nat} (h : i < ms.length) : tagAt (ms ++ [x]) i = tagAt ms i := by
  unfold tagAt; rw [List.getElem?_append_left h]
theorem fTags_tag (s : Bk) (m : List UInt8) (k : Value) (hk : IsKey .string k) : upd (fTags s.ms) (.string (strOf m)) (some (U (s.tagR m))) k = fTags (s.tagS m).ms k := by
  obtain ⟨q, rfl⟩ := str_of_key hk
  cases hi : idx s.ms m with
  | some i =>
    have e1 : s.tagS m = s := by unfold Bk.tagS; rw [hi]
    have e2 : s.tagR m = tagAt s.ms i := by unfold Bk.tagR; rw [hi]
    rw [e1, e2]
    by_cases e : q = m
    · subst e; rw [upd_same, fTags_str, hi]; rfl
    · rw [upd_ne _ _ _ (fun h => e (strOf_inj h))]
  | none =>
    have e1 : (s.tagS m).ms = s.ms ++ [⟨m, s.fresh m⟩] := by unfold Bk.tagS; rw [hi]
    have e2 : s.tagR m = s.fresh m := by unfold Bk.tagR; rw [hi]
    rw [e1, e2]
    by_cases e : q = m
    · subst e; rw [upd_same, fTags_str, idx_app, hi]; simp [tagAt]
    · rw [upd_ne _ _ _ (fun h => e (strOf_inj h)), fTags_str, fTags_str, idx_app]
      cases hq : idx s.ms q with
      | none => simp [Ne.symm e]
      | some j => simp [tagAt_app (idx_lt hq)]
theorem tag_old {s : Bk} {m : List UInt8} {i : Nat} (hi : idx s.ms m = some i) : s.tagR m = tagAt s.ms i := by unfold Bk.tagR; rw [hi]
theorem nodup_le {α : Type} : ∀ {l₁ l₂ : List α}, l₁.Nodup → (∀ x ∈ l₁, x ∈ l₂) → l₁.length ≤ l₂.length
  | [], _, _, _ => Nat.zero_le _
  | x :: l, l₂, h, hs => by
    obtain ⟨s, t, rfl⟩ := List.append_of_mem (hs x (by simp))
    have hn := List.nodup_cons.1 h
    have := nodup_le (l₁ := l) (l₂ := s ++ t) hn.2 (fun y hy => by
      have := hs y (by simp [hy])
      simp only [List.mem_append, List.mem_cons] at this ⊢
      rcases this with h | rfl | h
      · exact .inl h
      · exact absurd hy hn.1
      · exact .inr h)
    simp only [List.length_append, List.length_cons] at this ⊢
    omega
/-- As many entries as marks. -/
theorem tags_size {s : Bk} {k : Nat} (h : Mi s k) {es : Array MapEntry} {clock : Nat} (ht : Tells (IsKey .string) es clock (fTags s.ms)) : es.size = s.ms.length := by
  have hn : (s.ms.map (fun x => Value.string (strOf x.msg))).Nodup := by
    rw [List.nodup_iff_pairwise_ne, List.pairwise_iff_getElem]
    intro i j hi hj hij e
    simp only [List.length_map] at hi hj
    simp only [List.getElem_map] at e
    have o1 := (h.own i _ (List.getElem?_eq_getElem hi)).1
    have o2 := (h.own j _ (List.getElem?_eq_getElem hj)).1
    rw [strOf_inj e, o2] at o1
    injection o1 with o1
    omega
  have h1 := nodup_le ht.1.2.2 (l₂ := s.ms.map (fun x => Value.string (strOf x.msg))) (fun v hv => by
    obtain ⟨e, he, rfl⟩ := List.mem_map.1 hv
    have hk := ht.2.1 e he
    obtain ⟨q, hq⟩ := str_of_key hk
    have := ht.at hk he rfl
    rw [hq, fTags_str] at this
    rw [hq]
    cases hi : idx s.ms q with
    | none => rw [hi] at this; cases this
    | some i =>
      obtain ⟨x, hx, rfl⟩ := idx_some hi
      exact List.mem_map.2 ⟨x, List.mem_of_getElem? hx, rfl⟩)
  have h2 := nodup_le hn (l₂ := es.toList.map (·.key)) (fun v hv => by
    obtain ⟨x, hx, rfl⟩ := List.mem_map.1 hv
    obtain ⟨i, hi⟩ := List.getElem?_of_mem hx
    have o := (h.own i x hi).1
    have hf : fTags s.ms (.string (strOf x.msg)) = some (U (tagAt s.ms i)) := by rw [fTags_str, o]; rfl
    obtain ⟨e, he, hk, _⟩ := (ht.2.2 _ (key_str x.msg) _).1 hf
    exact List.mem_map.2 ⟨e, he, hk⟩)
  simp at h1 h2
  omega
section
variable {P : Program} {ops : Array Oper} {Q : Exit → Act → World → Prop} {rest : List Oper} {d : Option Tmp} {ty tt t kt et : TypeId} {pos : String} {after : Array Edge} {a : Act} {E : Env} {w : World} {H : List HP} {x : Operand} {b : Nat} {good : Value → Prop} {f : Value → Option Value}
theorem wl_mapLen (n : Nat) (hw : Sat E w H) (hx : a.eval x = .map (some b)) (k : Nat) (hk : H[k]? = some (Mf b good f)) (hu : P.underlying t = some (.map kt et)) (hn : ∀ es clock, Tells good es clock f → es.size = n)
    (h : wpList P ops Q rest (a.put d (.int .i64 n)) w) :
    wpList P ops Q ({ dst := d, op := .call { callee := .builtin .len, args := #[x], argTypes := #[t] }, type := tt, pos := pos, after := after, guard := none } :: rest) a w := by
  obtain ⟨es, clock, ht, s⟩ := Mf_open (hw.front k hk)
  have hb := s.read 0 rfl
  have e : (Builtin.len_ #[t] tt #[.map (some b)]).run P w = .ok (.int .i64 n) w := by
    simp [Builtin.len_, run_underlying hu, MapKept.run_getObj_map hb, Result.andThen, hn es clock ht, goInt]
  exact wl_run (by simp only [execOp, resolve, invoke, builtin, Sem.run_bind, Sem.run_pure, Result.andThen_ok, List.map_toArray, List.map_cons, List.map_nil, hx, e]) h
end
theorem rn_imaskC {P : Program} {w : World} {o : Oper} {a : Act} {x : Operand} {t yt : TypeId} {n m c : Int} (j : Nat) (hj : j < 63) (hm : m = 2 ^ j - 1) (ho : o.op = .binOp .and t x (.const (.int .i64 m)) yt) (hx : a.eval x = .int .i64 n) (hc : n % 2 ^ j = c) : (execOp a.eval o).run P w = .ok (.value (.int .i64 c)) w := by
  subst hc; exact rn_imask j hj hm ho hx
end Go.Bst
