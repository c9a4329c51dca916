/- From the reading of an argument to what a walk is told of it: structs with slices of plain elements and strings in them, slices of such. Conditions: none. -/
import Derived.Test.YtklhmlplabkoeaaLift
set_option linter.unusedVariables false
set_option linter.unusedSimpArgs false
namespace Go.Bst
open Go.RowKit Go.ChangeShapes Go.WideShapes Go.Deep

inductive NK where
  | k (s : SK)
  | sl (ks : List SK)
  | str
def NK.ok (w : World) : NK → Value → Prop
  | .k s, v => s.fits v
  | .sl ks, v => ∃ l : List (Array Value), Rd w ks.length v l.length (flat l) ∧ ∀ m ∈ l, fitAll ks m.toList
  | .str, v => ∃ s : ByteArray, v = .string s ∧ s.size ≤ maxLen
def okAll (w : World) : List NK → List Value → Prop
  | [], [] => True
  | k :: ks, v :: vs => k.ok w v ∧ okAll w ks vs
  | _, _ => False
theorem okAll_len {w : World} : ∀ {ks : List NK} {vs : List Value}, okAll w ks vs → vs.length = ks.length
  | [], [], _ => rfl
  | _ :: _, _ :: _, h => by simp [okAll_len h.2]
  | [], _ :: _, h => h.elim
  | _ :: _, [], h => h.elim
theorem okAll_mk {w : World} : ∀ {a b : List NK} {vs us : List Value}, okAll w a vs → okAll w b us → okAll w (a ++ b) (vs ++ us)
  | [], b, [], us, _, h => h
  | k :: a, b, v :: vs, us, h, h' => ⟨h.1, okAll_mk h.2 h'⟩
  | [], _, _ :: _, _, h, _ => h.elim
  | _ :: _, _, [], _, h, _ => h.elim
theorem NK.ok_sub {W w : World} (hs : Sub W w) : ∀ {k : NK} {v : Value}, k.ok W v → k.ok w v
  | .k _, _, h => h
  | .sl _, _, ⟨l, h1, h2⟩ => ⟨l, h1.sub hs, h2⟩
  | .str, _, h => h
theorem okAll_plain {w : World} : ∀ {ks : List SK} {vs : List Value}, fitAll ks vs → okAll w (ks.map .k) vs
  | [], [], _ => trivial
  | _ :: _, _ :: _, h => ⟨h.1, okAll_plain h.2⟩
  | [], _ :: _, h => h.elim
  | _ :: _, [], h => h.elim

def fieldNs (r : TypeId → Option (List NK)) : List Field → List NK → Option (List NK)
  | [], acc => some acc
  | f :: fs, acc => if f.offset ≠ acc.length then none else match r f.type with
    | some l => fieldNs r fs (acc ++ l)
    | none => none
def nkinds (P : Program) : Nat → TypeId → Option (List NK)
  | 0, _ => none
  | d + 1, t => match skinds P d t with
    | some ks => if (P.info? t).map (·.size) = some ks.length then some (ks.map .k) else none
    | none => match P.underlying t with
      | some .string => if (P.info? t).map (·.size) = some 1 then some [.str] else none
      | some (.slice e) => match skinds P d e with
        | some ks => if (P.info? e).map (·.size) = some ks.length ∧ (P.info? t).map (·.size) = some 1 then some [.sl ks] else none
        | none => none
      | some (.struct fs) => match fieldNs (nkinds P d) fs.toList [] with
        | some ks => if (P.info? t).map (·.size) = some ks.length then some ks else none
        | none => none
      | _ => none
section
variable {H : Type} {enc : TypeId × Value → H} {P : Program} {w : World} {base : Nat} {spare : Nat → Bool} {held : Bool}
def NOk (P : Program) (d : Nat) : Prop := ∀ (t : TypeId) (ks : List NK), nkinds P d t = some ks → (P.info? t).map (·.size) = some ks.length ∧ ∀ {H : Type} (enc : TypeId × Value → H) (w : World) (base : Nat) (spare : Nat → Bool) (held : Bool) (fuel : Nat) (cs : List Value) (x : DataW H × List MemPlace),
  DataW.trod enc P w base spare held fuel t cs = some x → okAll w ks cs

theorem fieldNs_ok {d : Nat} (ih : NOk P d) {n : Nat} {cs : List Value} : ∀ (fs : List Field) (acc ks : List NK) (xs : List (DataW H × List MemPlace)), fieldNs (nkinds P d) fs acc = some ks → okAll w acc (cs.take acc.length) → cs.length = ks.length →
    (∀ (i : Nat) (f : Field), fs[i]? = some f → DataW.trod enc P w base spare held n f.type ((cs.drop f.offset).take (P.cellsOf f.type)) = xs[i]?) → fs.length = xs.length → okAll w ks cs
  | [], acc, ks, xs, hk, ha, hl, _, _ => by
    simp only [fieldNs, Option.some.injEq] at hk
    subst hk
    rw [List.take_of_length_le (by omega)] at ha
    exact ha
  | f :: fs, acc, ks, xs, hk, ha, hl, ht, hx => by
    simp only [fieldNs] at hk
    split at hk
    · cases hk
    · rename_i hc
      split at hk
      · rename_i l hl'
        have ho : f.offset = acc.length := Classical.byContradiction hc
        match xs, hx with
        | y :: xs, hx =>
          have h0 := ht 0 f rfl
          simp only [List.getElem?_cons_zero] at h0
          obtain ⟨hsz, hok⟩ := ih _ _ hl'
          have hsz : P.cellsOf f.type = l.length := by
            unfold Program.cellsOf
            rw [hsz]; rfl
          rw [ho, hsz] at h0
          have f1 := hok enc w base spare held n _ _ h0
          exact fieldNs_ok ih fs (acc ++ l) ks xs hk (by
              rw [List.length_append, List.take_add]; exact okAll_mk ha f1) hl (fun i g hg => ht (i + 1) g hg) (by simpa using hx)
      · cases hk
/-- A slice whose elements are told by a predicate. -/
theorem open_by {t e : TypeId} {fuel sz : Nat} {cs : List Value} {x : DataW H × List MemPlace} {Φ : List Value → Prop} (hu : P.underlying t = some (.slice e)) (hsz : P.cellsOf e = sz) (hΦ : ∀ (n : Nat) (cs' : List Value) (y : DataW H × List MemPlace), DataW.trod enc P w base spare held n e cs' = some y → cs'.length = sz ∧ Φ cs')
    (hf : DataW.trod enc P w base spare held fuel t cs = some x) : ∃ (v : Value) (l : List (Array Value)), cs = [v] ∧ Rd w sz v l.length (flat l) ∧ ∀ m ∈ l, Φ m.toList := by
  rcases open_slice hu hf with ⟨rfl, _⟩ | ⟨a, len', cap', m, n, D, Pl, rfl, hb, hl, hm, hmm, hx, hi⟩
  · exact ⟨_, [], rfl, Rd.nil w _, by simp⟩
  · have hle : len' ≤ m := by rw [hmm]; split <;> omega
    obtain ⟨V, hV⟩ := choose_lt (α := List Value) (p := fun i cs' => w.cells? base (a.add (i * P.cellsOf e)) (P.cellsOf e) = some cs' ∧ cs'.length = sz ∧ Φ cs') (n := len') (fun i hil => by
      obtain ⟨cs', h1, h2⟩ := hi i (by omega)
      exact ⟨cs', h1, hΦ n _ _ h2⟩)
    have hfit : ∀ m ∈ (List.range len').map (fun i => (V i).toArray), Φ m.toList := by
      intro m hm
      obtain ⟨i, hi, rfl⟩ := List.mem_map.1 hm
      exact (hV i (by simpa using hi)).2.2
    have hsize : ∀ m ∈ (List.range len').map (fun i => (V i).toArray), m.size = sz := by
      intro m hm
      obtain ⟨i, hi, rfl⟩ := List.mem_map.1 hm
      simpa using (hV i (by simpa using hi)).2.1
    refine ⟨_, (List.range len').map (fun i => (V i).toArray), rfl, ⟨some a, cap', by simp, by simpa using hl, flat_len hsize, fun _ => ⟨a, rfl, ?_⟩⟩, hfit⟩
    intro j u hu
    by_cases hk0 : sz = 0
    · have := flat_len hsize
      rw [hk0, Nat.mul_zero] at this
      rw [List.eq_nil_of_length_eq_zero this] at hu
      simp at hu
    · have hjl : j < (flat ((List.range len').map (fun i => (V i).toArray))).length := (List.getElem?_eq_some_iff.1 hu).1
      rw [flat_len hsize] at hjl
      simp only [List.length_map, List.length_range] at hjl
      have hq : j / sz < len' := (Nat.div_lt_iff_lt_mul (by omega)).2 hjl
      have hr : j % sz < sz := Nat.mod_lt _ (by omega)
      obtain ⟨c1, c2, _⟩ := hV _ hq
      obtain ⟨_, c3, c4⟩ := World.cells?_some c1
      have e : j = (j / sz) * sz + j % sz := by rw [Nat.mul_comm]; exact (Nat.div_add_mod j sz).symm
      have hV' : (V (j / sz))[j % sz]? = some u := by
        obtain ⟨u', hu'⟩ : ∃ u', (V (j / sz))[j % sz]? = some u' := ⟨_, List.getElem?_eq_getElem (by rw [c2]; exact hr)⟩
        have := flat_at (k := j / sz) (m := (V (j / sz)).toArray) hsize (by simp [hq]) (j := j % sz) (u := u') (by simpa using hu')
        rw [← e, hu] at this
        rw [hu', this]
      rw [hsz] at c4
      have := c4 (j % sz) hr
      rw [add_add, ← e] at this
      rw [this, hV']
theorem nOk (P : Program) : ∀ d, NOk P d
  | 0 => fun t ks h => by cases h
  | d + 1 => by
    intro t ks h
    have ih := nOk P d
    unfold nkinds at h
    split at h
    · rename_i ks' hk
      split at h
      · rename_i hs
        simp only [Option.some.injEq] at h; subst h
        refine ⟨by rw [hs, List.length_map], fun enc w base spare held fuel cs x hx => ?_⟩
        exact okAll_plain (fitOk P d _ _ hk enc w base spare held fuel _ _ hx).1
      · cases h
    · split at h
      · rename_i hu
        split at h
        · rename_i hs
          simp only [Option.some.injEq] at h; subst h
          refine ⟨hs, fun enc w base spare held fuel cs x hx => ?_⟩
          obtain ⟨s, hcs, hxx, hsz⟩ := DataW.trod_string hu hx
          subst hcs
          exact ⟨⟨s, rfl, hsz⟩, trivial⟩
        · cases h
      · rename_i e hu
        split at h
        · rename_i ks' hk
          split at h
          · rename_i hs
            simp only [Option.some.injEq] at h; subst h
            refine ⟨hs.2, fun enc w base spare held fuel cs x hx => ?_⟩
            obtain ⟨v, l, rfl, h1, h2⟩ := open_by (sz := ks'.length) (Φ := fitAll ks') hu (by unfold Program.cellsOf; rw [hs.1]; rfl) (fun n cs' y hy => by
              have := (fitOk P d _ _ hk enc w base spare held n _ _ hy).1
              exact ⟨fitAll_len this, this⟩) hx
            exact ⟨⟨l, h1, h2⟩, trivial⟩
          · cases h
        · cases h
      · rename_i fs hu
        split at h
        · rename_i ks' hk
          split at h
          · rename_i hs
            simp only [Option.some.injEq] at h; subst h
            refine ⟨hs, fun enc w base spare held fuel cs x hx => ?_⟩
            obtain ⟨xs, n, _, rfl, hlen, hxl, hf⟩ := DataW.trod_struct hu hx
            refine fieldNs_ok (w := w) ih fs.toList [] _ xs hk trivial ?_ (fun i f hf' => hf i f (by simpa using hf')) (by simpa using hxl.symm)
            rw [hlen]; unfold Program.cellsOf; rw [hs]; rfl
          · cases h
        · cases h
      · cases h
/-- A slice that came in, of elements with slices of plain elements and strings in them. -/
theorem open_nest {t e : TypeId} {d : Nat} {ks : List NK} {A : Option Addr} {len cap : Nat} {x : DataW H} {p : List MemPlace} (hu : P.underlying t = some (.slice e)) (hk : nkinds P d e = some ks)
    (h : DataW.Trod enc P w base spare held t (.slice A len cap) x p) : ∃ l : List (Array Value), len = l.length ∧ Rd w ks.length (.slice A len cap) l.length (flat l) ∧ ∀ m ∈ l, okAll w ks m.toList := by
  obtain ⟨fuel, hf⟩ := h
  obtain ⟨hs, hok⟩ := nOk P d _ _ hk
  obtain ⟨v, l, h1, h2, h3⟩ := open_by (sz := ks.length) (Φ := okAll w ks) hu (by unfold Program.cellsOf; rw [hs]; rfl) (fun n cs' y hy => by
    have := hok enc w base spare held n _ _ hy
    exact ⟨okAll_len this, this⟩) hf
  simp only [Value.cells, List.cons.injEq, and_true] at h1
  subst h1
  have h2' := h2
  obtain ⟨A', c', e1, _, _, _⟩ := h2'
  injection e1 with _ e2 _
  exact ⟨l, e2, h2, h3⟩
/-- A struct that came in. -/
theorem open_nstruct {t : TypeId} {d : Nat} {ks : List NK} {cs : Array Value} {x : DataW H} {p : List MemPlace} (hk : nkinds P d t = some ks)
    (h : DataW.Trod enc P w base spare held t (.agg cs) x p) : okAll w ks cs.toList := by
  obtain ⟨fuel, hf⟩ := h
  exact (nOk P d _ _ hk).2 enc w base spare held fuel _ _ hf
end
end Go.Bst
