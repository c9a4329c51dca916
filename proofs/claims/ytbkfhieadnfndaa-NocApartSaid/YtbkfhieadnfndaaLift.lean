/- From the reading of an argument to what a walk is told of it: structs and arrays of ints and bools, slices of such. Conditions: none. -/
import Derived.Test.YtbkfhieadnfndaaSlc
import Derived.ProofKit
import Derived.OpenShut
import Derived.ShutString
import Derived.ChangeOld
import Derived.Deep.Slices
set_option linter.unusedVariables false
set_option linter.unusedSimpArgs false
namespace Go.Bst
open Go.RowKit Go.ChangeShapes Go.WideShapes Go.Deep

section
variable {H : Type} {enc : TypeId × Value → H} {P : Program} {w : World} {base : Nat} {spare : Nat → Bool} {held : Bool}

def FitOk (P : Program) (d : Nat) : Prop := ∀ (t : TypeId) (ks : List SK), skinds P d t = some ks → ∀ {H : Type} (enc : TypeId × Value → H) (w : World) (base : Nat) (spare : Nat → Bool) (held : Bool) (fuel : Nat) (cs : List Value) (x : DataW H × List MemPlace),
  DataW.trod enc P w base spare held fuel t cs = some x → fitAll ks cs ∧ x.2 = []

theorem fieldKinds_fit {d : Nat} (ih : FitOk P d) {n : Nat} {cs : List Value} : ∀ (fs : List Field) (acc ks : List SK) (xs : List (DataW H × List MemPlace)), fieldKinds (skinds P d) fs acc = some ks → fitAll acc (cs.take acc.length) → cs.length = ks.length →
    (∀ f ∈ fs, (P.info? f.type).map (·.size) = (skinds P d f.type).map List.length) →
    (∀ (i : Nat) (f : Field), fs[i]? = some f → DataW.trod enc P w base spare held n f.type ((cs.drop f.offset).take (P.cellsOf f.type)) = xs[i]?) → fs.length = xs.length → fitAll ks cs ∧ xs.flatMap (·.2) = []
  | [], acc, ks, xs, hk, ha, hl, _, _, hx => by
    simp only [fieldKinds, Option.some.injEq] at hk
    subst hk
    rw [List.take_of_length_le (by omega)] at ha
    have : xs = [] := List.eq_nil_of_length_eq_zero (by simpa using hx.symm)
    subst this
    exact ⟨ha, rfl⟩
  | f :: fs, acc, ks, xs, hk, ha, hl, hs, ht, hx => by
    simp only [fieldKinds] at hk
    split at hk
    · cases hk
    · rename_i hc
      split at hk
      · rename_i l hl'
        have ho : f.offset = acc.length := Classical.byContradiction fun e => hc (.inr e)
        match xs, hx with
        | y :: xs, hx =>
          have h0 := ht 0 f rfl
          simp only [List.getElem?_cons_zero] at h0
          have hsz : P.cellsOf f.type = l.length := by
            have := hs f (by simp)
            rw [hl'] at this
            unfold Program.cellsOf
            rw [this]; rfl
          rw [ho, hsz] at h0
          obtain ⟨f1, f2⟩ := ih _ _ hl' enc w base spare held n _ _ h0
          obtain ⟨g1, g2⟩ := fieldKinds_fit ih fs (acc ++ l) ks xs hk (by
              rw [List.length_append, List.take_add]; exact fitAll_mk ha f1) hl (fun g hg => hs g (by simp [hg])) (fun i g hg => ht (i + 1) g hg) (by simpa using hx)
          exact ⟨g1, by simp [f2, g2]⟩
      · cases hk

theorem items_fit {d : Nat} (ih : FitOk P d) {n : Nat} {e : TypeId} {l : List SK} (hl : skinds P d e = some l) (hsz : P.cellsOf e = l.length) {cs : List Value} : ∀ (m k : Nat) (xs : List (DataW H × List MemPlace)),
    (List.range' k m).mapM (fun i => DataW.trod enc P w base spare held n e ((cs.drop (i * P.cellsOf e)).take (P.cellsOf e))) = some xs → cs.length = (k + m) * l.length →
    fitAll (List.replicate m l).flatten (cs.drop (k * l.length)) ∧ xs.flatMap (·.2) = []
  | 0, k, xs, hx, hc => by
    simp at hx
    subst hx
    rw [List.drop_of_length_le (by rw [hc]; simp)]
    exact ⟨trivial, rfl⟩
  | m + 1, k, xs, hx, hc => by
    rw [List.range'_succ, List.mapM_cons] at hx
    simp only [bind, Option.bind_eq_some_iff, pure, Option.some.injEq] at hx
    obtain ⟨y, h1, ys, h2, rfl⟩ := hx
    rw [hsz] at h1
    obtain ⟨f1, f2⟩ := ih _ _ hl enc w base spare held n _ _ h1
    obtain ⟨g1, g2⟩ := items_fit ih hl hsz m (k + 1) ys h2 (by rw [hc]; congr 1; omega)
    refine ⟨?_, by simp [f2, g2]⟩
    rw [List.replicate_succ, List.flatten_cons, ← List.take_append_drop l.length (cs.drop (k * l.length))]
    refine fitAll_mk f1 ?_
    rw [List.drop_drop, ← Nat.succ_mul]; exact g1

theorem fitOk (P : Program) : ∀ d, FitOk P d
  | 0 => fun t ks h => by cases h
  | d + 1 => by
    intro t ks h H enc w base spare held fuel cs x hx
    have ih := fitOk P d
    unfold skinds at h
    split at h
    · rename_i hu
      split at h
      · simp only [Option.some.injEq] at h; subst h
        obtain ⟨b, rfl, rfl⟩ := DataW.trod_bool hu hx
        exact ⟨⟨⟨b, rfl⟩, trivial⟩, rfl⟩
      · cases h
    · rename_i q hu
      split at h
      · simp only [Option.some.injEq] at h; subst h
        obtain ⟨n, rfl, rfl, hw⟩ := DataW.trod_int hu hx
        refine ⟨⟨⟨n, rfl, ?_⟩, trivial⟩, rfl⟩
        simpa [Lit.wf] using hw
      · cases h
    · rename_i fs hu
      split at h
      · cases h
      · split at h
        · rename_i ks' hk
          split at h
          · rename_i hs
            simp only [Option.some.injEq] at h; subst h
            obtain ⟨xs, n, _, rfl, hlen, hxl, hf⟩ := DataW.trod_struct hu hx
            refine fieldKinds_fit (w := w) ih fs.toList [] _ xs hk trivial ?_ ?_ (fun i f hf' => hf i f (by simpa using hf')) (by simpa using hxl.symm)
            · rw [hlen]; unfold Program.cellsOf; rw [hs]; rfl
            · exact fun f hf => kinds_size hk f hf
          · cases h
        · cases h
    · rename_i n e hu
      split at h
      · rename_i l hl
        split at h
        · rename_i hs
          simp only [Option.some.injEq] at h; subst h
          cases fuel with
          | zero => simp [DataW.trod] at hx
          | succ m =>
            unfold DataW.trod at hx
            rw [hu] at hx
            have hsz : P.cellsOf e = l.length := by unfold Program.cellsOf; rw [hs.1]; rfl
            have hct : P.cellsOf t = n * l.length := by unfold Program.cellsOf; rw [hs.2]; rfl
            simp only at hx
            split at hx
            · rename_i hc
              simp only [Option.map_eq_some_iff] at hx
              obtain ⟨xs, hxs, rfl⟩ := hx
              rw [List.range_eq_range'] at hxs
              have := items_fit (w := w) ih hl hsz n 0 xs hxs (by rw [hc, hct]; simp)
              simpa using this
            · cases hx
        · cases h
      · cases h
    · cases h
  where kinds_size {d : Nat} : ∀ {fs : List Field} {acc ks : List SK}, fieldKinds (skinds P d) fs acc = some ks → ∀ f ∈ fs, (P.info? f.type).map (·.size) = (skinds P d f.type).map List.length
  | [], _, _, _, _, hf => by cases hf
  | g :: fs, acc, ks, hk, f, hf => by
    simp only [fieldKinds] at hk
    split at hk
    · cases hk
    · split at hk
      · rename_i l hl
        rcases List.mem_cons.1 hf with rfl | hf
        · rw [hl]
          rcases skinds_agg hl with h1 | ⟨h0, h1, k, rfl, _⟩
          · obtain ⟨_, i, h2, h3⟩ := run_isAgg_yes h1 default
            simp [h2, h3]
          · obtain ⟨_, i, h2, h3⟩ := run_isAgg_no h1 default
            simp [h2, h3]
        · exact kinds_size hk f hf
      · cases hk

/-- A slice of plain elements that came in, nil let in. -/
theorem open_plain {t e : TypeId} {d : Nat} {ks : List SK} {A : Option Addr} {len cap : Nat} {x : DataW H} {p : List MemPlace} (hu : P.underlying t = some (.slice e)) (hk : skinds P d e = some ks) (hsz : P.cellsOf e = ks.length)
    (h : DataW.Trod enc P w base spare held t (.slice A len cap) x p) : ∃ l : List (Array Value), len = l.length ∧ cap ≤ maxLen ∧ Rd w ks.length (.slice A len cap) l.length (flat l) ∧ ∀ m ∈ l, fitAll ks m.toList := by
  obtain ⟨fuel, hf⟩ := h
  rcases open_slice hu hf with ⟨hcs, _⟩ | ⟨a, len', cap', m, n, D, Pl, hcs, hb, hl, hm, hmm, hx, hi⟩
  · simp [Value.cells] at hcs
    obtain ⟨rfl, rfl, rfl⟩ := hcs
    exact ⟨[], rfl, by simp [maxLen], Rd.nil w _, by simp⟩
  · simp [Value.cells] at hcs
    obtain ⟨rfl, rfl, rfl⟩ := hcs
    have hle : len ≤ m := by rw [hmm]; split <;> omega
    obtain ⟨V, hV⟩ := choose_lt (α := List Value) (p := fun i cs' => w.cells? base (a.add (i * P.cellsOf e)) (P.cellsOf e) = some cs' ∧ fitAll ks cs') (n := len) (fun i hil => by
      obtain ⟨cs', h1, h2⟩ := hi i (by omega)
      exact ⟨cs', h1, (fitOk P d _ _ hk enc w base spare held n _ _ h2).1⟩)
    have hfit : ∀ m ∈ (List.range len).map (fun i => (V i).toArray), fitAll ks m.toList := by
      intro m hm
      obtain ⟨i, hi, rfl⟩ := List.mem_map.1 hm
      exact (hV i (by simpa using hi)).2
    have hsize : ∀ m ∈ (List.range len).map (fun i => (V i).toArray), m.size = ks.length := by
      intro m hm
      have := fitAll_len (hfit m hm)
      simpa using this
    refine ⟨(List.range len).map (fun i => (V i).toArray), by simp, hm, ⟨some a, cap, by simp, by simpa using hl, flat_len hsize, fun _ => ⟨a, rfl, ?_⟩⟩, hfit⟩
    intro j u hu
    by_cases hk0 : ks.length = 0
    · have := flat_len hsize
      rw [hk0, Nat.mul_zero] at this
      rw [List.eq_nil_of_length_eq_zero this] at hu
      simp at hu
    · have hjl : j < (flat ((List.range len).map (fun i => (V i).toArray))).length := (List.getElem?_eq_some_iff.1 hu).1
      rw [flat_len hsize] at hjl
      simp only [List.length_map, List.length_range] at hjl
      have hq : j / ks.length < len := (Nat.div_lt_iff_lt_mul (by omega)).2 hjl
      have hr : j % ks.length < ks.length := Nat.mod_lt _ (by omega)
      obtain ⟨c1, c2⟩ := hV _ hq
      obtain ⟨_, c3, c4⟩ := World.cells?_some c1
      have e : j = (j / ks.length) * ks.length + j % ks.length := by rw [Nat.mul_comm]; exact (Nat.div_add_mod j ks.length).symm
      have hV' : (V (j / ks.length))[j % ks.length]? = some u := by
        have hlen' : (V (j / ks.length)).length = ks.length := fitAll_len c2
        obtain ⟨u', hu'⟩ : ∃ u', (V (j / ks.length))[j % ks.length]? = some u' := ⟨_, List.getElem?_eq_getElem (by rw [hlen']; exact hr)⟩
        have := flat_at (k := j / ks.length) (m := (V (j / ks.length)).toArray) hsize (by simp [hq]) (j := j % ks.length) (u := u') (by simpa using hu')
        rw [← e, hu] at this
        rw [hu', this]
      rw [hsz] at c4
      have := c4 (j % ks.length) hr
      rw [add_add, ← e] at this
      rw [this, hV']
end
theorem okWide_array {P : Program} {w : World} {r : Reach} {base : Nat} {t e : TypeId} {v : Value} {n : Nat} (ht : P.underlying t = some (.array n e)) (h : Value.okWide P w r base t v) : ∃ cs, v = .agg cs ∧ cs.size = P.cellsOf t := by
  simp only [Value.okWide, ht] at h
  obtain ⟨cs, h1, h2, _⟩ := h
  exact ⟨cs, h1, h2⟩
end Go.Bst
