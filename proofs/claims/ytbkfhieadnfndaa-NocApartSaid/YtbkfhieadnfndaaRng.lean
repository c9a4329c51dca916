/- A range over a map, over heaps in part. Conditions: none. -/
import Derived.Test.YtbkfhieadnfndaaMapsK
import Derived.Test.YtbkfhieadnfndaaAuto
import Derived.Maps.RangeRun
set_option linter.unusedVariables false
set_option linter.unusedSimpArgs false
namespace Go.Bst
open Go.RowKit Go.MapKept Go.ChangeMaps
theorem nodup_of_map {α β : Type} {g : α → β} {l : List α} (h : (l.map g).Nodup) : l.Nodup := by
  induction l with
  | nil => exact List.nodup_nil
  | cons a l ih =>
    rw [List.map_cons, List.nodup_cons] at h
    exact List.nodup_cons.2 ⟨fun ha => h.1 (List.mem_map.2 ⟨a, ha, rfl⟩), ih h.2⟩
theorem nodup_le {α : Type} : ∀ {l r : List α}, l.Nodup → (∀ x ∈ l, x ∈ r) → l.length ≤ r.length
  | [], _, _, _ => Nat.zero_le _
  | a :: l, r, h, hs => by
    obtain ⟨r1, r2, rfl⟩ := List.append_of_mem (hs a List.mem_cons_self)
    have hn := List.nodup_cons.1 h
    have := nodup_le (l := l) (r := r1 ++ r2) hn.2 fun x hx => by
      have hx' := hs x (List.mem_cons_of_mem _ hx)
      simp only [List.mem_append, List.mem_cons] at hx' ⊢
      rcases hx' with h | rfl | h
      · exact .inl h
      · exact absurd hx hn.1
      · exact .inr h
    simp only [List.length_append, List.length_cons] at this ⊢
    omega
/-- What has come of a range. -/
def Come (es : Array MapEntry) (seen : Array Nat) (ks : List (Value × Value)) : Prop := ∃ xs : List MapEntry, xs.map (fun e => (e.key, e.val)) = ks ∧ seen.toList = xs.map (·.born) ∧ (∀ x ∈ xs, x ∈ es.toList) ∧ (xs.map (·.born)).Nodup
/-- A range over a map under way: m entries; what has come. -/
def Rng (r mb : Nat) (good : Value → Prop) (f : Value → Option Value) (m : Nat) (ks : List (Value × Value)) : HP :=
  exH fun es => exH fun clock => exH fun seen => exH fun since => exH fun c0 => andH (Tells good es clock f ∧ es.size = m ∧ Come es seen ks ∧ (∀ x ∈ es.toList, x.born < since) ∧ since ≤ c0 ∧ since ≤ clock ∧ (ks = [] ∨ c0 = clock)) (star [pt r (.mapIter (some mb) since seen c0), pt mb (.map es clock)])
section
variable {E : Env} {w : World} {F : List HP} {r mb m : Nat} {good : Value → Prop} {f : Value → Option Value} {ks : List (Value × Value)} {P : Program}
theorem Rng_open (s : Sat E w (Rng r mb good f m ks :: F)) : ∃ es clock seen since c0, (Tells good es clock f ∧ es.size = m ∧ Come es seen ks ∧ (∀ x ∈ es.toList, x.born < since) ∧ since ≤ c0 ∧ since ≤ clock ∧ (ks = [] ∨ c0 = clock)) ∧ Sat E w (pt r (.mapIter (some mb) since seen c0) :: pt mb (.map es clock) :: F) := by
  obtain ⟨es, s⟩ := s.ex
  obtain ⟨clock, s⟩ := s.ex
  obtain ⟨seen, s⟩ := s.ex
  obtain ⟨since, s⟩ := s.ex
  obtain ⟨c0, s⟩ := s.ex
  obtain ⟨h, s⟩ := s.and
  exact ⟨es, clock, seen, since, c0, h, s.flat⟩
theorem Rng_shut {es : Array MapEntry} {clock : Nat} {seen : Array Nat} {since c0 : Nat} (h : Tells good es clock f ∧ es.size = m ∧ Come es seen ks ∧ (∀ x ∈ es.toList, x.born < since) ∧ since ≤ c0 ∧ since ≤ clock ∧ (ks = [] ∨ c0 = clock))
    (s : Sat E w (pt r (.mapIter (some mb) since seen c0) :: pt mb (.map es clock) :: F)) : Sat E w (Rng r mb good f m ks :: F) :=
  Sat.ex_mk es (Sat.ex_mk clock (Sat.ex_mk seen (Sat.ex_mk since (Sat.ex_mk c0 (Sat.and_mk h (Sat.fold (K := [_, _]) s))))))
/-- The map again. -/
theorem Rng_end (s : Sat E w (Rng r mb good f m ks :: F)) : Sat E w (Mf mb good f :: F) := by
  obtain ⟨es, clock, seen, since, c0, h, s⟩ := Rng_open s
  exact Mf_shut h.1 s.tail
theorem rng_start {t k e : TypeId} (ht : P.underlying t = some (.map k e)) (s : Sat E w (Mf mb good f :: F)) :
    ∃ r m w', (Instr.range t (.map (some mb))).run P w = .ok (.pointer (some ⟨r, 0, none⟩)) w' ∧ Sat E w' (Rng r mb good f m [] :: F) := by
  obtain ⟨es, clock, h, s⟩ := Mf_open s
  refine ⟨w.heap.size, es.size, _, run_range_map w t k e mb es clock ht (s.read 0 rfl), ?_⟩
  exact Rng_shut ⟨h, rfl, ⟨[], rfl, rfl, by simp, by simp⟩, h.1.1, Nat.le_refl _, Nat.le_refl _, .inl rfl⟩ (s.alloc _)
theorem Come.facts {es : Array MapEntry} {clock : Nat} {seen : Array Nat} (h : Tells good es clock f) (hc : Come es seen ks) :
    (∀ p ∈ ks, good p.1 ∧ f p.1 = some p.2) ∧ (ks.map (·.1)).Nodup := by
  obtain ⟨xs, rfl, _, hm, hn⟩ := hc
  constructor
  · intro p hp
    obtain ⟨x, hx, rfl⟩ := List.mem_map.1 hp
    exact ⟨h.2.1 x (hm x hx), h.at (h.2.1 x (hm x hx)) (hm x hx) rfl⟩
  · rw [List.map_map]
    show (xs.map (·.key)).Nodup
    rw [List.nodup_iff_pairwise_ne, List.pairwise_map]
    rw [List.nodup_iff_pairwise_ne, List.pairwise_map] at hn
    refine List.Pairwise.imp_of_mem ?_ hn
    intro a b ha hb hne e
    have h1 := List.mem_iff_getElem?.1 (hm a ha)
    have h2 := List.mem_iff_getElem?.1 (hm b hb)
    obtain ⟨i, hi⟩ := h1
    obtain ⟨j, hj⟩ := h2
    have := keys_unique h.1 hi hj e
    subst this
    rw [hi] at hj
    exact hne (by rw [Option.some.inj hj])
theorem rng_next {ty : TypeId} (s : Sat E w (Rng r mb good f m ks :: F)) :
    ((Instr.next (.pointer (some ⟨r, 0, none⟩)) false ty).run P w = .ok (.tuple #[.bool false]) w ∧ (ks.map (·.1)).Nodup ∧ (∀ p ∈ ks, good p.1 ∧ f p.1 = some p.2) ∧ ∀ k v, good k → f k = some v → (k, v) ∈ ks) ∨
    ∃ k v w', (Instr.next (.pointer (some ⟨r, 0, none⟩)) false ty).run P w = .ok (.tuple #[.bool true, k, v]) w' ∧ good k ∧ f k = some v ∧ k ∉ ks.map (·.1) ∧ ks.length < m ∧ Sat E w' (Rng r mb good f m (ks ++ [(k, v)]) :: F) := by
  obtain ⟨es, clock, seen, since, c0, ⟨h, hm, hc, h3, h4, h6, h5⟩, s⟩ := Rng_open s
  rcases run_next_at (P := P) w ty r mb since c0 seen es clock (s.read 0 rfl) (s.read 1 rfl) h3 h4 with ⟨h0, hr⟩ | ⟨e, he, w1, hw1, hr⟩
  · refine .inl ⟨hr, (hc.facts h).2, (hc.facts h).1, fun k v hk hv => ?_⟩
    obtain ⟨x, hx, rfl, rfl⟩ := (h.2.2 k hk v).1 hv
    obtain ⟨xs, rfl, hs, hmm, _⟩ := hc
    have hmem : x.born ∈ seen := by
      unfold leftOf at h0
      have he : es.filter (fun e => !seen.contains e.born) = #[] := Array.eq_empty_of_size_eq_zero h0
      rw [Array.filter_eq_empty_iff] at he
      have := he x (by simpa using hx)
      simpa using this
    rw [← Array.mem_toList_iff, hs] at hmem
    obtain ⟨y, hy, hyb⟩ := List.mem_map.1 hmem
    have hyx : y = x := by
      have hn := h.1.2.1
      obtain ⟨i, hi⟩ := List.mem_iff_getElem?.1 (hmm y hy)
      obtain ⟨j, hj⟩ := List.mem_iff_getElem?.1 hx
      have hi' : (es.toList.map (·.born))[i]? = some y.born := by rw [List.getElem?_map, hi]; rfl
      have hj' : (es.toList.map (·.born))[j]? = some y.born := by rw [List.getElem?_map, hj, hyb]; rfl
      have hij : i = j := (List.getElem?_inj (List.getElem?_eq_some_iff.1 hi').1 hn).1 (hi'.trans hj'.symm)
      subst hij
      rw [hi] at hj
      exact Option.some.inj hj
    subst hyx
    exact List.mem_map.2 ⟨y, hy, rfl⟩
  · obtain ⟨xs, hks, hs, hmm, hnd⟩ := hc
    unfold leftOf at he
    simp only [Array.toList_filter, List.mem_filter] at he
    obtain ⟨he1, he2⟩ := he
    have hns : e.born ∉ xs.map (·.born) := by
      rw [← hs]
      intro hx
      have : seen.contains e.born = true := by simpa using hx
      rw [this] at he2; cases he2
    have hg := h.2.1 e he1
    refine .inr ⟨e.key, e.val, _, hr, hg, h.at hg he1 rfl, ?_, ?_, ?_⟩
    · rw [← hks, List.map_map]
      intro hx
      obtain ⟨y, hy, hye⟩ := List.mem_map.1 hx
      obtain ⟨i, hi⟩ := List.mem_iff_getElem?.1 (hmm y hy)
      obtain ⟨j, hj⟩ := List.mem_iff_getElem?.1 he1
      have hij := keys_unique h.1 hi hj hye
      subst hij
      rw [hi] at hj
      have := Option.some.inj hj
      subst this
      exact hns (List.mem_map.2 ⟨y, hy, rfl⟩)
    · have h7 : (e :: xs).Nodup := by
        rw [List.nodup_cons]
        refine ⟨fun hx => hns (List.mem_map.2 ⟨e, hx, rfl⟩), ?_⟩
        exact nodup_of_map hnd
      have h8 : (e :: xs).length ≤ es.toList.length := nodup_le h7 (fun x hx => by
        rcases List.mem_cons.1 hx with rfl | hx
        · exact he1
        · exact hmm x hx)
      rw [← hks, List.length_map]
      simp only [List.length_cons, Array.length_toList] at h8
      omega
    · have s1 : Sat E w1 (pt r (.mapIter (some mb) since seen c0) :: pt mb (.map es clock) :: F) := by
        rcases hw1 with rfl | rfl
        · exact s
        · exact s.drew
      have s2 : Sat E (setBlock w1 r (.mapIter (some mb) since (seen.push e.born) clock)) (pt r (.mapIter (some mb) since (seen.push e.born) clock) :: pt mb (.map es clock) :: F) := s1.setMap
      refine Rng_shut ⟨h, hm, ⟨xs ++ [e], by rw [List.map_append, hks]; rfl, by rw [Array.toList_push, hs, List.map_append]; rfl, fun x hx => ?_, ?_⟩, h3, h6, h6, .inr rfl⟩ s2
      · rcases List.mem_append.1 hx with hx | hx
        · exact hmm x hx
        · rw [List.mem_singleton.1 hx]; exact he1
      · rw [List.map_append, List.nodup_append]
        refine ⟨hnd, by simp, fun a ha b hb => ?_⟩
        simp only [List.map_cons, List.map_nil, List.mem_singleton] at hb
        subst hb
        exact fun e' => hns (e' ▸ ha)
theorem rng_entry {k v : Value} (s : Sat E w (Rng r mb good f m (ks ++ [(k, v)]) :: F)) : (Instr.entry (.pointer (some ⟨r, 0, none⟩))).run P w = .ok (.tuple #[k, v]) w := by
  obtain ⟨es, clock, seen, since, c0, ⟨h, hm, hc, h3, h4, h6, h5⟩, s⟩ := Rng_open s
  obtain ⟨xs, hks, hs, hmm, hnd⟩ := hc
  obtain rfl : c0 = clock := by
    rcases h5 with h5 | h5
    · simp at h5
    · exact h5
  obtain ⟨ys, e, rfl⟩ : ∃ ys e, xs = ys ++ [e] := by
    rcases List.eq_nil_or_concat xs with rfl | ⟨ys, e, h⟩
    · simp at hks
    · exact ⟨ys, e, by rw [h]; simp⟩
  rw [List.map_append, List.map_cons, List.map_nil] at hks
  have hlast := List.append_inj_right' hks rfl
  simp only [List.cons.injEq, Prod.mk.injEq, and_true] at hlast
  obtain ⟨rfl, rfl⟩ := hlast
  obtain ⟨s0, hs0⟩ : ∃ s0 : Array Nat, seen = s0.push e.born := ⟨(ys.map (·.born)).toArray, Array.toList_inj.1 (by rw [hs, Array.toList_push, List.map_append]; rfl)⟩
  subst hs0
  exact run_entry_at w r mb since s0 es c0 e (s.read 0 rfl) (s.read 1 rfl) (hmm e (by simp)) h.1.2.1
end
end Go.Bst
namespace Go.Bst
open Go.RowKit Go.MapKept Go.ChangeMaps
section
variable {P : Program} {K : Act → World → Prop} {Q : Exit → Act → World → Prop} {a : Act} {E : Env} {w : World} {F : List HP} {mb r m : Nat} {good : Value → Prop} {f : Value → Option Value} {ks : List (Value × Value)} {d : Option Tmp} {tt t : TypeId} {pos : String} {after : Array Edge} {g : Option (Nat × Bool)} {x : Operand}
theorem wk_range {k e : TypeId} (ht : P.underlying t = some (.map k e)) (hx : a.eval x = .map (some mb)) (s : Sat E w (Mf mb good f :: F)) (h : ∀ r m w', Sat E w' (Rng r mb good f m [] :: F) → K (a.put d (.pointer (some ⟨r, 0, none⟩))) w') :
    Oper.wp P { dst := d, op := .range t x, type := tt, pos := pos, after := after, guard := g } a w K Q := by
  obtain ⟨r, m, w', hr, s'⟩ := rng_start ht s
  exact wk_run (by unfold execOp; simp [hx, hr, Result.andThen]) (h r m w' s')
theorem wk_next (hx : a.eval x = .pointer (some ⟨r, 0, none⟩)) (s : Sat E w (Rng r mb good f m ks :: F))
    (h0 : (ks.map (·.1)).Nodup → (∀ p ∈ ks, good p.1 ∧ f p.1 = some p.2) → (∀ k v, good k → f k = some v → (k, v) ∈ ks) → K (a.put d (.tuple #[.bool false])) w)
    (h1 : ∀ k v w', good k → f k = some v → k ∉ ks.map (·.1) → ks.length < m → (ks.map (·.1)).Nodup → (∀ p ∈ ks, good p.1 ∧ f p.1 = some p.2) → Sat E w' (Rng r mb good f m (ks ++ [(k, v)]) :: F) → K (a.put d (.tuple #[.bool true, k, v])) w') :
    Oper.wp P { dst := d, op := .next x false, type := tt, pos := pos, after := after, guard := g } a w K Q := by
  rcases rng_next (P := P) (ty := tt) s with ⟨hr, h2, h3, h4⟩ | ⟨k, v, w', hr, h2, h3, h4, h5, h6⟩
  · exact wk_run (by unfold execOp; simp [hx, hr, Result.andThen]) (h0 h2 h3 h4)
  · have h7 := Rng_open s
    obtain ⟨es, clock, seen, since, c0, ⟨h, hm, hc, _⟩, _⟩ := h7
    exact wk_run (by unfold execOp; simp [hx, hr, Result.andThen]) (h1 k v w' h2 h3 h4 h5 (hc.facts h).2 (hc.facts h).1 h6)
theorem wk_entry {k v : Value} (hx : a.eval x = .pointer (some ⟨r, 0, none⟩)) (s : Sat E w (Rng r mb good f m (ks ++ [(k, v)]) :: F)) (h : K (a.put d (.tuple #[k, v])) w) :
    Oper.wp P { dst := d, op := .entry x, type := tt, pos := pos, after := after, guard := g } a w K Q :=
  wk_run (by unfold execOp; simp [hx, rng_entry s, Result.andThen]) h
end
end Go.Bst
