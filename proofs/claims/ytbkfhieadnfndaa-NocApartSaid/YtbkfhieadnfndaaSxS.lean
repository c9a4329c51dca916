/- What the reckoner asks is enough. Conditions: none. -/
import Derived.Test.YtbkfhieadnfndaaSxR
set_option linter.unusedVariables false
set_option linter.unusedSimpArgs false
namespace Go.Sx
open Go Go.RowKit Go.Bst Go.Proofs.YtbkfhieadnfndaaW.PrintLast

section
variable {C : Cx} {s : Slots} {bl : List Blk} {F : List HP} {a : Act} {w : World}
/-- What an operation made ready says of the operation. -/
theorem mop_is {P : Program} {N : Nat} {all : Array Oper} {o : Oper} {m : Mop} (h : mopOf P N all o = some m) :
    o.dst = m.d ∧ o.op = m.op ∧ o.type = m.tt ∧ m.k = kindOf P m.op ∧ (∀ d, m.d = some d → d < N) ∧
    (match m.g with
      | none => o.guard = none
      | some (gt, sn) => gt < N ∧ m.d ≠ some gt ∧ ∃ j oj, o.guard = some (j, sn) ∧ all[j]? = some oj ∧ oj.dst = some gt) := by
  unfold mopOf at h
  split at h
  · rename_i d hd
    cases hN : N.ble d with
    | true => rw [hN] at h; cases h
    | false =>
      have hlt : d < N := by
        rcases Nat.lt_or_ge d N with h' | h'
        · exact h'
        · rw [Nat.ble_eq_true_of_le h'] at hN; cases hN
      rw [hN, cond_false] at h
      split at h
      · rename_i hg
        obtain rfl := Option.some.inj h
        exact ⟨rfl, rfl, rfl, rfl, fun d' e => by rw [hd] at e; obtain rfl := Option.some.inj e; exact hlt, hg⟩
      · rename_i j sn hg
        split at h
        · rename_i gt hgt
          cases hN2 : (N.ble gt || (gt == d)) with
          | true => rw [hN2] at h; cases h
          | false =>
            rw [hN2, cond_false] at h
            obtain rfl := Option.some.inj h
            rw [Bool.or_eq_false_iff] at hN2
            have hlt2 : gt < N := by
              rcases Nat.lt_or_ge gt N with h' | h'
              · exact h'
              · rw [Nat.ble_eq_true_of_le h'] at hN2; cases hN2.1
            obtain ⟨oj, h1, h2⟩ := Option.bind_eq_some_iff.1 hgt
            exact ⟨rfl, rfl, rfl, rfl, fun d' e => by rw [hd] at e; obtain rfl := Option.some.inj e; exact hlt, hlt2, fun e => by
              rw [hd] at e
              obtain rfl := Option.some.inj e
              simp at hN2, j, oj, hg, h1, h2⟩
        · cases h
  · rename_i hd
    split at h
    · rename_i hg
      obtain rfl := Option.some.inj h
      exact ⟨rfl, rfl, rfl, rfl, fun d' e => absurd (hd.symm.trans e) (by simp), hg⟩
    · rename_i j sn hg
      split at h
      · rename_i gt hgt
        cases hN2 : N.ble gt with
        | true => rw [hN2] at h; cases h
        | false =>
          rw [hN2, cond_false] at h
          obtain rfl := Option.some.inj h
          have hlt2 : gt < N := by
            rcases Nat.lt_or_ge gt N with h' | h'
            · exact h'
            · rw [Nat.ble_eq_true_of_le h'] at hN2; cases hN2
          obtain ⟨oj, h1, h2⟩ := Option.bind_eq_some_iff.1 hgt
          exact ⟨rfl, rfl, rfl, rfl, fun d' e => absurd (hd.symm.trans e) (by simp), hlt2, fun e => absurd (hd.symm.trans e) (by simp), j, oj, hg, h1, h2⟩
      · cases h
theorem Holds.put {d : Option Nat} {x : SV} {v : Value} (h : Holds C s bl F a w) (hd : ∀ k, d = some k → k < C.fn.ntmps) (hx : isV bl x v) : Holds C (put s d x) bl F (a.put d v) w := by
  obtain ⟨h1, h2, h3, h4⟩ := h
  cases d with
  | none => exact ⟨h1, h2, h3, h4⟩
  | some d =>
    refine ⟨h1, by simp [Act.put, h2], fun k => ?_, h4⟩
    have hlt := hd d rfl
    show isV bl (get ((d, x) :: s) k) _
    unfold get
    by_cases hk : d = k
    · subst hk
      simp only [beq_self_eq_true, cond_true, Act.put]
      rw [Array.getD_eq_getD_getElem?, Array.getElem?_setIfInBounds_self_of_lt (by omega)]
      exact hx
    · have hb : (d == k) = false := by simpa using hk
      simp only [hb, cond_false, Act.put]
      rw [Array.getD_eq_getD_getElem?, Array.getElem?_setIfInBounds_ne hk, ← Array.getD_eq_getD_getElem?]
      exact h3 k
theorem Holds.putU {d : Option Nat} {v : Value} (h : Holds C s bl F a w) (hd : ∀ k, d = some k → k < C.fn.ntmps) : Holds C (Sx.put s d .u) bl F (a.put d v) w := h.put hd trivial
theorem Holds.same (h : Holds C s bl F a w) {k : Nat} {x : SV} (hx : isV bl x (a.tmps.getD k undef)) : Holds C ((k, x) :: s) bl F a w := by
  obtain ⟨h1, h2, h3, h4⟩ := h
  refine ⟨h1, h2, fun j => ?_, h4⟩
  unfold get
  by_cases hk : k = j
  · subst hk; simpa using hx
  · have hb : (k == j) = false := by simpa using hk
    simp only [hb, cond_false]
    exact h3 j
/-- Is an operation wanted? -/
theorem want_is {all : Array Oper} {o : Oper} {m : Mop} (hm : mopOf C.P C.fn.ntmps all o = some m) (h : Holds C s bl F a w) :
    (m.g = none → Region.wanted o (yielded all a.tmps) = true) ∧ ∀ gt sn b, m.g = some (gt, sn) → a.tmps.getD gt undef = .bool b → Region.wanted o (yielded all a.tmps) = gs sn b := by
  obtain ⟨_, _, _, _, _, hg⟩ := mop_is hm
  refine ⟨fun e => ?_, fun gt sn b e hb => ?_⟩
  · rw [e] at hg
    simp [Region.wanted, hg]
  · rw [e] at hg
    obtain ⟨h1, _, j, oj, hg1, hj, hd⟩ := hg
    have hlt : gt < a.tmps.size := by rw [h.2.1]; exact h1
    have ht : a.tmps[gt]? = some (.bool b) := by
      rw [Array.getD_eq_getD_getElem?, Array.getElem?_eq_getElem hlt, Option.getD_some] at hb
      rw [Array.getElem?_eq_getElem hlt, hb]
    simp only [Region.wanted, hg1, yielded, hj, hd, Option.bind_some, ht]
    cases sn <;> cases b <;> rfl
theorem isV_same {bl bl' : List Blk} (h : ∀ j, (find bl' j).map (·.b) = (find bl j).map (·.b)) : ∀ {x : SV} {v : Value}, isV bl x v → isV bl' x v
  | .u, _, _ => trivial
  | .v _, _, e => e
  | .a _, _, e => e
  | .p k o, v, ⟨B, hB, e⟩ => by
    have := h k
    rw [hB, Option.map_some] at this
    obtain ⟨B', h1, h2⟩ := Option.map_eq_some_iff.1 this
    exact ⟨B', h1, by rw [e, h2]⟩
  | .g c x, v, e => fun hc => isV_same h (e hc)
  | .t2 x y, v, ⟨v1, v2, e, h1, h2⟩ => ⟨v1, v2, e, isV_same h h1, isV_same h h2⟩
  | .t3 x y z, v, ⟨v1, v2, v3, e, h1, h2, h3⟩ => ⟨v1, v2, v3, e, isV_same h h1, isV_same h h2, isV_same h h3⟩
theorem kb_same : ∀ {bl bl' : List Blk}, kb bl' = kb bl → ∀ j, (find bl' j).map (·.b) = (find bl j).map (·.b)
  | [], [], _, _ => rfl
  | [], _ :: _, h, _ => by simp [kb] at h
  | _ :: _, [], h, _ => by simp [kb] at h
  | B :: r, B' :: r', h, j => by
    simp only [kb, List.map_cons, List.cons.injEq, Prod.mk.injEq] at h
    unfold find
    rw [h.1.1]
    cases B.key == j with
    | true => simp [h.1.2]
    | false => exact kb_same h.2 j
theorem chg_same (k : Nat) (cs : List Value) : ∀ (bl : List Blk) (j : Nat), (find (chg k cs bl) j).map (·.b) = (find bl j).map (·.b)
  | [], _ => rfl
  | B :: r, j => by
    unfold chg
    cases h : B.key == k with
    | true =>
      simp only [cond_true, find]
      cases B.key == j <;> rfl
    | false =>
      simp only [cond_false, find]
      cases B.key == j with
      | true => rfl
      | false => exact chg_same k cs r j
theorem find_at {k : Nat} (cs : List Value) : ∀ {bl : List Blk} {B : Blk}, find bl k = some B → ∃ i : Nat, (pts bl)[i]? = some (pt B.b (.cells B.cs.toArray B.T)) ∧ pts (chg k cs bl) = (pts bl).set i (pt B.b (.cells cs.toArray B.T))
  | [], _, h => by cases h
  | A :: r, B, h => by
    unfold find at h
    unfold chg
    cases e : A.key == k with
    | true =>
      rw [e, cond_true] at h
      obtain rfl := Option.some.inj h
      exact ⟨0, rfl, rfl⟩
    | false =>
      rw [e, cond_false] at h
      obtain ⟨i, h1, h2⟩ := find_at cs h
      exact ⟨i + 1, h1, by rw [cond_false, pts, pts, h2]; rfl⟩
theorem Knows.same {bl' : List Blk} (h : Knows bl s a) (hk : ∀ j, (find bl' j).map (·.b) = (find bl j).map (·.b)) : Knows bl' s a := fun k => isV_same hk (h k)
theorem drop_other (d : Nat) : ∀ (bl : List Blk) (j : Nat), (d == j) = false → find (Sx.drop d bl) j = find bl j
  | [], _, _ => rfl
  | B :: r, j, h => by
    unfold Sx.drop
    cases e : B.key == d with
    | true =>
      have : (B.key == j) = false := by rw [eq_of_beq e]; exact h
      simp only [cond_true, find, this, cond_false]
      exact drop_other d r j h
    | false =>
      simp only [cond_false, find]
      cases B.key == j with
      | true => rfl
      | false => exact drop_other d r j h
theorem drop_gets (d : Nat) : ∀ (bl : List Blk) (F : List HP), Gets (pts bl ++ F) (pts (Sx.drop d bl) ++ F)
  | [], F => Gets.refl _
  | B :: r, F => by
    unfold Sx.drop
    cases e : B.key == d with
    | true => exact Gets.drop (drop_gets d r F)
    | false => exact fun h st => star_cons (drop_gets d r F) st
/-- Behind a new block. -/
theorem new_isV {d b : Nat} {T : TypeId} {cs : List Value} {bl : List Blk} : ∀ {x : SV} {v : Value}, uses d x = false → isV bl x v → isV (⟨d, b, T, cs⟩ :: Sx.drop d bl) x v
  | .u, _, _, _ => trivial
  | .v _, _, _, e => e
  | .a _, _, _, e => e
  | .p k o, v, hu, ⟨B, hB, e⟩ => by
    have hk : (d == k) = false := by
      simp only [uses] at hu
      rw [Bool.eq_false_iff] at hu ⊢
      exact fun h => hu (by rw [eq_of_beq h]; exact beq_self_eq_true k)
    refine ⟨B, ?_, e⟩
    unfold find
    rw [hk, cond_false, drop_other d bl k hk]
    exact hB
  | .g c x, v, hu, e => fun hc => new_isV hu (e hc)
  | .t2 x y, v, hu, ⟨v1, v2, e, h1, h2⟩ => by
    simp only [uses, Bool.or_eq_false_iff] at hu
    exact ⟨v1, v2, e, new_isV hu.1 h1, new_isV hu.2 h2⟩
  | .t3 x y z, v, hu, ⟨v1, v2, v3, e, h1, h2, h3⟩ => by
    simp only [uses, Bool.or_eq_false_iff] at hu
    exact ⟨v1, v2, v3, e, new_isV hu.1.1 h1, new_isV hu.1.2 h2, new_isV hu.2 h3⟩
theorem lose_get (d : Nat) : ∀ (s : Slots) (k : Nat), get (lose d s) k = (bif uses d (get s k) then .u else get s k)
  | [], k => rfl
  | x :: r, k => by
    unfold lose get
    cases hu : uses d x.2 with
    | true =>
      simp only [cond_true]
      cases e : x.1 == k with
      | true => simp [hu]
      | false => exact lose_get d r k
    | false =>
      simp only [cond_false]
      cases e : x.1 == k with
      | true => simp [hu]
      | false => exact lose_get d r k
theorem Holds.new {d b : Nat} {T : TypeId} {cs : List Value} {w' : World} (h : Holds C s bl F a w) (hd : d < C.fn.ntmps) (hs : Sat C.E w' (pt b (.cells cs.toArray T) :: (pts bl ++ F))) :
    Holds C ((d, .p d 0) :: lose d s) (⟨d, b, T, cs⟩ :: Sx.drop d bl) F (a.put (some d) (.pointer (some ⟨b, 0, none⟩))) w' := by
  obtain ⟨h1, h2, h3, h4⟩ := h
  refine ⟨h1, by simp [Act.put, h2], fun k => ?_, ?_⟩
  · unfold get
    by_cases hk : d = k
    · subst hk
      simp only [beq_self_eq_true, cond_true, Act.put]
      rw [Array.getD_eq_getD_getElem?, Array.getElem?_setIfInBounds_self_of_lt (by omega)]
      exact ⟨⟨d, b, T, cs⟩, by simp [find], rfl⟩
    · have hb : (d == k) = false := by simpa using hk
      simp only [hb, cond_false, Act.put]
      rw [Array.getD_eq_getD_getElem?, Array.getElem?_setIfInBounds_ne hk, ← Array.getD_eq_getD_getElem?, lose_get]
      cases hu : uses d (get s k) with
      | true => trivial
      | false => exact new_isV hu (h3 k)
  · exact hs.gets (fun _ st => star_cons (drop_gets d bl F) st)
theorem set_append {A : HP} : ∀ {H F : List HP} {i : Nat}, i < H.length → (H ++ F).set i A = H.set i A ++ F
  | [], _, _, h => by simp at h
  | B :: H, F, 0, _ => rfl
  | B :: H, F, i + 1, h => by
    rw [List.cons_append, List.set_cons_succ, set_append (by simpa using h)]
    rfl
theorem Holds.chg {k i : Nat} {cs : List Value} {B : Blk} {w' : World} (h : Holds C s bl F a w) (hi : (pts bl)[i]? = some (pt B.b (.cells B.cs.toArray B.T))) (he : pts (Sx.chg k cs bl) = (pts bl).set i (pt B.b (.cells cs.toArray B.T)))
    (hs : Sat C.E w' ((pts bl ++ F).set i (pt B.b (.cells cs.toArray B.T)))) : Holds C s (Sx.chg k cs bl) F a w' := by
  obtain ⟨h1, h2, h3, h4⟩ := h
  rw [set_append (List.getElem?_eq_some_iff.1 hi).1, ← he] at hs
  exact ⟨h1, h2, h3.same (chg_same k cs bl), hs⟩
end
end Go.Sx
