/- What the laws of noc share: messages and links that come in. Conditions: none. -/
import Derived.Test.YtbkfhieadnfndaaNocSp
import Derived.Test.YtbkfhieadnfndaaNocZ
set_option linter.unusedVariables false
set_option linter.unusedSimpArgs false
namespace Go.Proofs.Ytbkfhieadnfndaa
open Go Go.RowKit Go.Sx Go.Bst
theorem fits_cons {k : SK} {ks : List SK} {l : List Value} (h : fitAll (k :: ks) l) : ∃ v vs, l = v :: vs ∧ k.fits v ∧ fitAll ks vs := by
  cases l with
  | nil => exact h.elim
  | cons v vs => exact ⟨v, vs, rfl, h.1, h.2⟩
theorem fits_nil {l : List Value} (h : fitAll [] l) : l = [] := by
  cases l with
  | nil => rfl
  | cons v vs => exact h.elim
theorem cell_spot {w : World} {ad : Addr} {u : Value} (h : w.cell? (ad.add 0) = some u) : ∃ b q, ad = ⟨b, q, none⟩ := by
  obtain ⟨b, q, s⟩ := ad
  cases s with
  | none => exact ⟨b, q, rfl⟩
  | some s =>
    exfalso
    unfold Addr.add at h
    simp [World.cell?] at h
    split at h <;> simp at h
theorem rd_lit {w : World} {sz n cap : Nat} {A : Option Addr} {xs : List Value} (r : Rd w sz (.slice A n cap) n xs) (h : 0 < xs.length) : ∃ b q, A = some ⟨b, q, none⟩ ∧ ∀ j u, xs[j]? = some u → w.cell? ⟨b, q + j, none⟩ = some u := by
  have hn : 0 < n := by
    obtain ⟨_, _, _, _, e, _⟩ := r
    rcases Nat.eq_zero_or_pos n with h0 | h0
    · rw [h0] at e; simp at e; rw [e] at h; simp at h
    · exact h0
  obtain ⟨ad, hA, hc⟩ := r.addr hn
  obtain ⟨b, q, rfl⟩ := cell_spot (hc 0 _ (List.getElem?_eq_getElem h))
  exact ⟨b, q, hA, fun j u hu => by have := hc j u hu; rw [add_at] at this; exact this⟩
/-- Where a slice's elements stand, if there are any. -/
theorem rd_spot {w : World} {sz n cap : Nat} {A : Option Addr} {xs : List Value} (r : Rd w sz (.slice A n cap) n xs) (hs : 0 < sz) : ∃ b q, (0 < n → A = some ⟨b, q, none⟩) ∧ ∀ j u, xs[j]? = some u → w.cell? ⟨b, q + j, none⟩ = some u := by
  by_cases hn : 0 < n
  · have hl : xs.length = n * sz := by obtain ⟨_, _, _, _, e, _⟩ := r; exact e
    obtain ⟨b, q, h1, h2⟩ := rd_lit r (by rw [hl]; exact Nat.mul_pos hn hs)
    exact ⟨b, q, fun _ => h1, h2⟩
  · have hl : xs.length = n * sz := by obtain ⟨_, _, _, _, e, _⟩ := r; exact e
    have h0 : n = 0 := by omega
    have : xs = [] := List.length_eq_zero_iff.1 (by rw [hl, h0, Nat.zero_mul])
    subst this
    exact ⟨0, 0, fun h => absurd h hn, fun j u hu => by simp at hu⟩
/-- An element of a slice that came in. -/
theorem ans_elem {P : Program} {E : Env} {W w : World} {H : List HP} {a : Act} {x : Operand} {ty tt : TypeId} {sz bb q cap i : Nat} {L : List (Array Value)} {m : Array Value} (hr : Rd W sz (.slice (some ⟨bb, q, none⟩) L.length cap) L.length (flat L)) (hm : ∀ c ∈ L, c.size = sz) (hs : Sat E w H) (k : Nat) (hk : H[k]? = some (Old W)) (hi : L[i]? = some m) (hx : a.eval x = .pointer (some ⟨bb, q + i * sz, none⟩)) (ht : aggSize P ty = some sz) : Ans P (.load ty x) tt a w (.agg m) := by
  have hsz : m.size = sz := hm m (List.mem_of_getElem? hi)
  refine rn_load_agg rfl hx (by rw [hsz]; exact ht) fun j u hu => ?_
  obtain ⟨A', c', e, _, _, h4⟩ := hr.sub (hs.subOld k hk)
  injection e with e1 e2 e3
  subst e1
  obtain ⟨ad, ea, hc⟩ := h4 (by have := (List.getElem?_eq_some_iff.1 hi).1; omega)
  injection ea with ea
  subst ea
  have := hc (i * sz + j) u (flat_at hm hi hu)
  rw [add_at] at this ⊢
  rw [Nat.add_assoc]
  exact this
theorem msv_size {ms : List Ms} (h : ∀ m ∈ ms, m.Ok) : ∀ c ∈ ms.map Ms.v, c.size = 38 := by
  intro c hc
  obtain ⟨m, hm, rfl⟩ := List.mem_map.1 hc
  exact Msg.size (h m hm)
theorem lk_form {c : Array Value} (h : fitAll [.int .i64, .int .i64, .int .i64] c.toList) : ∃ l : Lk, c = lkA l ∧ fit3 l := by
  obtain ⟨c⟩ := c
  obtain ⟨v1, c1, e1, ⟨a, rfl, ha⟩, h1⟩ := fits_cons h
  obtain ⟨v2, c2, rfl, ⟨b, rfl, hb⟩, h2⟩ := fits_cons h1
  obtain ⟨v3, c3, rfl, ⟨d, rfl, hd⟩, h3⟩ := fits_cons h2
  obtain rfl := fits_nil h3
  change c = _ at e1
  subst e1
  exact ⟨(a, b, d), rfl, h⟩
theorem ms_form {c : Array Value} (h : fitAll msgK c.toList) : ∃ m : Ms, c = m.v ∧ m.Ok := by
  obtain ⟨c⟩ := c
  change fitAll msgK c at h
  have h0 := h
  unfold msgK at h
  simp only [List.cons_append] at h
  obtain ⟨v1, c1, rfl, ⟨a, rfl, _⟩, h1⟩ := fits_cons h
  obtain ⟨v2, c2, rfl, ⟨b, rfl, _⟩, h2⟩ := fits_cons h1
  obtain ⟨v3, c3, rfl, ⟨d, rfl, _⟩, h3⟩ := fits_cons h2
  obtain ⟨v4, c4, rfl, ⟨e, rfl, _⟩, h4⟩ := fits_cons h3
  obtain ⟨v5, c5, rfl, ⟨p, rfl⟩, h5⟩ := fits_cons h4
  obtain ⟨v6, c6, rfl, ⟨q, rfl⟩, h6⟩ := fits_cons h5
  exact ⟨⟨a, b, d, e, p, q, c6⟩, rfl, h0⟩
theorem ms_forms : ∀ {l : List (Array Value)}, (∀ c ∈ l, fitAll msgK c.toList) → ∃ ms : List Ms, l = ms.map Ms.v ∧ ∀ m ∈ ms, m.Ok
  | [], _ => ⟨[], rfl, by simp⟩
  | c :: l, h => by
    obtain ⟨m, rfl, hm⟩ := ms_form (h c List.mem_cons_self)
    obtain ⟨ms, rfl, hms⟩ := ms_forms (l := l) fun x hx => h x (List.mem_cons_of_mem _ hx)
    refine ⟨m :: ms, rfl, fun x hx => ?_⟩
    rcases List.mem_cons.1 hx with rfl | hx
    · exact hm
    · exact hms x hx
def linkK : List SK := [.int .i64, .int .i64, .int .i64]
theorem link_kinds : skinds Try.prog 9 82 = some linkK := by kernel_rfl
theorem link_eqg : Try.prog.eqGuardType Try.prog.depth 82 = false := by kernel_rfl
theorem same_lk (x y : Lk) : same (lkA x) (lkA y) = decide (x = y) := by
  by_cases h : x = y
  · subst h; rw [same_self]; simp
  · rw [decide_eq_false h]
    cases hb : same (lkA x) (lkA y) with
    | false => rfl
    | true =>
      have := same_iff.1 hb
      simp only [lkA, Array.mk.injEq, List.cons.injEq, Value.int.injEq, and_true, true_and] at this
      exact absurd (Prod.ext this.1 (Prod.ext this.2.1 this.2.2)) h
theorem ans_lkeq {w : World} {a : Act} {x y : Operand} {yt tt : TypeId} {l m : Lk} (hl : fit3 l) (hm : fit3 m) (e1 : a.eval x = .agg (lkA l)) (e2 : a.eval y = .agg (lkA m)) : Ans Try.prog (.binOp .eql 82 x y yt) tt a w (.bool (decide (l = m))) :=
  rn_eqlB' rfl _ _ e1 e2 link_kinds (by decide) (by rw [lk_agg]; simp) link_eqg hl hm _ (same_lk l m)
/-- What is left when messages have been sent. -/
def sentAll (n room : Nat) (net : Int) : List Ms → (Lk → List (Array Value)) → Lk → List (Array Value)
  | [], st => st
  | m :: ms, st => sentAll n room net ms (sendS n room st (net, m.f, m.t) m.v)
theorem sentAll_app (n room : Nat) (net : Int) : ∀ (a : List Ms) (m : Ms) (st : Lk → List (Array Value)), sentAll n room net (a ++ [m]) st = sendS n room (sentAll n room net a st) (net, m.f, m.t) m.v
  | [], m, st => rfl
  | _ :: a, m, st => sentAll_app n room net a m _
/-- The messages of a link, none where there is none. -/
def allF (n : Nat) (st : Lk → List (Array Value)) (l : Lk) : List (Array Value) := bif thereB n l then st l else []
section
variable {E : Env} {w : World} {F : List HP} {b n room : Nat} {st : Lk → List (Array Value)} {l : Lk}
theorem net_allF (hl : fit3 l) (hw : Sat E w (Net b n room st :: F)) :
    Calls Try.prog 41 #[.pointer (some ⟨b, 0, none⟩), lkV l] w fun e w' => ∃ A cap, e = .returned (.slice A (allF n st l).length cap) ∧ Sat E w' (Row 31 38 (.slice A (allF n st l).length cap) (allF n st l).length (flat (allF n st l)) :: Net b n room st :: F) := by
  refine (net_all hl hw).mono ?_
  rintro e w' ⟨v, rfl, h⟩
  cases ht : thereB n l with
  | true =>
    rw [ht] at h
    have ha : allF n st l = st l := by unfold allF; rw [ht]; rfl
    rw [ha]
    obtain ⟨A, cap, rfl, _⟩ := Row_val h 0 rfl
    exact ⟨A, cap, rfl, h⟩
  | false =>
    rw [ht] at h
    have ha : allF n st l = [] := by unfold allF; rw [ht]; rfl
    rw [ha]
    obtain ⟨rfl, h⟩ := h
    exact ⟨none, 0, rfl, Row_nil h⟩
theorem allF_ok (hw : Sat E w (Net b n room st :: F)) : ∀ m ∈ allF n st l, Msg m := by
  unfold allF
  cases ht : thereB n l with
  | true => exact Net_ok hw ht
  | false => intro m hm; simp at hm
theorem allF_len (hw : Sat E w (Net b n room st :: F)) : (allF n st l).length ≤ 4096 := by
  unfold allF
  cases ht : thereB n l with
  | true =>
    obtain ⟨mb, adr, hw⟩ := Net_open hw
    exact Qs_len (hw.front 2 rfl) l (mem_lks.2 ht)
  | false => simp
theorem send_other {m : Array Value} {o : Lk} (h : l ≠ o) : allF n (sendS n room st l m) o = allF n st o ∧ roomF n room (sendS n room st l m) o = roomF n room st o := by
  have e : sendS n room st l m o = st o := by
    unfold sendS
    split
    · exact setQ_ne _ _ fun e => h e.symm
    · rfl
  unfold allF roomF
  rw [e]
  exact ⟨rfl, rfl⟩
theorem send_here {m : Array Value} (h : sendE n room st l = 0) : (allF n (sendS n room st l m) l).length = (allF n st l).length + 1 ∧ roomF n room (sendS n room st l m) l = roomF n room st l - 1 := by
  have ht : thereB n l = true := by
    cases ht : thereB n l with
    | true => rfl
    | false => unfold sendE at h; rw [ht] at h; cases h
  have e : sendS n room st l m l = st l ++ [m] := by unfold sendS; rw [if_pos h, setQ_same]
  unfold allF roomF
  rw [ht, e]
  simp only [cond_true, List.length_append, List.length_singleton]
  exact ⟨trivial, by omega⟩
end
end Go.Proofs.Ytbkfhieadnfndaa
