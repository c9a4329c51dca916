/- What the reckoner asks is enough. Conditions: none. -/
import Derived.Test.YtbkfhieadnfndaaSxM
set_option linter.unusedVariables false
set_option linter.unusedSimpArgs false
namespace Go.Sx
open Go Go.RowKit Go.Bst Go.Proofs.YtbkfhieadnfndaaW.PrintLast

section
variable {C : Cx} {s : Slots} {bl : List Blk} {F : List HP} {a : Act} {w : World}
theorem kont_panic {ch : List PanicEntry} {d : Option Nat} {v : Value} : ∀ {r : List It} {a : Act} {w : World}, kont C r (.panic ch) (a.put d v) w → kont C r (.panic ch) a w
  | [], _, _, h => h
  | .res l :: r, a, w, h => fun e => by
    have := h e
    cases d <;> exact this
  | .code _ :: r, _, _, h => kont_panic (r := r) h
  | .ops _ :: r, _, _, h => kont_panic (r := r) h
  | .opw _ _ :: r, _, _, h => kont_panic (r := r) h
  | .dops _ _ _ _ :: r, _, _, h => kont_panic (r := r) h
  | .dopw _ _ _ _ _ _ :: r, _, _, h => kont_panic (r := r) h
  | .blk _ :: r, _, _, h => kont_panic (r := r) h
  | .scp :: r, _, _, h => kont_panic (r := r) h
  | .inv _ :: r, _, _, h => kont_panic (r := r) h
theorem kont_ret : ∀ {r : List It} {a : Act} {w : World}, kont C (toRes r) .normal a w → kont C r .ret a w
  | [], _, _, h => h
  | .res l :: r, a, w, h => h
  | .code _ :: r, _, _, h => kont_ret (r := r) h
  | .ops _ :: r, _, _, h => kont_ret (r := r) h
  | .opw _ _ :: r, _, _, h => kont_ret (r := r) h
  | .dops _ _ _ _ :: r, _, _, h => kont_ret (r := r) h
  | .dopw _ _ _ _ _ _ :: r, _, _, h => kont_ret (r := r) h
  | .blk _ :: r, _, _, h => kont_ret (r := r) h
  | .scp :: r, _, _, h => kont_ret (r := r) h
  | .inv _ :: r, _, _, h => kont_ret (r := r) h
theorem kont_exit {id : Nat} : ∀ {r : List It} {a : Act} {w : World}, kont C (toBlk id r) .normal a w → kont C r (.exit id) a w
  | [], _, _, h => h
  | .res l :: r, a, w, h => h.elim
  | .code _ :: r, _, _, h => kont_exit (r := r) h
  | .ops _ :: r, _, _, h => kont_exit (r := r) h
  | .opw _ _ :: r, _, _, h => kont_exit (r := r) h
  | .dops _ _ _ _ :: r, _, _, h => kont_exit (r := r) h
  | .dopw _ _ _ _ _ _ :: r, _, _, h => kont_exit (r := r) h
  | .blk j :: r, a, w, h => by
    show (if id = j then kont C r .normal a w else kont C r (.exit id) a w)
    unfold toBlk at h
    cases e : j == id with
    | true =>
      rw [e, cond_true] at h
      rw [if_pos (eq_of_beq e).symm]; exact h
    | false =>
      rw [e, cond_false] at h
      rw [if_neg (fun e' : id = j => by rw [e', beq_self_eq_true] at e; cases e)]
      exact kont_exit (r := r) h
  | .scp :: r, _, _, h => kont_exit (r := r) h
  | .inv _ :: r, _, _, h => kont_exit (r := r) h
theorem kont_norm_blk {id : Nat} {r : List It} (h : kont C r .normal a w) : kont C (.blk id :: r) .normal a w := h
theorem kont_norm_scp {r : List It} (h : kont C r .normal a w) : kont C (.scp :: r) .normal a w := h
/-- The value that a function hands back. -/
theorem results_ok {P : Program} (h : Knows bl s a) (hs : Sat C.E w (pts bl ++ F)) : ∀ {rs : List ResultVar} {l : List RV} {vs : List Value} {ob : Prop}, resOf P rs = some l → resV bl s l = some (vs, ob) → ob →
    (rs.mapM (m := Sem) fun
      | .tmp t => pure (a.tmps.getD t undef)
      | .cell p t => do loadVar t (← asAddr (a.tmps.getD p undef))).run P w = .ok vs w := by
  intro rs
  induction rs with
  | nil =>
    intro l vs ob h1 h2 ho
    obtain rfl := Option.some.inj h1
    obtain ⟨rfl, _⟩ := Prod.mk.inj (Option.some.inj h2)
    rfl
  | cons rv rs ih =>
    intro l vs ob h1 h2 ho
    rw [List.mapM_cons]
    cases rv with
    | tmp t =>
      simp only [resOf, Option.map_eq_some_iff] at h1
      obtain ⟨l', h1, rfl⟩ := h1
      unfold resV at h2
      split at h2
      · rename_i v l2 o hv hr
        obtain ⟨rfl, rfl⟩ := Prod.mk.inj (Option.some.inj h2)
        have hx := isV_val hv (rd_ok (x := .tmp t) (gc := true) h (Prod.ext rfl rfl) ho.1 rfl)
        have hx' : a.tmps.getD t undef = v := hx
        have := ih h1 hr ho.2
        simp only [Sem.run_bind, Sem.run_pure, Result.andThen_ok, this, hx']
      · cases h2
    | cell p T =>
      unfold resOf at h1
      split at h1
      · rename_i l' h1'
        cases h3 : oneSize P T with
        | true =>
          rw [h3, cond_true] at h1
          obtain rfl := Option.some.inj h1
          unfold resV at h2
          split at h2
          · rename_i j l2 o hp hr
            split at h2
            · rename_i B hB
              obtain ⟨rfl, rfl⟩ := Prod.mk.inj (Option.some.inj h2)
              have hx := h p
              rw [hp] at hx
              obtain ⟨B', hB', hx⟩ := hx
              obtain rfl : B = B' := by rw [hB'] at hB; exact (Option.some.inj hB).symm
              obtain ⟨i, hi⟩ := find_in hB
              have hg := hs.read i (by rw [List.getElem?_append_left (List.getElem?_eq_some_iff.1 hi).1]; exact hi)
              have hl := run_loadVar_one (P := P) (v := nth B.cs 0) h3 hg (by rw [List.getElem?_toArray]; exact nth_get ho.1)
              have := ih h1' hr ho.2
              have ha : (asAddr (a.tmps.getD p undef)).run P w = .ok ⟨B.b, 0, none⟩ w := by rw [hx]; rfl
              simp only [Sem.run_bind, ha, Sem.run_pure, Result.andThen_ok, hl, this]
            · cases h2
          · cases h2
        | false =>
          rw [h3, cond_false] at h1
          split at h1
          · rename_i n hn
            obtain rfl := Option.some.inj h1
            unfold resV at h2
            split at h2
            · rename_i j l2 o hp hr
              split at h2
              · rename_i B hB
                obtain ⟨rfl, rfl⟩ := Prod.mk.inj (Option.some.inj h2)
                have hx := h p
                rw [hp] at hx
                obtain ⟨B', hB', hx⟩ := hx
                obtain rfl : B = B' := by rw [hB'] at hB; exact (Option.some.inj hB).symm
                obtain ⟨i, hi⟩ := find_in hB
                have hg := hs.read i (by rw [List.getElem?_append_left (List.getElem?_eq_some_iff.1 hi).1]; exact hi)
                have hl := run_loadVar_agg (P := P) (off := 0) hn hg (by simp [ho.1])
                rw [Nat.zero_add, ← ho.1, ← List.size_toArray, Array.extract_size] at hl
                have := ih h1' hr ho.2
                have ha : (asAddr (a.tmps.getD p undef)).run P w = .ok ⟨B.b, 0, none⟩ w := by rw [hx]; rfl
                simp only [Sem.run_bind, ha, Sem.run_pure, Result.andThen_ok, hl, this]
              · cases h2
            · cases h2
          · cases h1
      · cases h1
theorem body_ok {l : List RV} {vs : List Value} {ob : Prop} (h : Holds C s bl F a w) (hl : resOf C.P C.fn.results.toList = some l) (hv : resV bl s l = some (vs, ob)) (ho : ob) (hR : C.R (.returned (pack vs)) w) : bodyPost C.P C.fn C.R .normal a w := by
  refine ⟨h.1, pack vs, ?_, hR⟩
  have := results_ok (P := C.P) h.2.2.1 h.2.2.2 hl hv ho
  unfold results
  rw [Sem.run_bind, Array.mapM_eq_mapM_toList]
  have e2 : ∀ (x : Sem (List Value)), x.run C.P w = .ok vs w → (List.toArray <$> x).run C.P w = .ok vs.toArray w := by
    intro x hx
    show (Sem.bind x _).run C.P w = _
    rw [Sem.run_bind', hx]
    rfl
  have e3 := e2 _ this
  refine (congrArg (fun r : Result (Array Value) => r.andThen _) e3).trans ?_
  rw [Result.andThen_ok, Sem.run_pure]
  congr 1
  match vs with
  | [] => rfl
  | [v] => rfl
  | v :: u :: r => simp [pack]
theorem bare_cons {ann : List (Cls × Mop × Nat × Array Bool)} {c : Cls} {m : Mop} {l : List (Cls × Mop)} (h : bare ann = (c, m) :: l) : ∃ i l' r, ann = (c, m, i, l') :: r ∧ bare r = l := by
  cases ann with
  | nil => cases h
  | cons x r =>
    obtain ⟨c', m', i, l'⟩ := x
    simp only [bare, List.map_cons, List.cons.injEq, Prod.mk.injEq] at h
    obtain ⟨⟨rfl, rfl⟩, h⟩ := h
    exact ⟨i, l', r, rfl, h⟩
theorem nodup_find : ∀ {bl : List Blk}, nodupB bl = true → ∀ B ∈ bl, find bl B.key = some B
  | [], _, B, hm => by cases hm
  | A :: r, h, B, hm => by
    unfold nodupB at h
    rw [Bool.and_eq_true] at h
    unfold find
    rcases List.mem_cons.1 hm with rfl | hm
    · simp
    · cases e : A.key == B.key with
      | false => rw [cond_false]; exact nodup_find h.2 B hm
      | true =>
        have h1 := nodup_find h.2 B hm
        rw [eq_of_beq e, h1] at h
        cases h.1
/-- A branch on a Bool. -/
theorem brn_ok {c : Bool} {A B : Prop} (h : brn c A B) : (c = true ∧ A) ∨ (c = false ∧ B) := by
  cases c with
  | true => exact .inl ⟨rfl, h.1 rfl⟩
  | false => exact .inr ⟨rfl, h.2 rfl⟩
theorem gs_true {sn b : Bool} (h : gs sn b = true) : b = sn := by cases sn <;> cases b <;> simp_all [gs]
theorem gs_false {sn b : Bool} (h : gs sn b = false) : b = !sn := by cases sn <;> cases b <;> simp_all [gs]
theorem guard_val (h : Holds C s bl F a w) {g : Nat} {b : Bool} {og : Prop} (he : rd s true (.tmp g) = (.v (.bool b), og)) (ho : og) : a.tmps.getD g undef = .bool b := rd_ok h.2.2.1 he ho rfl
/-- The operations of a region in their order. -/
theorem ops_ok {n : Nat} (ih : ∀ r s bl F, run C n r s bl F → Cont C r s bl F) {l : List Mop} {r : List It} (h : run C (n + 1) (.ops l :: r) s bl F) : Cont C (.ops l :: r) s bl F := by
  intro a w hs
  cases l with
  | nil =>
    intro all rest hl
    cases rest with
    | nil => exact wpList_nil (ih _ _ _ _ h a w hs)
    | cons o rest =>
      unfold mopsOf at hl
      split at hl <;> simp at hl
  | cons m l =>
    intro all rest hl
    cases rest with
    | nil => simp [mopsOf] at hl
    | cons o rest =>
      unfold mopsOf at hl
      split at hl
      · rename_i m' l' hm hr
        obtain ⟨rfl, rfl⟩ := List.cons.inj (Option.some.inj hl)
        obtain ⟨hw1, hw2⟩ := want_is hm hs
        obtain ⟨_, _, _, hk, hd, hgd⟩ := mop_is hm
        unfold run at h
        split at h
        · rename_i hg
          exact ih _ _ _ _ h a w hs all o rest hm hr (hw1 hg)
        · rename_i g sn hg
          rw [hg] at hgd
          split at h
          · rename_i b og hb
            split at h
            · rename_i x ob hp
              obtain ⟨h1, h2, h3⟩ := h
              have hv := guard_val hs hb h1
              have hwt := hw2 g sn b hg hv
              cases hc : gs sn b with
              | true =>
                rw [hc] at hp h2 h3 hwt
                obtain ⟨v, h4, h5⟩ := pvr_ok hs hk rfl hp (h2 rfl)
                exact wl_go hm hwt fun K hK => wp_ans h5 (hK _ _ (ih _ _ _ _ h3 _ _ (hs.put hd fun _ => h4) all rest hr))
              | false =>
                rw [hc] at h3 hwt
                exact wl_no hm hwt (ih _ _ _ _ h3 _ _ (hs.put hd fun e => by cases e) all rest hr)
            · obtain ⟨h1, h2⟩ := h
              have hv := guard_val hs hb h1
              have hwt := hw2 g sn b hg hv
              rcases brn_ok h2 with ⟨hc, h3⟩ | ⟨hc, h3⟩
              · rw [hc] at hwt
                exact h3 a w (hs.same (by rw [hv, gs_true hc]; rfl)) all o rest hm hr hwt
              · rw [hc] at hwt
                exact wl_no hm hwt (h3 _ _ ((hs.same (x := .v (.bool !sn)) (by rw [hv, gs_false hc]; rfl)).putU hd) all rest hr)
          · exact h.elim
      · cases hl
theorem raw_holds {bl' : List Blk} {F' : List HP} {w' : World} {d : Option Nat} {x : SV} {v : Value} (hs : Holds C s bl F a w) (hd : ∀ k, d = some k → k < C.fn.ntmps) (h1 : valOf bl' x = some v) (h2 : kb bl' = kb bl) (h3 : Sat C.E w' (pts bl' ++ F')) :
    Holds C (Sx.put s d x) bl' F' (a.put d v) w' := by
  have h6 : Holds C s bl' F' a w' := ⟨hs.1, hs.2.1, hs.2.2.1.same (kb_same h2), h3⟩
  exact h6.put hd (valOf_isV h1)
theorem opw_ok {n : Nat} (ih : ∀ r s bl F, run C n r s bl F → Cont C r s bl F) {m : Mop} {l : List Mop} {r : List It} (h : run C (n + 1) (.opw m l :: r) s bl F) : Cont C (.opw m l :: r) s bl F := by
  intro a w hs all o rest hm hr hwt
  obtain ⟨_, _, _, hk, hd, hgd⟩ := mop_is hm
  refine wl_go hm hwt fun K hK => ?_
  unfold run at h
  split at h
  · rename_i x ob hp
    obtain ⟨v, h4, h5⟩ := pvr_ok hs hk rfl hp h.1
    exact wp_ans h5 (hK _ _ (ih _ _ _ _ h.2 _ _ (hs.put hd h4) all rest hr))
  · split at h
    · rename_i T cs ob he
      split at h
      · rename_i d hmd
        refine new_ok hs hk hmd (hd d hmd) he h.1 fun b w' hs' => ?_
        exact hK _ _ (ih _ _ _ _ (h.2 b) _ _ hs' all rest hr)
      · exact h.elim
    · rename_i k cs ob he
      refine set_ok hs hk he h.1 fun w' hs' => ?_
      exact hK _ _ (ih _ _ _ _ h.2 _ _ (hs'.putU hd) all rest hr)
    · split at h
      · rename_i f xs hc
        split at h
        · rename_i vs ob hv
          exact call_ok hs hd hk hc hv h.1 h.2 fun x v bl' F' w' _ hs' _ hn => hK _ _ (hn _ _ hs' all rest hr)
        · exact h.elim
      · cases hrd : isRead m.op with
        | true =>
          rw [hrd, cond_true] at h
          obtain ⟨x, v, h1, h2, h3⟩ := h
          exact wp_ans (h2 a w (evs_ok hs.2.2.1 _) hs.2.2.2) (hK _ _ (h3 _ _ (hs.put hd (valOf_isV h1)) all rest hr))
        | false =>
          rw [hrd, cond_false] at h
          refine Oper.wp_mono (fun a' w' hk' => ?_) (h a w _ (evs_ok hs.2.2.1 _) hs.2.2.2)
          obtain ⟨x, v, bl', F', rfl, h1, h2, h3, _, h5⟩ := hk'
          exact hK _ _ (h5 _ _ (raw_holds hs hd h1 h2 h3) all rest hr)
/-- One step of a region that draws its order. -/
theorem step_P {P : Program} {ops : Array Oper} {Q : Exit → Act → World → Prop} {S : World → Prop} {ds : List Nat} {fuel i : Nat} {l l' : Array Bool} {oi : Oper} {v : Value} (hi : ops[i]? = some oi) (hc : anyB .any ops l l' i = true)
    (hQ : ∀ c a w, Q (.panic c) (a.put oi.dst v) w → Q (.panic c) a w) (hy : Yields P ops oi v a) (h : wpAnyLast P .any ops Q S ds fuel l' (a.put oi.dst v) w) : wpAnyLast P .any ops Q S ds (fuel + 1) l a w :=
  pure_ l' hi rfl hc hQ hy rfl h
theorem step_R {P : Program} {ops : Array Oper} {Q : Exit → Act → World → Prop} {S : World → Prop} {ds : List Nat} {fuel i : Nat} {l l' : Array Bool} {oi : Oper} {v : Value} (hi : ops[i]? = some oi) (hc : takeB .any ops ds l l' i = true)
    (hQ : ∀ c a w, Q (.panic c) (a.put oi.dst v) w → Q (.panic c) a w) (hy : YieldsIf P ops S oi v a) (hS : S w) (h : wpAnyLast P .any ops Q S ds fuel l' (a.put oi.dst v) w) : wpAnyLast P .any ops Q S ds (fuel + 1) l a w :=
  take_ l' hi rfl hc hQ hy hS rfl h
/-- An effect, wanted: S is shown behind it where it is not one of the last ones. -/
theorem step_E {ops : Array Oper} {Q : Exit → Act → World → Prop} {S : World → Prop} {ds : List Nat} {fuel i : Nat} {l l' : Array Bool} {oi : Oper} {m : Mop} (last : Bool) (hm : mopOf C.P C.fn.ntmps ops oi = some m) (hi : ops[i]? = some oi) (hc : readyB .any ops l l' i = true) (hds : if last = true then i ∈ ds else i ∉ ds)
    (hw : Region.wanted oi (yielded ops a.tmps) = true)
    (h : ∀ K : Act → World → Prop, (∀ a' w', (last = false → S w') → wpAnyLast C.P .any ops Q S ds fuel l' a' w' → K a' w') → Oper.wp C.P { dst := m.d, op := m.op, type := m.tt, pos := "", after := #[], guard := none } a w K Q) :
    wpAnyLast C.P .any ops Q S ds (fuel + 1) l a w := by
  obtain ⟨h1, h2, h3, _⟩ := mop_is hm
  cases last with
  | true =>
    refine last_ l' hi rfl hc (by simpa using hds) fun K hK => ?_
    rw [if_pos hw, wp_same (o' := { dst := m.d, op := m.op, type := m.tt, pos := "", after := #[], guard := none }) h1 h2 h3]
    exact h K fun a' w' _ hh => hK.out a' w' hh
  | false =>
    refine one_ l' hi rfl hc (by simpa using hds) fun K hK => ?_
    rw [if_pos hw, wp_same (o' := { dst := m.d, op := m.op, type := m.tt, pos := "", after := #[], guard := none }) h1 h2 h3]
    exact h K fun a' w' hS hh => hK.out a' w' (hS rfl) fun _ => hh
/-- An effect that is not wanted. -/
theorem step_N {ops : Array Oper} {Q : Exit → Act → World → Prop} {S : World → Prop} {ds : List Nat} {fuel i : Nat} {l l' : Array Bool} {oi : Oper} {m : Mop} (last : Bool) (hm : mopOf C.P C.fn.ntmps ops oi = some m) (hi : ops[i]? = some oi) (hc : readyB .any ops l l' i = true) (hds : if last = true then i ∈ ds else i ∉ ds)
    (hw : Region.wanted oi (yielded ops a.tmps) = false) (hS : last = false → S w) (h : wpAnyLast C.P .any ops Q S ds fuel l' (a.put m.d undef) w) :
    wpAnyLast C.P .any ops Q S ds (fuel + 1) l a w := by
  obtain ⟨h1, h2, h3, _⟩ := mop_is hm
  cases last with
  | true =>
    refine last_ l' hi rfl hc (by simpa using hds) fun K hK => ?_
    rw [hw, if_neg (by simp), h1]
    exact hK.out _ _ h
  | false =>
    refine one_ l' hi rfl hc (by simpa using hds) fun K hK => ?_
    rw [hw, if_neg (by simp), h1]
    exact hK.out _ _ (hS rfl) fun _ => h
end
end Go.Sx
