/- What the reckoner asks is enough: regions that draw their order, and the whole. Conditions: none. -/
import Derived.Test.YtbkfhieadnfndaaSxT
set_option linter.unusedVariables false
set_option linter.unusedSimpArgs false
namespace Go.Sx
open Go Go.RowKit Go.Bst Go.Proofs.YtbkfhieadnfndaaW.PrintLast

section
variable {C : Cx} {s : Slots} {bl : List Blk} {F : List HP} {a : Act} {w : World}
theorem steps_cons {P : Program} {N : Nat} {ops : Array Oper} {ds : List Nat} {fuel i : Nat} {l l' : Array Bool} {c : Cls} {m : Mop} {r : List (Cls × Mop × Nat × Array Bool)} (h : Steps P N ops ds fuel l ((c, m, i, l') :: r)) :
    ∃ f o, fuel = f + 1 ∧ ops[i]? = some o ∧ mopOf P N ops o = some m ∧ clsOk ops ds l l' i c ∧ Steps P N ops ds f l' r := by
  cases fuel with
  | zero => exact h.elim
  | succ f => obtain ⟨⟨o, h1, h2, h3⟩, h4⟩ := h; exact ⟨f, o, rfl, h1, h2, h3, h4⟩
theorem yields {P : Program} {ops : Array Oper} {o : Oper} {v : Value} (hw : Region.wanted o (yielded ops a.tmps) = true) (h : ∀ w, (execOp a.eval o).run P w = .ok (.value v) w) : Yields P ops o v a := .inl ⟨hw, h⟩
theorem yieldsNo {P : Program} {ops : Array Oper} {o : Oper} (hw : Region.wanted o (yielded ops a.tmps) = false) : Yields P ops o undef a := .inr ⟨hw, rfl⟩
theorem yieldsIf {P : Program} {ops : Array Oper} {S : World → Prop} {o : Oper} {v : Value} (hw : Region.wanted o (yielded ops a.tmps) = true) (h : ∀ w, S w → (execOp a.eval o).run P w = .ok (.value v) w) : YieldsIf P ops S o v a := .inl ⟨hw, h⟩
theorem yieldsIfNo {P : Program} {ops : Array Oper} {S : World → Prop} {o : Oper} (hw : Region.wanted o (yielded ops a.tmps) = false) : YieldsIf P ops S o undef a := .inr ⟨hw, rfl⟩
theorem dops_ok {n : Nat} (ih : ∀ r s bl F, run C n r s bl F → Cont C r s bl F) {bk : List Blk} {Fk : List HP} {live : Bool} {l : List (Cls × Mop)} {r : List It} (h : run C (n + 1) (.dops bk Fk live l :: r) s bl F) : Cont C (.dops bk Fk live l :: r) s bl F := by
  intro a w hs hS ops ds fuel listed ann hb hst
  cases l with
  | nil =>
    cases ann with
    | nil =>
      cases fuel <;> exact done_ (by simpa [Steps] using hst) (ih _ _ _ _ h a w hs)
    | cons x y => simp [bare] at hb
  | cons x l =>
    obtain ⟨c, m⟩ := x
    obtain ⟨i, l', ann', rfl, hb'⟩ := bare_cons hb
    obtain ⟨f, o, rfl, hi, hm, hcl, hst'⟩ := steps_cons hst
    obtain ⟨hw1, hw2⟩ := want_is hm hs
    obtain ⟨hdst, _, _, hk, hd, hgd⟩ := mop_is hm
    unfold run at h
    split at h
    · rename_i hg
      exact ih _ _ _ _ h a w hs hS ops ds f listed ann' o i l' hb' hst hi (hw1 hg)
    · rename_i g sn hg
      split at h
      · rename_i b og hbb
        -- what each branch on the guard gives
        have hon : og → gs sn b = true → Holds C ((g, .v (.bool sn)) :: s) bl F a w ∧ Region.wanted o (yielded ops a.tmps) = true := fun h1 hc => by
          have hv := guard_val hs hbb h1
          exact ⟨hs.same (by rw [hv, gs_true hc]; rfl), by rw [hw2 g sn b hg hv, hc]⟩
        have hoff : og → gs sn b = false → Holds C (Sx.put ((g, .v (.bool !sn)) :: s) m.d .u) bl F (a.put m.d undef) w ∧ Region.wanted o (yielded ops a.tmps) = false := fun h1 hc => by
          have hv := guard_val hs hbb h1
          exact ⟨(hs.same (x := .v (.bool !sn)) (by rw [hv, gs_false hc]; rfl)).putU hd, by rw [hw2 g sn b hg hv, hc]⟩
        split at h
        · -- P
          split at h
          · rename_i x ob hp
            obtain ⟨h1, h2, h3⟩ := h
            have hv := guard_val hs hbb h1
            have hwt := hw2 g sn b hg hv
            cases hc : gs sn b with
            | true =>
              rw [hc] at hp h2 h3 hwt
              rw [hk] at hp
              obtain ⟨v, h4, h5⟩ := pv_ok (tt := m.tt) hs.2.2.1 rfl hp (h2 rfl)
              refine step_P hi hcl (fun _ _ _ => kont_panic) (yields hwt fun w0 => (h5 w0).at hm) ?_
              rw [hdst]
              exact ih _ _ _ _ h3 _ _ (hs.put hd fun _ => h4) hS ops ds f l' ann' hb' hst'
            | false =>
              rw [hc] at h3 hwt
              refine step_P hi hcl (fun _ _ _ => kont_panic) (yieldsNo hwt) ?_
              rw [hdst]
              exact ih _ _ _ _ h3 _ _ (hs.put hd fun e => by cases e) hS ops ds f l' ann' hb' hst'
          · obtain ⟨h1, h2⟩ := h
            rcases brn_ok h2 with ⟨hc, h3⟩ | ⟨hc, h3⟩
            · exact h3 a w (hon h1 hc).1 hS ops ds f listed ann' o i l' hb' hst hi (hon h1 hc).2
            · refine step_P hi hcl (fun _ _ _ => kont_panic) (yieldsNo (hoff h1 hc).2) ?_
              rw [hdst]
              exact h3 _ _ (hoff h1 hc).1 hS ops ds f l' ann' hb' hst'
        · -- R
          split at h
          · split at h
            · rename_i x ob hp
              obtain ⟨h1, h2, h3⟩ := h
              have hv := guard_val hs hbb h1
              have hwt := hw2 g sn b hg hv
              cases hc : gs sn b with
              | true =>
                rw [hc] at hp h2 h3 hwt
                rw [hk] at hp
                obtain ⟨v, h4, h5⟩ := rv_ok (E := C.E) (F := Fk) (tt := m.tt) hs.2.2.1 rfl hp (h2 rfl)
                refine step_R hi hcl (fun _ _ _ => kont_panic) (yieldsIf hwt fun w0 hw0 => (h5 w0 hw0).at hm) (hS rfl) ?_
                rw [hdst]
                exact ih _ _ _ _ h3 _ _ (hs.put hd fun _ => h4) hS ops ds f l' ann' hb' hst'
              | false =>
                rw [hc] at h3 hwt
                refine step_R hi hcl (fun _ _ _ => kont_panic) (yieldsIfNo hwt) (hS rfl) ?_
                rw [hdst]
                exact ih _ _ _ _ h3 _ _ (hs.put hd fun e => by cases e) hS ops ds f l' ann' hb' hst'
            · obtain ⟨h1, h2⟩ := h
              rcases brn_ok h2 with ⟨hc, h3⟩ | ⟨hc, h3⟩
              · exact h3 a w (hon h1 hc).1 hS ops ds f listed ann' o i l' hb' hst hi (hon h1 hc).2
              · refine step_R hi hcl (fun _ _ _ => kont_panic) (yieldsIfNo (hoff h1 hc).2) (hS rfl) ?_
                rw [hdst]
                exact h3 _ _ (hoff h1 hc).1 hS ops ds f l' ann' hb' hst'
          · exact h.elim
        · -- D
          split at h
          · obtain ⟨h1, h2⟩ := h
            rcases brn_ok h2 with ⟨hc, h3⟩ | ⟨hc, h3⟩
            · exact h3 a w (hon h1 hc).1 hS ops ds f listed ann' o i l' hb' hst hi (hon h1 hc).2
            · refine step_N false hm hi hcl.1 (by simpa using hcl.2) (hoff h1 hc).2 (fun _ => hS rfl) ?_
              exact h3 _ _ (hoff h1 hc).1 hS ops ds f l' ann' hb' hst'
          · exact h.elim
        · -- L
          obtain ⟨h1, h2⟩ := h
          rcases brn_ok h2 with ⟨hc, h3⟩ | ⟨hc, h3⟩
          · exact h3 a w (hon h1 hc).1 hS ops ds f listed ann' o i l' hb' hst hi (hon h1 hc).2
          · refine step_N true hm hi hcl.1 (by simpa using hcl.2) (hoff h1 hc).2 (fun e => by cases e) ?_
            exact h3 _ _ (hoff h1 hc).1 (fun e => by cases e) ops ds f l' ann' hb' hst'
      · exact h.elim
theorem dopw_ok {n : Nat} (ih : ∀ r s bl F, run C n r s bl F → Cont C r s bl F) {bk : List Blk} {Fk : List HP} {live : Bool} {c : Cls} {m : Mop} {l : List (Cls × Mop)} {r : List It} (h : run C (n + 1) (.dopw bk Fk live c m l :: r) s bl F) : Cont C (.dopw bk Fk live c m l :: r) s bl F := by
  intro a w hs hS ops ds fuel listed ann o i l' hb hst hi hwt
  obtain ⟨f, o', hf, hi', hm, hcl, hst'⟩ := steps_cons hst
  obtain rfl : fuel = f := by omega
  obtain rfl : o = o' := by rw [hi] at hi'; exact Option.some.inj hi'
  obtain ⟨hdst, _, _, hk, hd, hgd⟩ := mop_is hm
  unfold run at h
  split at h
  · -- P
    split at h
    · rename_i x ob hp
      rw [hk] at hp
      obtain ⟨v, h4, h5⟩ := pv_ok (tt := m.tt) hs.2.2.1 rfl hp h.1
      refine step_P hi hcl (fun _ _ _ => kont_panic) (yields hwt fun w0 => (h5 w0).at hm) ?_
      rw [hdst]
      exact ih _ _ _ _ h.2 _ _ (hs.put hd h4) hS ops ds fuel l' ann hb hst'
    · obtain ⟨x, v, h1, h2, h3⟩ := h
      refine step_P hi hcl (fun _ _ _ => kont_panic) (yields hwt fun w0 => (h2 a w0 (evs_ok hs.2.2.1 _)).at hm) ?_
      rw [hdst]
      exact h3 _ _ (hs.put hd (valOf_isV h1)) hS ops ds fuel l' ann hb hst'
  · -- R
    split at h
    · split at h
      · rename_i x ob hp
        rw [hk] at hp
        obtain ⟨v, h4, h5⟩ := rv_ok (E := C.E) (F := Fk) (tt := m.tt) hs.2.2.1 rfl hp h.1
        refine step_R hi hcl (fun _ _ _ => kont_panic) (yieldsIf hwt fun w0 hw0 => (h5 w0 hw0).at hm) (hS rfl) ?_
        rw [hdst]
        exact ih _ _ _ _ h.2 _ _ (hs.put hd h4) hS ops ds fuel l' ann hb hst'
      · obtain ⟨x, v, h1, h2, h3⟩ := h
        refine step_R hi hcl (fun _ _ _ => kont_panic) (yieldsIf hwt fun w0 hw0 => (h2 a w0 (evs_ok hs.2.2.1 _) hw0).at hm) (hS rfl) ?_
        rw [hdst]
        exact h3 _ _ (hs.put hd (valOf_isV h1)) hS ops ds fuel l' ann hb hst'
    · exact h.elim
  · -- D
    split at h
    · refine step_E false hm hi hcl.1 (by simpa using hcl.2) hwt fun K hK => ?_
      split at h
      · rename_i T cs ob he
        split at h
        · rename_i d hmd
          refine new_ok hs hk hmd (hd d hmd) he h.1 fun b w' hs' => ?_
          obtain ⟨h1, h2⟩ := h.2 b
          exact hK _ _ (fun _ => h1 w' hs'.2.2.2) (ih _ _ _ _ h2 _ _ hs' (fun _ => h1 w' hs'.2.2.2) ops ds fuel l' ann hb hst')
        · exact h.elim
      · rename_i k cs ob he
        refine set_ok hs hk he h.1 fun w' hs' => ?_
        obtain ⟨_, h1, h2⟩ := h
        exact hK _ _ (fun _ => h1 w' hs'.2.2.2) (ih _ _ _ _ h2 _ _ (hs'.putU hd) (fun _ => h1 w' hs'.2.2.2) ops ds fuel l' ann hb hst')
      · split at h
        · rename_i f xs hc
          split at h
          · rename_i vs ob hv
            exact call_ok hs hd hk hc hv h.1 h.2 fun x v bl' F' w' _ hs' hkp hn => hK _ _ (fun _ => hkp w' hs'.2.2.2) (hn _ _ hs' (fun _ => hkp w' hs'.2.2.2) ops ds fuel l' ann hb hst')
          · exact h.elim
        · refine Oper.wp_mono (fun a' w' hk' => ?_) (h a w _ (evs_ok hs.2.2.1 _) hs.2.2.2)
          obtain ⟨x, v, bl', F', rfl, h1, h2, h3, hkp, h5⟩ := hk'
          exact hK _ _ (fun _ => hkp w' h3) (h5 _ _ (raw_holds hs hd h1 h2 h3) (fun _ => hkp w' h3) ops ds fuel l' ann hb hst')
    · exact h.elim
  · -- L
    refine step_E true hm hi hcl.1 (by simpa using hcl.2) hwt fun K hK => ?_
    have no : false = true → Sat C.E w (pts bk ++ Fk) := fun e => by cases e
    split at h
    · rename_i T cs ob he
      split at h
      · rename_i d hmd
        refine new_ok hs hk hmd (hd d hmd) he h.1 fun b w' hs' => ?_
        exact hK _ _ (fun e => by cases e) (ih _ _ _ _ (h.2 b) _ _ hs' (fun e => by cases e) ops ds fuel l' ann hb hst')
      · exact h.elim
    · rename_i k cs ob he
      refine set_ok hs hk he h.1 fun w' hs' => ?_
      exact hK _ _ (fun e => by cases e) (ih _ _ _ _ h.2 _ _ (hs'.putU hd) (fun e => by cases e) ops ds fuel l' ann hb hst')
    · split at h
      · rename_i f xs hc
        split at h
        · rename_i vs ob hv
          exact call_ok hs hd hk hc hv h.1 h.2 fun x v bl' F' w' _ hs' hkp hn => hK _ _ (fun e => by cases e) (hn _ _ hs' (fun e => by cases e) ops ds fuel l' ann hb hst')
        · exact h.elim
      · refine Oper.wp_mono (fun a' w' hk' => ?_) (h a w _ (evs_ok hs.2.2.1 _) hs.2.2.2)
        obtain ⟨x, v, bl', F', rfl, h1, h2, h3, hkp, h5⟩ := hk'
        exact hK _ _ (fun e => by cases e) (h5 _ _ (raw_holds hs hd h1 h2 h3) (fun e => by cases e) ops ds fuel l' ann hb hst')
end
end Go.Sx
