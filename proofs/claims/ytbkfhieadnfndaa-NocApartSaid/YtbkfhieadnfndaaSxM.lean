/- What the reckoner asks is enough: the whole. Conditions: none. -/
import Derived.Test.YtbkfhieadnfndaaSxS
set_option linter.unusedVariables false
set_option linter.unusedSimpArgs false
namespace Go.Sx
open Go Go.RowKit Go.Bst Go.Proofs.YtbkfhieadnfndaaW.PrintLast

theorem exec_same {ρ : Operand → Value} {o o' : Oper} (h : o.op = o'.op) (h2 : o.type = o'.type) : execOp ρ o = execOp ρ o' := by
  obtain ⟨d, op, t, p, af, g⟩ := o
  obtain ⟨d', op', t', p', af', g'⟩ := o'
  dsimp only at h h2
  subst h
  subst h2
  unfold execOp
  rfl
section
variable {C : Cx} {s : Slots} {bl : List Blk} {F : List HP} {a : Act} {w : World} {all : Array Oper} {o : Oper} {m : Mop} {rest : List Oper} {Q : Exit → Act → World → Prop}
theorem Ans.at {v : Value} (hm : mopOf C.P C.fn.ntmps all o = some m) (h : Ans C.P m.op m.tt a w v) : (execOp a.eval o).run C.P w = .ok (.value v) w := by
  obtain ⟨h1, h2, h3, _⟩ := mop_is hm
  rw [exec_same (o' := { dst := none, op := m.op, type := m.tt, pos := "", after := #[], guard := none }) h2 h3]
  exact h
theorem wp_same {K : Act → World → Prop} {o o' : Oper} {P : Program} (h0 : o.dst = o'.dst) (h : o.op = o'.op) (h2 : o.type = o'.type) : Oper.wp P o a w K Q = Oper.wp P o' a w K Q := by
  unfold Oper.wp
  rw [exec_same h h2]
  unfold Oper.upon
  rw [h0]
theorem wl_go (hm : mopOf C.P C.fn.ntmps all o = some m) (hw : Region.wanted o (yielded all a.tmps) = true)
    (h : ∀ K : Act → World → Prop, (∀ a w, wpList C.P all Q rest a w → K a w) → Oper.wp C.P { dst := m.d, op := m.op, type := m.tt, pos := "", after := #[], guard := none } a w K Q) : wpList C.P all Q (o :: rest) a w :=
  wpList_step fun K hK => by
    obtain ⟨h1, h2, h3, _⟩ := mop_is hm
    rw [if_pos hw, wp_same (o' := { dst := m.d, op := m.op, type := m.tt, pos := "", after := #[], guard := none }) h1 h2 h3]
    exact h K hK
theorem wl_no (hm : mopOf C.P C.fn.ntmps all o = some m) (hw : Region.wanted o (yielded all a.tmps) = false) (h : wpList C.P all Q rest (a.put m.d undef) w) : wpList C.P all Q (o :: rest) a w :=
  wpList_step fun K hK => by
    obtain ⟨h1, _⟩ := mop_is hm
    rw [hw, if_neg (by simp), h1]
    exact hK _ _ h
theorem wp_ans {v : Value} {K : Act → World → Prop} (h : Ans C.P m.op m.tt a w v) (hk : K (a.put m.d v) w) : Oper.wp C.P { dst := m.d, op := m.op, type := m.tt, pos := "", after := #[], guard := none } a w K Q :=
  wk_run h hk
theorem pvr_ok {gc : Bool} {z : SV} {ob : Prop} (h : Holds C s bl F a w) (hk : m.k = kindOf C.P m.op) (hg : gc = true) (he : pvr bl bl s gc m.op m.k = .ok z ob) (ho : ob) : ∃ v, isV bl z v ∧ Ans C.P m.op m.tt a w v := by
  unfold pvr at he
  split at he
  · rename_i x ob' e
    obtain ⟨rfl, rfl⟩ := Res.ok.inj he
    rw [hk] at e
    obtain ⟨v, h1, h2⟩ := pv_ok (tt := m.tt) h.2.2.1 hg e ho
    exact ⟨v, h1, h2 w⟩
  · rw [hk] at he
    obtain ⟨v, h1, h2⟩ := rv_ok (E := C.E) (F := F) (tt := m.tt) h.2.2.1 hg he ho
    exact ⟨v, h1, h2 w h.2.2.2⟩
/-- A new block, by an operation of the program. -/
theorem new_ok {T : TypeId} {cs : List Value} {ob : Prop} {K : Act → World → Prop} {d : Nat} (h : Holds C s bl F a w) (hk : m.k = kindOf C.P m.op) (hd : m.d = some d) (hdl : d < C.fn.ntmps) (he : dv bl s m.op m.k = .new T cs ob) (ho : ob)
    (hK : ∀ b w', Holds C ((d, .p d 0) :: lose d s) (⟨d, b, T, cs⟩ :: Sx.drop d bl) F (a.put (some d) (.pointer (some ⟨b, 0, none⟩))) w' → K (a.put (some d) (.pointer (some ⟨b, 0, none⟩))) w') :
    Oper.wp C.P { dst := m.d, op := m.op, type := m.tt, pos := "", after := #[], guard := none } a w K Q := by
  unfold dv at he
  split at he
  · rename_i T' e
    split at he
    · rename_i z one e2
      obtain ⟨rfl, rfl, rfl⟩ := Eff.new.inj he
      rw [e] at hk ⊢
      simp only [kindOf, zeroL] at hk
      rw [e2] at hk
      cases hz : zeroOf C.P T' with
      | none => simp [hz] at hk
      | some z0 =>
        simp only [hz, Option.map_some, Kind.cells.injEq] at hk
        rw [hd]
        refine wk_alloc h.2.2.2 hz fun b w' hs => hK b w' (h.new hdl ?_)
        rw [hk.1]
        exact hs
    · cases he
  · rename_i T' x e
    unfold boxE at he
    split at he
    · rename_i l o e2
      obtain ⟨rfl, rfl, rfl⟩ := Eff.new.inj he
      rw [e, hd]
      have hv := rd_ok (x := x) (gc := true) h.2.2.1 (Prod.ext rfl rfl) ho.1 rfl
      have hc := (cells_ok hv e2 ho.2).1
      refine wk_box h.2.2.2 _ rfl fun b w' hs => hK b w' (h.new hdl ?_)
      rw [hc] at hs
      exact hs
    · cases he
  · rename_i T' x y e
    unfold storeE at he
    split at he
    · split at he
      · split at he
        · split at he <;> cases he
        · cases he
        · cases he
      · cases he
    · cases he
  · cases he
theorem ldK_one {P : Program} {t : TypeId} (h : ldK P t = .one) : oneSize P t = true := by
  unfold ldK at h
  cases h1 : oneSize P t with
  | true => rfl
  | false => rw [h1, cond_false] at h; split at h <;> cases h
theorem ldK_agg {P : Program} {t : TypeId} {n : Nat} (h : ldK P t = .agg n) : aggSize P t = some n := by
  unfold ldK at h
  cases h1 : oneSize P t with
  | true => rw [h1, cond_true] at h; cases h
  | false =>
    rw [h1, cond_false] at h
    split at h
    · rename_i m hm; rw [hm]; obtain rfl := Kind.agg.inj h; rfl
    · cases h
theorem agg_info {P : Program} {t : TypeId} {n : Nat} (h : aggSize P t = some n) : (P.info? t).map (·.size) = some n := by
  obtain ⟨_, i, h2, h3⟩ := run_isAgg_yes h default
  rw [h2, Option.map_some, h3]
/-- A store into a block of the list. -/
theorem set_ok {j : Nat} {cs : List Value} {ob : Prop} {K : Act → World → Prop} (h : Holds C s bl F a w) (hk : m.k = kindOf C.P m.op) (he : dv bl s m.op m.k = .set j cs ob) (ho : ob)
    (hK : ∀ w', Holds C s (Sx.chg j cs bl) F a w' → K (a.put m.d undef) w') :
    Oper.wp C.P { dst := m.d, op := m.op, type := m.tt, pos := "", after := #[], guard := none } a w K Q := by
  unfold dv at he
  split at he
  · split at he <;> cases he
  · unfold boxE at he
    split at he <;> cases he
  · rename_i T x y e
    unfold storeE at he
    split at he
    · rename_i j' o o1 e1
      split at he
      · rename_i B l o2 hB e2
        rw [e] at hk ⊢
        simp only [kindOf] at hk
        split at he
        · rename_i e3
          split at he
          · rename_i v
            obtain ⟨rfl, rfl, rfl⟩ := Eff.set.inj he
            obtain ⟨B', hB', hx⟩ := rd_ok (x := x) (gc := true) h.2.2.1 e1 ho.1 rfl
            obtain rfl : B = B' := by rw [hB'] at hB; exact (Option.some.inj hB).symm
            have hv := rd_ok (x := y) (gc := true) h.2.2.1 (Prod.ext rfl rfl) ho.2.1 rfl
            obtain ⟨hc, hall⟩ := cells_ok hv e2 ho.2.2.1
            obtain ⟨i, hi, hch⟩ := find_at (B.cs.set o v) hB
            have hlt := (List.getElem?_eq_some_iff.1 hi).1
            have h1 : oneSize C.P T = true := ldK_one (by rw [← hk, e3])
            obtain ⟨_, inf, hinf, hsz⟩ := run_isAgg_no h1 default
            refine wk_store (n := 1) h.2.2.2 hx i (by rw [List.getElem?_append_left hlt]; exact hi) _ rfl (by rw [hinf, Option.map_some, hsz]) (by rw [hc]; rfl) (by have := inb_lt ho.2.2.2; simp; omega) (by rw [hc]; simpa using hall) fun w' hs => hK w' ?_
            refine h.chg hi hch ?_
            have hin := inb_lt ho.2.2.2
            have e4 : splice B.cs.toArray o (a.eval y).cells = (B.cs.set o v).toArray := by
              rw [hc]; unfold splice
              rw [List.set_eq_take_append_cons_drop, if_pos hin]
              simp
            rw [e4] at hs
            exact hs
          · cases he
        · rename_i n e3
          obtain ⟨rfl, rfl, rfl⟩ := Eff.set.inj he
          obtain ⟨B', hB', hx⟩ := rd_ok (x := x) (gc := true) h.2.2.1 e1 ho.1 rfl
          obtain rfl : B = B' := by rw [hB'] at hB; exact (Option.some.inj hB).symm
          have hv := rd_ok (x := y) (gc := true) h.2.2.1 (Prod.ext rfl rfl) ho.2.1 rfl
          obtain ⟨hc, hall⟩ := cells_ok hv e2 ho.2.2.1
          obtain ⟨i, hi, hch⟩ := find_at (B.cs.take o ++ l ++ B.cs.drop (o + n)) hB
          have hlt := (List.getElem?_eq_some_iff.1 hi).1
          have h1 : aggSize C.P T = some n := ldK_agg (by rw [← hk, e3])
          obtain ⟨_, _, _, hln, hle⟩ := ho
          refine wk_store (n := n) h.2.2.2 hx i (by rw [List.getElem?_append_left hlt]; exact hi) _ rfl (agg_info h1) (by rw [hc]; simpa using hln) (by simpa using hle) (by rw [hc]; simpa using hall) fun w' hs => hK w' ?_
          refine h.chg hi hch ?_
          have e4 : splice B.cs.toArray o (a.eval y).cells = (B.cs.take o ++ l ++ B.cs.drop (o + n)).toArray := by
            rw [hc]; unfold splice
            simp [hln]
          rw [e4] at hs
          exact hs
        · cases he
      · cases he
    · cases he
  · cases he
theorem valOf_isV : ∀ {x : SV} {v : Value}, valOf bl x = some v → isV bl x v
  | .v x, v, h => (Option.some.inj h).symm
  | .a l, v, h => (Option.some.inj h).symm
  | .p k o, v, h => by
    unfold valOf at h
    split at h
    · rename_i B hB; exact ⟨B, hB, (Option.some.inj h).symm⟩
    · cases h
  | .t2 x y, v, h => by
    unfold valOf at h
    split at h
    · rename_i a b ha hb; exact ⟨a, b, (Option.some.inj h).symm, valOf_isV ha, valOf_isV hb⟩
    · cases h
  | .t3 x y z, v, h => by
    unfold valOf at h
    split at h
    · rename_i a b c ha hb hc; exact ⟨a, b, c, (Option.some.inj h).symm, valOf_isV ha, valOf_isV hb, valOf_isV hc⟩
    · cases h
  | .u, v, h => by cases h
  | .g c x, v, h => by cases h
theorem isV_val : ∀ {x : SV} {v u : Value}, valOf bl x = some v → isV bl x u → u = v
  | .v x, v, u, h, e => by obtain rfl := Option.some.inj h; exact e
  | .a l, v, u, h, e => by obtain rfl := Option.some.inj h; exact e
  | .p k o, v, u, h, ⟨B, hB, e⟩ => by
    unfold valOf at h
    rw [hB] at h
    exact e.trans (Option.some.inj h)
  | .t2 x y, v, u, h, ⟨v1, v2, e, h1, h2⟩ => by
    unfold valOf at h
    split at h
    · rename_i a b ha hb
      rw [e, isV_val ha h1, isV_val hb h2]; exact Option.some.inj h
    · cases h
  | .t3 x y z, v, u, h, ⟨v1, v2, v3, e, h1, h2, h3⟩ => by
    unfold valOf at h
    split at h
    · rename_i a b c ha hb hc
      rw [e, isV_val ha h1, isV_val hb h2, isV_val hc h3]; exact Option.some.inj h
    · cases h
  | .u, v, u, h, e => by cases h
  | .g c x, v, u, h, e => by cases h
theorem evs_ok (h : Knows bl s a) : ∀ l, evs bl s a l
  | [] => trivial
  | .const _ :: r => evs_ok h r
  | .tmp t :: r => ⟨by
    have := ev_ok h (.tmp t)
    cases hv : valOf bl (ev s (.tmp t)) with
    | some v => exact isV_val hv this
    | none =>
      cases he : ev s (.tmp t) <;> try trivial
      rename_i c y
      rw [he] at this
      cases hy : valOf bl y with
      | none => simp [hy]
      | some v => simp only [hy]; exact fun hc => isV_val hy (this hc), evs_ok h r⟩
  | .global t :: r => ⟨by simp [ev, valOf, Act.eval], evs_ok h r⟩
  | .func t :: r => ⟨by simp [ev, valOf, Act.eval], evs_ok h r⟩
theorem vals_ok (h : Knows bl s a) : ∀ {xs : List Operand} {vs : List Value} {ob : Prop}, vals bl s xs = some (vs, ob) → ob → xs.map a.eval = vs
  | [], vs, ob, he, ho => by
    obtain ⟨rfl, _⟩ := Prod.mk.inj (Option.some.inj he)
    rfl
  | x :: r, vs, ob, he, ho => by
    unfold vals at he
    split at he
    · rename_i v l o hv hr
      obtain ⟨rfl, rfl⟩ := Prod.mk.inj (Option.some.inj he)
      rw [List.map_cons, vals_ok h hr ho.2]
      have := rd_ok (x := x) (gc := true) h (Prod.ext rfl rfl) ho.1 rfl
      rw [isV_val hv this]
    · cases he
/-- A call. -/
theorem call_ok {f : FuncId} {xs : List Operand} {vs : List Value} {ob : Prop} {Kp : List Blk → List HP → Prop} {K : Act → World → Prop} {nx : List It} (h : Holds C s bl F a w) (hd : ∀ k, m.d = some k → k < C.fn.ntmps)
    (hkd : m.k = kindOf C.P m.op) (hc : callee m.op m.k = some (f, xs)) (hv : vals bl s xs = some (vs, ob)) (ho : ob) (hk : CallC C Kp f vs m.d nx s bl F)
    (hK : ∀ x v bl' F' w', isV bl' x v → Holds C (Sx.put s m.d x) bl' F' (a.put m.d v) w' → Kp bl' F' → Cont C nx (Sx.put s m.d x) bl' F' → K (a.put m.d v) w') :
    Oper.wp C.P { dst := m.d, op := m.op, type := m.tt, pos := "", after := #[], guard := none } a w K Q := by
  unfold callee at hc
  split at hc
  · rename_i c e
    split at hc
    · rename_i f' e2 e9
      obtain ⟨rfl, rfl⟩ := Prod.mk.inj (Option.some.inj hc)
      have hf : callB C.P f' = true := by
        rw [e9, e] at hkd
        simp only [kindOf, e2] at hkd
        cases hb : callB C.P f' with
        | true => rfl
        | false => rw [hb, cond_false] at hkd; cases hkd
      obtain ⟨ce, ⟨as⟩, ts⟩ := c
      dsimp only at e2
      subst e2
      rw [e]
      refine wk_call f' rfl hf ?_
      have := vals_ok h.2.2.1 hv ho
      dsimp only at this
      rw [List.map_toArray, this]
      refine (hk w h.2.2.2).mono fun e w' ⟨x, v, bl', F', e1, h1, h2, h3, h4, h5⟩ => ⟨v, e1, ?_⟩
      have hx := valOf_isV h1
      refine hK x v bl' F' w' hx ?_ h4 h5
      have h6 : Holds C s bl' F' a w' := ⟨h.1, h.2.1, h.2.2.1.same (kb_same h2), h3⟩
      exact h6.put hd hx
    · cases hc
  · cases hc
end
end Go.Sx
