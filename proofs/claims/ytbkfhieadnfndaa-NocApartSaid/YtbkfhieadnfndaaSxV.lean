/- What the reckoner asks is enough: a function's contract, loops, cuts. Conditions: none. -/
import Derived.Test.YtbkfhieadnfndaaSxU
set_option linter.unusedVariables false
set_option linter.unusedSimpArgs false
namespace Go.Sx
open Go Go.RowKit Go.Bst Go.Proofs.YtbkfhieadnfndaaW.PrintLast

theorem schedGo_ok {P : Program} {N : Nat} {ops : Array Oper} {ds : List Nat} : ∀ {fuel : Nat} {l : Array Bool} {ann : List (Cls × Mop × Nat × Array Bool)}, schedGo P N ops ds fuel l = some ann → Steps P N ops ds fuel l ann := by
  intro fuel
  induction fuel with
  | zero =>
    intro l ann h
    unfold schedGo at h
    cases hr : Region.ready .any ops l == [] with
    | true =>
      rw [hr, cond_true] at h
      obtain rfl := Option.some.inj h
      simpa [Steps] using hr
    | false => rw [hr] at h; cases h
  | succ fuel ih =>
    intro l ann h
    unfold schedGo at h
    dsimp only at h
    split at h
    · rename_i i hf
      split at h
      · rename_i o ho
        split at h
        · rename_i m r hm hr
          cases ht : takes o.op with
          | true =>
            rw [ht, cond_true] at h
            cases hb : takeB .any ops ds l (l.setIfInBounds i true) i with
            | true => rw [hb, cond_true] at h; obtain rfl := Option.some.inj h; exact ⟨⟨o, ho, hm, hb⟩, ih hr⟩
            | false => rw [hb] at h; cases h
          | false =>
            rw [ht, cond_false] at h
            cases hb : anyB .any ops l (l.setIfInBounds i true) i with
            | true => rw [hb, cond_true] at h; obtain rfl := Option.some.inj h; exact ⟨⟨o, ho, hm, hb⟩, ih hr⟩
            | false => rw [hb] at h; cases h
        · cases h
      · cases h
    · split at h
      · rename_i hr
        obtain rfl := Option.some.inj h
        exact hr
      · rename_i i hr
        split at h
        · rename_i o ho
          split at h
          · rename_i m r hm hr'
            obtain rfl := Option.some.inj h
            refine ⟨⟨o, ho, hm, ?_⟩, ih hr'⟩
            have hb : readyB .any ops l (l.setIfInBounds i true) i = true := by simp [readyB, hr]
            cases hc : ds.contains i with
            | true => exact ⟨hb, by simpa using hc⟩
            | false => exact ⟨hb, by simpa using hc⟩
          · cases h
        · cases h
      · cases h
theorem sched_ok {P : Program} {N : Nat} {ops : Array Oper} {ann : List (Cls × Mop × Nat × Array Bool)} {ds : List Nat} (h : sched P N ops = some (ann, ds)) : Steps P N ops ds ops.size (Array.replicate ops.size false) ann := by
  unfold sched at h
  split at h
  · rename_i l hl
    split at h
    · obtain ⟨rfl, rfl⟩ := Prod.mk.inj (Option.some.inj h)
      exact schedGo_ok hl
    · split at h
      · rename_i l' hl'
        obtain ⟨rfl, rfl⟩ := Prod.mk.inj (Option.some.inj h)
        exact schedGo_ok hl'
      · split at h
        · rename_i l' hl'
          obtain ⟨rfl, rfl⟩ := Prod.mk.inj (Option.some.inj h)
          exact schedGo_ok hl'
        · obtain ⟨rfl, rfl⟩ := Prod.mk.inj (Option.some.inj h)
          exact schedGo_ok hl
  · cases h
section
variable {C : Cx} {s : Slots} {bl : List Blk} {F : List HP} {r : List It}
/-- A region that draws its order, with what is to be kept through it chosen. -/
theorem dreg_ok {l : List (Cls × Mop)} {k : Nat} {own : Bool} (bk : List Blk) (Fk : List HP) (hk : Keep C bk Fk bl F) (h : Cont C (.dops bk Fk true l :: r) s bl F) : Cont C (.code (.dreg l k own) :: r) s bl F := by
  intro a w hs c hc
  cases c with
  | region id ops draw =>
    cases draw with
    | false =>
      unfold mcOf at hc
      split at hc <;> cases hc
    | true =>
      unfold mcOf at hc
      split at hc
      · rename_i ann ds hsch
        obtain ⟨rfl, _⟩ := Mc.dreg.inj hc
        refine wp_region_last C.hm ?_ (S := fun w => Sat C.E w (pts bk ++ Fk)) (ds := ds)
        have hs' : Holds C s bl F a w.drew := ⟨hs.1, hs.2.1, hs.2.2.1, hs.2.2.2.drew⟩
        exact h a w.drew hs' (fun _ => hk _ hs'.2.2.2) ops ds _ _ ann rfl (sched_ok hsch)
      · cases hc
  | _ => simp only [mcOf] at hc <;> cases hc
theorem run_ok : ∀ (n : Nat) (r : List It) (s : Slots) (bl : List Blk) (F : List HP), run C n r s bl F → Cont C r s bl F := by
  intro n
  induction n with
  | zero => exact fun r s bl F h => h
  | succ n ih =>
    intro r s bl F h
    cases r with
    | nil => exact h.elim
    | cons x r =>
      cases x with
      | res l =>
        unfold run at h
        intro a w hs hl
        split at h
        · rename_i vs ob hv
          exact body_ok hs hl hv h.1 (h.2 w hs.2.2.2)
        · exact h.elim
      | ops l => exact ops_ok ih h
      | opw m l => exact opw_ok ih h
      | dops bk Fk live l => exact dops_ok ih h
      | dopw bk Fk live c m l => exact dopw_ok ih h
      | blk id => exact fun a w hs => ih _ _ _ _ h a w hs
      | scp => exact fun a w hs => ih _ _ _ _ h a w hs
      | inv I => exact fun a w hs => ⟨s, bl, F, hs, h⟩
      | code m =>
        cases m with
        | skip =>
          intro a w hs c hc
          cases c <;> try simp only [mcOf] at hc
          case skip => exact wp_skip (ih _ _ _ _ h a w hs)
          case label => exact wp_label (ih _ _ _ _ h a w hs)
          case region id ops draw => cases draw <;> simp only [mcOf] at hc <;> split at hc <;> cases hc
          all_goals cases hc
        | reg l =>
          intro a w hs c hc
          cases c <;> try simp only [mcOf] at hc
          case region id ops draw =>
            cases draw with
            | true => simp only [mcOf] at hc; split at hc <;> cases hc
            | false =>
              simp only [mcOf] at hc
              split at hc
              · rename_i l' hl
                obtain rfl := Mc.reg.inj hc
                exact wp_region_list (ih _ _ _ _ h a w hs ops ops.toList hl)
              · cases hc
          all_goals cases hc
        | dreg l k own =>
          cases own with
          | false => exact h
          | true =>
            obtain ⟨h1, h2⟩ := h
            exact dreg_ok bl F (fun _ h => h) (ih _ _ _ _ h2)
        | seq x y =>
          intro a w hs c hc
          cases c <;> try simp only [mcOf] at hc
          case seq c1 c2 =>
            obtain ⟨h1, h2⟩ := Mc.seq.inj hc
            refine wp_seq (wp_mono (ih _ _ _ _ h a w hs c1 h1) fun e a w hq => ?_)
            cases e with
            | normal => exact hq c2 h2
            | _ => exact hq
          case region id ops draw => cases draw <;> simp only [mcOf] at hc <;> split at hc <;> cases hc
          all_goals cases hc
        | cond x y z =>
          intro a w hs c hc
          cases c <;> try simp only [mcOf] at hc
          case cond c0 c1 c2 =>
            obtain ⟨rfl, h1, h2⟩ := Mc.cond.inj hc
            unfold run at h
            split at h
            · rename_i b ob hb
              have hv : a.eval c0 = .bool b := rd_ok hs.2.2.1 hb h.1 rfl
              refine wp_cond hv ?_
              rcases brn_ok h.2 with ⟨rfl, h3⟩ | ⟨rfl, h3⟩
              · exact h3 a w hs c1 h1
              · exact h3 a w hs c2 h2
            · exact h.elim
          case region id ops draw => cases draw <;> simp only [mcOf] at hc <;> split at hc <;> cases hc
          all_goals cases hc
        | block id x =>
          intro a w hs c hc
          cases c <;> try simp only [mcOf] at hc
          case block id' c1 =>
            obtain ⟨rfl, h1⟩ := Mc.block.inj hc
            exact wp_block (ih _ _ _ _ h a w hs c1 h1)
          case region id ops draw => cases draw <;> simp only [mcOf] at hc <;> split at hc <;> cases hc
          all_goals cases hc
        | loop x => exact h
        | exit id =>
          intro a w hs c hc
          cases c <;> try simp only [mcOf] at hc
          case exit id' =>
            obtain rfl := Mc.exit.inj hc
            exact wp_exit (kont_exit (ih _ _ _ _ h a w hs))
          case region id ops draw => cases draw <;> simp only [mcOf] at hc <;> split at hc <;> cases hc
          all_goals cases hc
        | scope x =>
          intro a w hs c hc
          cases c <;> try simp only [mcOf] at hc
          case scope c1 =>
            obtain rfl := Mc.scope.inj hc
            exact wp_scope_straight (ih _ _ _ _ h a w hs c1 rfl)
          case region id ops draw => cases draw <;> simp only [mcOf] at hc <;> split at hc <;> cases hc
          all_goals cases hc
        | ret =>
          intro a w hs c hc
          cases c <;> try simp only [mcOf] at hc
          case ret => exact wp_ret (kont_ret (ih _ _ _ _ h a w hs))
          case region id ops draw => cases draw <;> simp only [mcOf] at hc <;> split at hc <;> cases hc
          all_goals cases hc
        | no => exact h.elim
end
end Go.Sx
