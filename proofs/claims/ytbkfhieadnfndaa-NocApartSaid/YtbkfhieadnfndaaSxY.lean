/- Guarded operations that are not wanted, one by one. Conditions: none. -/
import Derived.Test.YtbkfhieadnfndaaSxX
set_option linter.unusedVariables false
set_option linter.unusedSimpArgs false
namespace Go.Sx
open Go.RowKit Go.Bst
variable {C : Cx} {s : Slots} {bl : List Blk} {F : List HP} {a : Act} {w : World}
theorem want_not {all : Array Oper} {o : Oper} {m : Mop} (hm : mopOf C.P C.fn.ntmps all o = some m) (h : Holds C s bl F a w) {gt : Nat} {sn : Bool} {x : Value} (e : m.g = some (gt, sn)) (hb : a.tmps.getD gt undef = x) (hx : x ≠ .bool sn) : Region.wanted o (yielded all a.tmps) = false := by
  obtain ⟨_, _, _, _, _, hg⟩ := mop_is hm
  rw [e] at hg
  obtain ⟨h1, _, j, oj, hg1, hj, hd⟩ := hg
  have hlt : gt < a.tmps.size := by rw [h.2.1]; exact h1
  have ht : a.tmps[gt]? = some x := by
    rw [Array.getD_eq_getD_getElem?, Array.getElem?_eq_getElem hlt, Option.getD_some] at hb
    rw [Array.getElem?_eq_getElem hlt, hb]
  simp only [Region.wanted, hg1, yielded, hj, hd, Option.bind_some, ht]
  cases x <;> first | rfl | (rename_i b; cases b <;> cases sn <;> first | rfl | exact absurd rfl hx)
theorem skip_op {m : Mop} {l : List Mop} {r : List It} (gt : Nat) (sn : Bool) (x : Value) (og : Prop) (hg : m.g = some (gt, sn)) (hb : rd s true (.tmp gt) = (.v x, og)) (ho : og) (hx : x ≠ .bool sn) (h : Cont C (.ops l :: r) (put s m.d (.v undef)) bl F) : Cont C (.ops (m :: l) :: r) s bl F := by
  intro a w hs all rest hl
  cases rest with
  | nil => simp [mopsOf] at hl
  | cons o rest =>
    unfold mopsOf at hl
    split at hl
    · rename_i m' l' hm hr
      obtain ⟨rfl, rfl⟩ := List.cons.inj (Option.some.inj hl)
      obtain ⟨_, _, _, hk, hd, hgd⟩ := mop_is hm
      exact wl_no hm (want_not hm hs hg (rd_ok hs.2.2.1 hb ho rfl) hx) (h _ _ (hs.put hd rfl) all rest hr)
    · cases hl
end Go.Sx
