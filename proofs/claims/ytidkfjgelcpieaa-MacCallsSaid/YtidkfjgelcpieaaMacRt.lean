/- The document's book: Tag. Conditions: none. -/
import Derived.Test.YtidkfjgelcpieaaMacRb
set_option linter.unusedVariables false
set_option linter.unusedSimpArgs false
namespace Go.Proofs.Ytidkfjgelcpieaa
open Go.RowKit Go.Bst Go.MapKept Go.Proofs.YtidkfjgelcpieaaW.PrintLast
attribute [local irreducible] sumOf wpList Calls Code.wp Code.wpN Oper.wp Go.Proofs.YtidkfjgelcpieaaW.PrintLast.wpAnyLast
section
variable {E : Env} {w : World} {F : List HP} {b : Nat} {s : Bk} {kd : Int} {key : List UInt8}
theorem first_take {ms : List Mk} {t : BitVec 64} {k : Nat} (h : firstOf (ms.take k) t = none) {x : Mk} (hx : ms[k]? = some x) : (x.tag = t → firstOf ms t = some k) ∧ (x.tag ≠ t → firstOf (ms.take (k + 1)) t = none) := by
  have hk : k < ms.length := (List.getElem?_eq_some_iff.1 hx).1
  have e : ms.take (k + 1) = ms.take k ++ [x] := by rw [List.take_add_one, hx]; rfl
  have hl : (ms.take k).length = k := by simp; omega
  constructor
  · intro hm
    have h2 : firstOf (ms.take (k + 1)) t = some k := by rw [e, first_app, h, hl]; simp [hm]
    have h3 : ms = ms.take (k + 1) ++ ms.drop (k + 1) := (List.take_append_drop _ _).symm
    unfold firstOf at h2 ⊢
    rw [h3, List.findIdx?_append, h2]
    rfl
  · intro hm
    rw [e, first_app, h]; simp [hm]
theorem rd_mark {ml : List (Value × Mk)} {h : PH} {va : Value} {m : List UInt8} {t : BitVec 64} (ok : MarksOk ml h) (r : RdP h 1 va m.length (ybs m)) : MarksOk (ml ++ [(va, ⟨m, t⟩)]) h := ok.push r
set_option maxRecDepth 100000 in
set_option maxHeartbeats 2000000 in
theorem ref_tag_old {v : Value} {m : List UInt8} {i : Nat} (hw : Sat E w (RBook b kd key s :: F)) (hR : ∀ w', Sat E w' F → Rd w' 1 v m.length (ybs m)) (hi : idx s.ms m = some i) (hn : s.ms.length ≤ 100000) (hml : ∀ x ∈ s.ms, x.msg.length ≤ 1000000) :
    Calls Try.prog 29 #[.pointer (some ⟨b, 0, none⟩), v] w fun e w' => e = .returned (U (s.tagR m)) ∧ Sat E w' (RBook b kd key (s.tagS m) :: F) := by
  have e1 : s.tagS m = s := by unfold Bk.tagS; rw [hi]
  rw [e1]
  clear e1
  obtain ⟨x, hx, hxm⟩ := idx_some hi
  have hfin := Kp.mk (show s.tagR m = x.tag by rw [tag_old hi, tagAt_of hx])
  have hfd := Kp.mk (show findR s.ms m = (i : Int) by unfold findR; rw [hi])
  have hil : i < s.ms.length := idx_lt hi
  have hge : (0 : Int) ≤ (i : Int) := by omega
  have HML := Kp.mk hml
  have HR := Kp.mk hR
  have HX := Kp.mk hx
  clear hml hR hx hi hxm
  go_enter Try.func29, Try.ntmps29
  go_upto_region 3 with (first
    | (go_at_call 30; go_must (refine (ref_Find hw HR.out hn HML.out).mono ?_); clear hw; rw [hfd.out]; rintro e w ⟨rfl, hw⟩))
  obtain ⟨cs, ml, bl, h, v1, v2, ok, hw⟩ := RBook_open hw
  obtain ⟨A1, c1, rfl, _, hg1⟩ := Row_val hw 1 rfl
  have hll : i < ml.length := by rw [← ok.mm, List.length_map] at hil; exact hil
  obtain ⟨g1, rfl⟩ := hg1 (by omega)
  obtain ⟨⟨vx, x'⟩, hx'⟩ : ∃ p, ml[i]? = some p := ⟨_, List.getElem?_eq_getElem hll⟩
  have hxx : x' = x := by
    have := HX.out
    rw [← ok.mm, List.getElem?_map, hx'] at this
    injection this
  subst hxx
  have hc1 := mcell_at hx' 1 (U x'.tag) rfl
  have OK := Kp.mk ok
  clear ok hx' hg1
  go_wp2_with (first
    | (refine wl_load1 hw rfl 0 rfl (by decide +kernel) OK.out.cells.c17 ?_)
    | (refine wl_rowIdx i (i * 2) rfl hw rfl rfl 1 rfl u_marks mark_size hll ?_)
    | (refine wl_rowLd1 (j := i * 2 + 1) hw rfl rfl 1 rfl (by decide +kernel) _ hc1 ?_))
  go_ret
  exact ⟨by rw [hfin.out]; rfl, RBook_shut OK.out hw⟩
end
end Go.Proofs.Ytidkfjgelcpieaa
