/- The statement ActRightSaid: for every input the law ActRight returns true, and its arguments read as they did. Conditions: none. -/
import Derived.Test.YtmjbhpaefhnnnaaActRi
import Derived.Test.YtmjbhpaefhnnnaaForms
import Derived.Test.YtmjbhpaefhnnnaaLiftN
set_option linter.unusedVariables false
namespace Go.Proofs.Ytmjbhpaefhnnnaa
open Go.ChangeShapes Go.WideShapes Go.ChangeAt Go.RowKit Go.Bst

theorem actRight_row {W : World} {c : Array Value} {lv v : Value} {l m : List (Array Value)} (m0 : fitAll planK c.toList) (hl : Rd W 3 lv l.length (flat l)) (hlm : ∀ x ∈ l, fitAll [.int .i64, .int .i64, .int .i64] x.toList) (hr : Rd W 1 v m.length (flat m)) (hm : ∀ x ∈ m, fitAll [.int .u8] x.toList) :
    Calls Try.prog 4 #[.agg c, lv, v] W fun e w' => e = .returned (.bool true) ∧ Sat (World.env W) w' [Old W] := by
  obtain ⟨p, rfl, hp⟩ := plan_form m0
  obtain ⟨ls, rfl, hlo⟩ := links_form hlm
  obtain ⟨b, hb⟩ := bytes_rd hr hm
  rw [List.length_map] at hl
  exact law_ActRight hp hb hl

theorem actRight_own : ownKnob Try.prog.godebug = none := by kernel_rfl
theorem actRight_laidOut : laidOutB Try.prog = true := by kernel_rfl
set_option maxRecDepth 100000 in
theorem actRight_lifted (os : Os) (started : os.Started) (H : Type) (enc : TypeId × Value → H) :
    ReturnsInHanded {} Try.checked os 4 .any (Rows.actRightSpec.pre6 enc Try.prog Try.f4 Rows.actRightRow.domain false) (Rows.actRightSpec.post enc Try.prog Try.f4 false true false false) := by
  refine returnsInHanded_of_change (C := Try.checked) actRight_own started (by kernel_rfl) Try.func4
    (ChangeSpec.witness6 (enc := enc) (C := Try.checked) false ⟨#[], #[planV, .slice none 0 0, .slice none 0 0], []⟩ 16 (by kernel_rfl) (by kernel_rfl) (by kernel_rfl) (by kernel_rfl)) ?_
  intro W base args ds gs before hval0 hW hcnd _
  have hval : ∀ (j : Nat) t v, Try.f4.params[j]? = some t → args[j]? = some v → Value.okWide Try.prog W .any base t v := hval0
  have hW' := hW
  obtain ⟨p, q, hA0, hV, rfl, hfz, hnd⟩ := hW
  have hA : DataW.TrodAll enc Try.prog W 0 (fun _ => true) true Try.f4.params.toList args.toList ds p := hA0
  rw [Try.params4] at hA hval
  obtain ⟨v0, vs0, d0, ds0, p0, q0, hargs, rfl, rfl, h0, r0⟩ := trodAll_cons hA
  obtain ⟨v1, vs1, d1, ds1, p1, q1, rfl, rfl, rfl, h1, r1⟩ := trodAll_cons r0
  obtain ⟨v2, vs2, d2, ds2, p2, q2, rfl, rfl, rfl, h2, r2⟩ := trodAll_cons r1
  obtain ⟨rfl, rfl, rfl⟩ := trodAll_nil r2
  obtain rfl : args = #[v0, v1, v2] := by cases args; simp_all
  obtain ⟨rfl, rfl⟩ := trodVars_none hV
  have k0 := h0
  have lt0 : ∀ x ∈ p0, x.block < W.heap.size := by obtain ⟨m, hm⟩ := k0; exact DataW.trod_lt m _ _ _ hm
  obtain ⟨c0, rfl, cz0⟩ := okWide_struct Try.underlying28 (hval 0 28 v0 rfl rfl)
  have m0 : fitAll planK c0.toList := by obtain ⟨m, hm⟩ := h0; exact (fitOk Try.prog 9 _ _ plan_kinds enc W _ _ _ m _ _ hm).1
  have k1 := h1
  have lt1 : ∀ x ∈ p1, x.block < W.heap.size := by obtain ⟨m, hm⟩ := k1; exact DataW.trod_lt m _ _ _ hm
  obtain ⟨A1, len1, cap1, rfl⟩ := okWide_slice Try.underlying29 (hval 1 29 v1 rfl rfl)
  obtain ⟨l1, rfl, cm1, rd1, m1⟩ := open_plain (d := 9) (ks := linkK) Try.underlying29 link_kinds (by kernel_rfl) h1
  have k2 := h2
  have lt2 : ∀ x ∈ p2, x.block < W.heap.size := by obtain ⟨m, hm⟩ := k2; exact DataW.trod_lt m _ _ _ hm
  obtain ⟨A2, len2, cap2, rfl⟩ := okWide_slice Try.underlying30 (hval 2 30 v2 rfl rfl)
  obtain ⟨l2, rfl, cm2, rd2, m2⟩ := open_plain (d := 9) (ks := byteK) Try.underlying30 byte_kinds (by kernel_rfl) h2
  clear hA0 hval0
  refine (actRight_row m0 rd1 m1 rd2 m2).mono fun e W' ⟨he, hs⟩ => ?_
  subst he
  have bel := hs.belowOld 0 rfl
  exact ⟨_, rfl, _, _, _, [], _, [], hW', trodAll_mk1 (shut_bool Try.underlying4 _), (trodAll_cons_mk (Below.trod actRight_laidOut (by kernel_rfl) (of_decide_eq_true (by kernel_rfl)) k0 bel lt0) (trodAll_cons_mk (Below.trod actRight_laidOut (by kernel_rfl) (of_decide_eq_true (by kernel_rfl)) k1 bel lt1) (trodAll_cons_mk (Below.trod actRight_laidOut (by kernel_rfl) (of_decide_eq_true (by kernel_rfl)) k2 bel lt2) trodAll_mk0))), rfl, bel.frame _, fun h => by cases h⟩

theorem actRight_over : Rows.actRightRow.holds Try.pinned (OpenSpec.ofChange Rows.actRightSpec) :=
  OpenClaim.holds_of_wide 4 Try.f4 rfl rfl rfl rfl rfl rfl rfl ⟨rfl, rfl, rfl, rfl, rfl⟩ rfl rfl rfl rfl rfl (by kernel_rfl) Try.func4 (by kernel_rfl)
    (of_decide_eq_true (by kernel_rfl)) (by unfold Func.isWrapper; first | (rw [if_pos (by decide +kernel)]; kernel_rfl) | (rw [if_neg (by decide +kernel)]; exact ⟨rfl, rfl⟩))
    (fun os started H enc _ => actRight_lifted os started H enc)

theorem actRight_holds : Rows.ActRightSaid := actRight_over
#print axioms actRight_holds
end Go.Proofs.Ytmjbhpaefhnnnaa
