/- The statement ProbeActsSaid: for every input the law ProbeActs returns true, and its arguments read as they did. Conditions: none. -/
import Derived.Test.YtklhmlplabkoeaaPrbC
import Derived.Test.YtklhmlplabkoeaaFormP
import Derived.Test.YtklhmlplabkoeaaLift
set_option linter.unusedVariables false
namespace Go.Proofs.Ytklhmlplabkoeaa
open Go.ChangeShapes Go.WideShapes Go.ChangeAt Go.RowKit Go.Bst
theorem plot_form {c : Array Value} (h : fitAll Plo.K c.toList) : ∃ x : Plo, c = x.cs ∧ Plo.Ok x := by
  obtain ⟨l⟩ := c
  change fitAll [.int .i64, .int .i64, .int .i64, .int .i64] l at h
  obtain ⟨v0, l0, rfl, f0, k0⟩ := fits_cons h
  obtain ⟨v1, l1, rfl, f1, k1⟩ := fits_cons k0
  obtain ⟨v2, l2, rfl, f2, k2⟩ := fits_cons k1
  obtain ⟨v3, l3, rfl, f3, k3⟩ := fits_cons k2
  obtain rfl := fits_nil k3
  obtain ⟨x0, rfl, g0⟩ := fits_i64_out f0
  obtain ⟨x1, rfl, g1⟩ := fits_i64_out f1
  obtain ⟨x2, rfl, g2⟩ := fits_i64_out f2
  obtain ⟨x3, rfl, g3⟩ := fits_i64_out f3
  exact ⟨⟨x0, x1, x2, x3⟩, by unfold Plo.cs; rfl, ⟨g0, g1, g2, g3⟩⟩
def plotV : Value := .agg #[.int .i64 0, .int .i64 0, .int .i64 0, .int .i64 0]
theorem probeActs_row {W : World} {c d : Array Value} (m0 : fitAll planK c.toList) (m1 : fitAll Plo.K d.toList) :
    Calls Try.prog 4 #[.agg c, .agg d] W fun e w' => e = .returned (.bool true) ∧ Sat (World.env W) w' [Old W] := by
  obtain ⟨p, rfl, hp⟩ := plan_form m0
  obtain ⟨x, rfl, hx⟩ := plot_form m1
  exact law_ProbeActs hp hx

theorem probeActs_own : ownKnob Try.prog.godebug = none := by kernel_rfl
theorem probeActs_laidOut : laidOutB Try.prog = true := by kernel_rfl
set_option maxRecDepth 100000 in
theorem probeActs_lifted (os : Os) (started : os.Started) (H : Type) (enc : TypeId × Value → H) :
    ReturnsInHanded {} Try.checked os 4 .any (Rows.probeActsSpec.pre6 enc Try.prog Try.f4 Rows.probeActsRow.domain false) (Rows.probeActsSpec.post enc Try.prog Try.f4 false true false false) := by
  refine returnsInHanded_of_change (C := Try.checked) probeActs_own started (by kernel_rfl) Try.func4
    (ChangeSpec.witness6 (enc := enc) (C := Try.checked) false ⟨#[], #[planV, plotV], []⟩ 16 (by kernel_rfl) (by kernel_rfl) (by kernel_rfl) (by kernel_rfl)) ?_
  intro W base args ds gs before hval0 hW hcnd _
  have hval : ∀ (j : Nat) t v, Try.f4.params[j]? = some t → args[j]? = some v → Value.okWide Try.prog W .any base t v := hval0
  have hW' := hW
  obtain ⟨p, q, hA0, hV, rfl, hfz, hnd⟩ := hW
  have hA : DataW.TrodAll enc Try.prog W 0 (fun _ => true) true Try.f4.params.toList args.toList ds p := hA0
  rw [Try.params4] at hA hval
  obtain ⟨v0, vs0, d0, ds0, p0, q0, hargs, rfl, rfl, h0, r0⟩ := trodAll_cons hA
  obtain ⟨v1, vs1, d1, ds1, p1, q1, rfl, rfl, rfl, h1, r1⟩ := trodAll_cons r0
  obtain ⟨rfl, rfl, rfl⟩ := trodAll_nil r1
  obtain rfl : args = #[v0, v1] := by cases args; simp_all
  obtain ⟨rfl, rfl⟩ := trodVars_none hV
  have k0 := h0
  have lt0 : ∀ x ∈ p0, x.block < W.heap.size := by obtain ⟨m, hm⟩ := k0; exact DataW.trod_lt m _ _ _ hm
  obtain ⟨c0, rfl, cz0⟩ := okWide_struct Try.underlying28 (hval 0 28 v0 rfl rfl)
  have m0 : fitAll planK c0.toList := by obtain ⟨m, hm⟩ := h0; exact (fitOk Try.prog 9 _ _ plan_kinds enc W _ _ _ m _ _ hm).1
  have k1 := h1
  have lt1 : ∀ x ∈ p1, x.block < W.heap.size := by obtain ⟨m, hm⟩ := k1; exact DataW.trod_lt m _ _ _ hm
  obtain ⟨c1, rfl, cz1⟩ := okWide_struct Try.underlying51 (hval 1 51 v1 rfl rfl)
  have m1 : fitAll Plo.K c1.toList := by obtain ⟨m, hm⟩ := h1; exact (fitOk Try.prog 9 _ _ Plo.kinds enc W _ _ _ m _ _ hm).1
  clear hA0 hval0
  refine (probeActs_row m0 m1).mono fun e W' ⟨he, hs⟩ => ?_
  subst he
  have bel := hs.belowOld 0 rfl
  exact ⟨_, rfl, _, _, _, [], _, [], hW', trodAll_mk1 (shut_bool Try.underlying4 _), (trodAll_cons_mk (Below.trod probeActs_laidOut (by kernel_rfl) (of_decide_eq_true (by kernel_rfl)) k0 bel lt0) (trodAll_cons_mk (Below.trod probeActs_laidOut (by kernel_rfl) (of_decide_eq_true (by kernel_rfl)) k1 bel lt1) trodAll_mk0)), rfl, bel.frame _, fun h => by cases h⟩

theorem probeActs_over : Rows.probeActsRow.holds Try.pinned (OpenSpec.ofChange Rows.probeActsSpec) :=
  OpenClaim.holds_of_wide 4 Try.f4 rfl rfl rfl rfl rfl rfl rfl ⟨rfl, rfl, rfl, rfl, rfl⟩ rfl rfl rfl rfl rfl (by kernel_rfl) Try.func4 (by kernel_rfl)
    (of_decide_eq_true (by kernel_rfl)) (by unfold Func.isWrapper; first | (rw [if_pos (by decide +kernel)]; kernel_rfl) | (rw [if_neg (by decide +kernel)]; exact ⟨rfl, rfl⟩))
    (fun os started H enc _ => probeActs_lifted os started H enc)

theorem probeActs_holds : Rows.ProbeActsSaid := probeActs_over
#print axioms probeActs_holds
end Go.Proofs.Ytklhmlplabkoeaa
