/- The statement MacIdealSaid: for every input the law MacIdeal returns true, and its arguments read as they did. Conditions: none. -/
import Derived.Test.YtidkfjgelcpieaaMacId
import Derived.Test.YtidkfjgelcpieaaLiftN
set_option linter.unusedVariables false
namespace Go.Proofs.Ytidkfjgelcpieaa
open Go.ChangeShapes Go.WideShapes Go.ChangeAt Go.RowKit Go.Bst

theorem ideal_row {W : World} {v : Value} {l : List (Array Value)} (hr : Rd W 4 v l.length (flat l)) (hm : ∀ m ∈ l, okAll W callK m.toList) :
    Calls Try.prog 8 #[v] W fun e w' => e = .returned (.bool true) ∧ Sat (World.env W) w' [Old W] := by
  obtain ⟨cs, rfl, hc⟩ := calls_form (v := v) hm
  rw [List.length_map] at hr
  exact mac_ideal ⟨hr, hc⟩

theorem macIdeal_own : ownKnob Try.prog.godebug = none := by kernel_rfl
theorem macIdeal_laidOut : laidOutB Try.prog = true := by kernel_rfl
set_option maxRecDepth 100000 in
theorem macIdeal_lifted (os : Os) (started : os.Started) (H : Type) (enc : TypeId × Value → H) :
    ReturnsInHanded {} Try.checked os 8 .any (Rows.macIdealSpec.pre6 enc Try.prog Try.f8 Rows.macIdealRow.domain false) (Rows.macIdealSpec.post enc Try.prog Try.f8 false true false false) := by
  refine returnsInHanded_of_change (C := Try.checked) macIdeal_own started (by kernel_rfl) Try.func8
    (ChangeSpec.witness6 (enc := enc) (C := Try.checked) false ⟨#[], #[.slice none 0 0], []⟩ 16 (by kernel_rfl) (by kernel_rfl) (by kernel_rfl) (by kernel_rfl)) ?_
  intro W base args ds gs before hval0 hW hcnd _
  have hval : ∀ (j : Nat) t v, Try.f8.params[j]? = some t → args[j]? = some v → Value.okWide Try.prog W .any base t v := hval0
  have hW' := hW
  obtain ⟨p, q, hA0, hV, rfl, hfz, hnd⟩ := hW
  have hA : DataW.TrodAll enc Try.prog W 0 (fun _ => true) true Try.f8.params.toList args.toList ds p := hA0
  rw [Try.params8] at hA hval
  obtain ⟨v0, vs0, d0, ds0, p0, q0, hargs, rfl, rfl, h0, r0⟩ := trodAll_cons hA
  obtain ⟨rfl, rfl, rfl⟩ := trodAll_nil r0
  obtain rfl : args = #[v0] := by cases args; simp_all
  obtain ⟨rfl, rfl⟩ := trodVars_none hV
  have k0 := h0
  have lt0 : ∀ x ∈ p0, x.block < W.heap.size := by obtain ⟨m, hm⟩ := k0; exact DataW.trod_lt m _ _ _ hm
  obtain ⟨A0, len0, cap0, rfl⟩ := okWide_slice Try.underlying39 (hval 0 39 v0 rfl rfl)
  obtain ⟨l0, rfl, rd0, m0⟩ := open_nest (d := 9) (ks := callK) Try.underlying39 call_kinds h0
  clear hA0 hval0
  refine (ideal_row rd0 m0).mono fun e W' ⟨he, hs⟩ => ?_
  subst he
  have bel := hs.belowOld 0 rfl
  exact ⟨_, rfl, _, _, _, [], _, [], hW', trodAll_mk1 (shut_bool Try.underlying4 _), (trodAll_cons_mk (Below.trod macIdeal_laidOut (by kernel_rfl) (of_decide_eq_true (by kernel_rfl)) k0 bel lt0) trodAll_mk0), rfl, bel.frame _, fun h => by cases h⟩

theorem macIdeal_over : Rows.macIdealRow.holds Try.pinned (OpenSpec.ofChange Rows.macIdealSpec) :=
  OpenClaim.holds_of_wide 8 Try.f8 rfl rfl rfl rfl rfl rfl rfl ⟨rfl, rfl, rfl, rfl, rfl⟩ rfl rfl rfl rfl rfl (by kernel_rfl) Try.func8 (by kernel_rfl)
    (of_decide_eq_true (by kernel_rfl)) (by unfold Func.isWrapper; first | (rw [if_pos (by decide +kernel)]; kernel_rfl) | (rw [if_neg (by decide +kernel)]; exact ⟨rfl, rfl⟩))
    (fun os started H enc _ => macIdeal_lifted os started H enc)

theorem macIdeal_holds : Rows.MacIdealSaid := macIdeal_over
#print axioms macIdeal_holds
end Go.Proofs.Ytidkfjgelcpieaa
