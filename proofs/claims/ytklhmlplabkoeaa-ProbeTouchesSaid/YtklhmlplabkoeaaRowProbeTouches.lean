/- The statement ProbeTouchesSaid: for every input the law ProbeTouches returns true, and its arguments read as they did. Conditions: none. -/
import Derived.Test.YtklhmlplabkoeaaTouX
import Derived.Test.YtklhmlplabkoeaaFormP
import Derived.Test.YtklhmlplabkoeaaLiftN
set_option linter.unusedVariables false
namespace Go.Proofs.Ytklhmlplabkoeaa
open Go.ChangeShapes Go.WideShapes Go.ChangeAt Go.RowKit Go.Bst
def tamNK : List NK := [.k (.int .i64), .k (.int .i64), .k (.int .i64), .k (.int .i64), .sl [.int .u8]]
theorem tam_kinds : nkinds Try.prog 9 62 = some tamNK := by kernel_rfl
theorem okAll_cons {w : World} {k : NK} {ks : List NK} {l : List Value} (h : okAll w (k :: ks) l) : ∃ v vs, l = v :: vs ∧ k.ok w v ∧ okAll w ks vs := by
  cases l with
  | nil => exact h.elim
  | cons v vs => exact ⟨v, vs, rfl, h.1, h.2⟩
theorem okAll_nil {w : World} {l : List Value} (h : okAll w [] l) : l = [] := by
  cases l with
  | nil => rfl
  | cons v vs => exact h.elim
theorem tam_form {w : World} {c : Array Value} (h : okAll w tamNK c.toList) : ∃ (t : Tmv) (A : Option Addr) (l bc : Nat), c = t.cs (.slice A l bc) ∧ Tmv.Ok t := by
  obtain ⟨l⟩ := c
  change okAll w [.k (.int .i64), .k (.int .i64), .k (.int .i64), .k (.int .i64), .sl [.int .u8]] l at h
  obtain ⟨v0, l0, rfl, f0, k0⟩ := okAll_cons h
  obtain ⟨v1, l1, rfl, f1, k1⟩ := okAll_cons k0
  obtain ⟨v2, l2, rfl, f2, k2⟩ := okAll_cons k1
  obtain ⟨v3, l3, rfl, f3, k3⟩ := okAll_cons k2
  obtain ⟨v4, l4, rfl, f4, k4⟩ := okAll_cons k3
  obtain rfl := okAll_nil k4
  obtain ⟨x0, rfl, g0⟩ := fits_i64_out f0
  obtain ⟨x1, rfl, g1⟩ := fits_i64_out f1
  obtain ⟨x2, rfl, g2⟩ := fits_i64_out f2
  obtain ⟨x3, rfl, g3⟩ := fits_i64_out f3
  obtain ⟨q, hq, _⟩ := f4
  obtain ⟨A, cap, rfl, _⟩ := hq.form
  exact ⟨⟨x0, x1, x2, x3⟩, A, q.length, cap, by unfold Tmv.cs; rfl, ⟨g0, g1, g2, g3⟩⟩
def tamV : Value := .agg #[.int .i64 0, .int .i64 0, .int .i64 0, .int .i64 0, .slice none 0 0]
theorem probeTouches_row {W : World} {c d : Array Value} (m0 : fitAll planK c.toList) (m1 : okAll W tamNK d.toList) :
    Calls Try.prog 5 #[.agg c, .agg d] W fun e w' => e = .returned (.bool true) ∧ Sat (World.env W) w' [Old W] := by
  obtain ⟨p, rfl, hp⟩ := plan_form m0
  obtain ⟨t, A, l, bc, rfl, ht⟩ := tam_form m1
  exact law_ProbeTouches hp ht

theorem probeTouches_own : ownKnob Try.prog.godebug = none := by kernel_rfl
theorem probeTouches_laidOut : laidOutB Try.prog = true := by kernel_rfl
set_option maxRecDepth 100000 in
theorem probeTouches_lifted (os : Os) (started : os.Started) (H : Type) (enc : TypeId × Value → H) :
    ReturnsInHanded {} Try.checked os 5 .any (Rows.probeTouchesSpec.pre6 enc Try.prog Try.f5 Rows.probeTouchesRow.domain false) (Rows.probeTouchesSpec.post enc Try.prog Try.f5 false true false false) := by
  refine returnsInHanded_of_change (C := Try.checked) probeTouches_own started (by kernel_rfl) Try.func5
    (ChangeSpec.witness6 (enc := enc) (C := Try.checked) false ⟨#[], #[planV, tamV], []⟩ 16 (by kernel_rfl) (by kernel_rfl) (by kernel_rfl) (by kernel_rfl)) ?_
  intro W base args ds gs before hval0 hW hcnd _
  have hval : ∀ (j : Nat) t v, Try.f5.params[j]? = some t → args[j]? = some v → Value.okWide Try.prog W .any base t v := hval0
  have hW' := hW
  obtain ⟨p, q, hA0, hV, rfl, hfz, hnd⟩ := hW
  have hA : DataW.TrodAll enc Try.prog W 0 (fun _ => true) true Try.f5.params.toList args.toList ds p := hA0
  rw [Try.params5] at hA hval
  obtain ⟨v0, vs0, d0, ds0, p0, q0, hargs, rfl, rfl, h0, r0⟩ := trodAll_cons hA
  obtain ⟨v1, vs1, d1, ds1, p1, q1, rfl, rfl, rfl, h1, r1⟩ := trodAll_cons r0
  obtain ⟨rfl, rfl, rfl⟩ := trodAll_nil r1
  obtain rfl : args = #[v0, v1] := by cases args; simp_all
  obtain ⟨rfl, rfl⟩ := trodVars_none hV
  have k0 := h0
  have lt0 : ∀ x ∈ p0, x.block < W.heap.size := by obtain ⟨m, hm⟩ := k0; exact DataW.trod_lt m _ _ _ hm
  obtain ⟨c0, rfl, cz0⟩ := okWide_struct Try.underlying28 (hval 0 28 v0 rfl rfl)
  have m0 : fitAll planK c0.toList := by obtain ⟨m, hm⟩ := h0; exact (fitOk Try.prog 9 _ _ plan_kinds enc W _ _ _ m _ _ hm).1
  have k1 := h1
  have lt1 : ∀ x ∈ p1, x.block < W.heap.size := by obtain ⟨m, hm⟩ := k1; exact DataW.trod_lt m _ _ _ hm
  obtain ⟨c1, rfl, cz1⟩ := okWide_struct Try.underlying62 (hval 1 62 v1 rfl rfl)
  have m1 : okAll W tamNK c1.toList := open_nstruct (d := 9) tam_kinds h1
  clear hA0 hval0
  refine (probeTouches_row m0 m1).mono fun e W' ⟨he, hs⟩ => ?_
  subst he
  have bel := hs.belowOld 0 rfl
  exact ⟨_, rfl, _, _, _, [], _, [], hW', trodAll_mk1 (shut_bool Try.underlying4 _), (trodAll_cons_mk (Below.trod probeTouches_laidOut (by kernel_rfl) (of_decide_eq_true (by kernel_rfl)) k0 bel lt0) (trodAll_cons_mk (Below.trod probeTouches_laidOut (by kernel_rfl) (of_decide_eq_true (by kernel_rfl)) k1 bel lt1) trodAll_mk0)), rfl, bel.frame _, fun h => by cases h⟩

theorem probeTouches_over : Rows.probeTouchesRow.holds Try.pinned (OpenSpec.ofChange Rows.probeTouchesSpec) :=
  OpenClaim.holds_of_wide 5 Try.f5 rfl rfl rfl rfl rfl rfl rfl ⟨rfl, rfl, rfl, rfl, rfl⟩ rfl rfl rfl rfl rfl (by kernel_rfl) Try.func5 (by kernel_rfl)
    (of_decide_eq_true (by kernel_rfl)) (by unfold Func.isWrapper; first | (rw [if_pos (by decide +kernel)]; kernel_rfl) | (rw [if_neg (by decide +kernel)]; exact ⟨rfl, rfl⟩))
    (fun os started H enc _ => probeTouches_lifted os started H enc)

theorem probeTouches_holds : Rows.ProbeTouchesSaid := probeTouches_over
#print axioms probeTouches_holds
end Go.Proofs.Ytklhmlplabkoeaa
