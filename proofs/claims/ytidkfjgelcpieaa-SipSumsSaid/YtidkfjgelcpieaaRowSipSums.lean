/- The statement SipSumsSaid: for every input the law SipSums returns true, and its arguments read as they did. Conditions: none. -/
import Derived.Test.YtidkfjgelcpieaaSipW
import Derived.Test.YtidkfjgelcpieaaLift
set_option linter.unusedVariables false
namespace Go.Proofs.Ytidkfjgelcpieaa
open Go.ChangeShapes Go.WideShapes Go.ChangeAt Go.RowKit Go.Bst

theorem sums_row {W : World} {c d : Array Value} {v : Value} {l : List (Array Value)} (m0 : fitAll (List.replicate 16 (.int .u8)) c.toList) (hr : Rd W 1 v l.length (flat l)) (hm : ∀ m ∈ l, fitAll [.int .u8] m.toList) (m2 : fitAll (List.replicate 4 (.int .u64)) d.toList) :
    Calls Try.prog 3 #[.agg c, v, .agg d] W fun e w' => e = .returned (.bool true) ∧ Sat (World.env W) w' [Old W] := by
  obtain ⟨k, rfl, hk⟩ := key_form m0
  obtain ⟨x, rfl⟩ := quad_form m2
  obtain ⟨bs, hb⟩ := bytes_form hr hm
  exact sip_sums hk hb

theorem sipSums_own : ownKnob Try.prog.godebug = none := by kernel_rfl
theorem sipSums_laidOut : laidOutB Try.prog = true := by kernel_rfl
set_option maxRecDepth 100000 in
theorem sipSums_lifted (os : Os) (started : os.Started) (H : Type) (enc : TypeId × Value → H) :
    ReturnsInHanded {} Try.checked os 3 .any (Rows.sipSumsSpec.pre6 enc Try.prog Try.f3 Rows.sipSumsRow.domain false) (Rows.sipSumsSpec.post enc Try.prog Try.f3 false true false false) := by
  refine returnsInHanded_of_change (C := Try.checked) sipSums_own started (by kernel_rfl) Try.func3
    (ChangeSpec.witness6 (enc := enc) (C := Try.checked) false ⟨#[], #[keyV, .slice none 0 0, quadV], []⟩ 16 (by kernel_rfl) (by kernel_rfl) (by kernel_rfl) (by kernel_rfl)) ?_
  intro W base args ds gs before hval0 hW hcnd _
  have hval : ∀ (j : Nat) t v, Try.f3.params[j]? = some t → args[j]? = some v → Value.okWide Try.prog W .any base t v := hval0
  have hW' := hW
  obtain ⟨p, q, hA0, hV, rfl, hfz, hnd⟩ := hW
  have hA : DataW.TrodAll enc Try.prog W 0 (fun _ => true) true Try.f3.params.toList args.toList ds p := hA0
  rw [Try.params3] at hA hval
  obtain ⟨v0, vs0, d0, ds0, p0, q0, hargs, rfl, rfl, h0, r0⟩ := trodAll_cons hA
  obtain ⟨v1, vs1, d1, ds1, p1, q1, rfl, rfl, rfl, h1, r1⟩ := trodAll_cons r0
  obtain ⟨v2, vs2, d2, ds2, p2, q2, rfl, rfl, rfl, h2, r2⟩ := trodAll_cons r1
  obtain ⟨rfl, rfl, rfl⟩ := trodAll_nil r2
  obtain rfl : args = #[v0, v1, v2] := by cases args; simp_all
  obtain ⟨rfl, rfl⟩ := trodVars_none hV
  have k0 := h0
  have lt0 : ∀ x ∈ p0, x.block < W.heap.size := by obtain ⟨m, hm⟩ := k0; exact DataW.trod_lt m _ _ _ hm
  obtain ⟨c0, rfl, cz0⟩ := okWide_array Try.underlying23 (hval 0 23 v0 rfl rfl)
  have m0 : fitAll (List.replicate 16 (.int .u8)) c0.toList := by obtain ⟨m, hm⟩ := h0; exact (fitOk Try.prog 9 _ _ key_kinds enc W _ _ _ m _ _ hm).1
  have k1 := h1
  have lt1 : ∀ x ∈ p1, x.block < W.heap.size := by obtain ⟨m, hm⟩ := k1; exact DataW.trod_lt m _ _ _ hm
  obtain ⟨A1, len1, cap1, rfl⟩ := okWide_slice Try.underlying24 (hval 1 24 v1 rfl rfl)
  obtain ⟨l1, rfl, cm1, rd1, m1⟩ := open_plain (d := 9) (ks := [.int .u8]) Try.underlying24 byte_kinds (by kernel_rfl) h1
  have k2 := h2
  have lt2 : ∀ x ∈ p2, x.block < W.heap.size := by obtain ⟨m, hm⟩ := k2; exact DataW.trod_lt m _ _ _ hm
  obtain ⟨c2, rfl, cz2⟩ := okWide_array Try.underlying26 (hval 2 26 v2 rfl rfl)
  have m2 : fitAll (List.replicate 4 (.int .u64)) c2.toList := by obtain ⟨m, hm⟩ := h2; exact (fitOk Try.prog 9 _ _ q_kinds enc W _ _ _ m _ _ hm).1
  clear hA0 hval0
  refine (sums_row m0 rd1 m1 m2).mono fun e W' ⟨he, hs⟩ => ?_
  subst he
  have bel := hs.belowOld 0 rfl
  exact ⟨_, rfl, _, _, _, [], _, [], hW', trodAll_mk1 (shut_bool Try.underlying4 _), (trodAll_cons_mk (Below.trod sipSums_laidOut (by kernel_rfl) (of_decide_eq_true (by kernel_rfl)) k0 bel lt0) (trodAll_cons_mk (Below.trod sipSums_laidOut (by kernel_rfl) (of_decide_eq_true (by kernel_rfl)) k1 bel lt1) (trodAll_cons_mk (Below.trod sipSums_laidOut (by kernel_rfl) (of_decide_eq_true (by kernel_rfl)) k2 bel lt2) trodAll_mk0))), rfl, bel.frame _, fun h => by cases h⟩

theorem sipSums_over : Rows.sipSumsRow.holds Try.pinned (OpenSpec.ofChange Rows.sipSumsSpec) :=
  OpenClaim.holds_of_wide 3 Try.f3 rfl rfl rfl rfl rfl rfl rfl ⟨rfl, rfl, rfl, rfl, rfl⟩ rfl rfl rfl rfl rfl (by kernel_rfl) Try.func3 (by kernel_rfl)
    (of_decide_eq_true (by kernel_rfl)) (by unfold Func.isWrapper; first | (rw [if_pos (by decide +kernel)]; kernel_rfl) | (rw [if_neg (by decide +kernel)]; exact ⟨rfl, rfl⟩))
    (fun os started H enc _ => sipSums_lifted os started H enc)

theorem sipSums_holds : Rows.SipSumsSaid := sipSums_over
#print axioms sipSums_holds
end Go.Proofs.Ytidkfjgelcpieaa
