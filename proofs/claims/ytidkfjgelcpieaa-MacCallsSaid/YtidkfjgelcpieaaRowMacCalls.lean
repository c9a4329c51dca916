/- The statement MacCallsSaid: for every input the law MacCalls returns true, and its arguments read as they did. Conditions: none. -/
import Derived.Test.YtidkfjgelcpieaaMacCd
import Derived.Test.YtidkfjgelcpieaaLiftN
set_option linter.unusedVariables false
namespace Go.Proofs.Ytidkfjgelcpieaa
open Go.ChangeShapes Go.WideShapes Go.ChangeAt Go.RowKit Go.Bst

theorem calls_row {W : World} {kind : Int} {c : Array Value} {v : Value} {l : List (Array Value)} (m0 : fitAll (List.replicate 16 (.int .u8)) c.toList) (hr : Rd W 4 v l.length (flat l)) (hm : ∀ m ∈ l, okAll W callK m.toList) :
    Calls Try.prog 10 #[.int .i64 kind, .agg c, v] W fun e w' => e = .returned (.bool true) ∧ Sat (World.env W) w' [Old W] := by
  obtain ⟨k, rfl, hk⟩ := key_form m0
  obtain ⟨cs, rfl, hc⟩ := calls_form (v := v) hm
  rw [List.length_map] at hr
  by_cases h0 : kind = 0
  · subst h0
    cases hg : greatB cs with
    | true => exact mac_calls_great ⟨hr, hc⟩ hk (.inl rfl) hg
    | false => exact mac_calls_k0 ⟨hr, hc⟩ hk hg
  · by_cases h1 : kind = 1
    · subst h1
      cases hg : greatB cs with
      | true => exact mac_calls_great ⟨hr, hc⟩ hk (.inr rfl) hg
      | false => exact mac_calls_k1 ⟨hr, hc⟩ hk hg
    · exact mac_calls_no hk h0 h1

theorem macCalls_own : ownKnob Try.prog.godebug = none := by kernel_rfl
theorem macCalls_laidOut : laidOutB Try.prog = true := by kernel_rfl
set_option maxRecDepth 100000 in
theorem macCalls_lifted (os : Os) (started : os.Started) (H : Type) (enc : TypeId × Value → H) :
    ReturnsInHanded {} Try.checked os 10 .any (Rows.macCallsSpec.pre6 enc Try.prog Try.f10 Rows.macCallsRow.domain false) (Rows.macCallsSpec.post enc Try.prog Try.f10 false true false false) := by
  refine returnsInHanded_of_change (C := Try.checked) macCalls_own started (by kernel_rfl) Try.func10
    (ChangeSpec.witness6 (enc := enc) (C := Try.checked) false ⟨#[], #[.int .i64 0, keyV, .slice none 0 0], []⟩ 16 (by kernel_rfl) (by kernel_rfl) (by kernel_rfl) (by kernel_rfl)) ?_
  intro W base args ds gs before hval0 hW hcnd _
  have hval : ∀ (j : Nat) t v, Try.f10.params[j]? = some t → args[j]? = some v → Value.okWide Try.prog W .any base t v := hval0
  have hW' := hW
  obtain ⟨p, q, hA0, hV, rfl, hfz, hnd⟩ := hW
  have hA : DataW.TrodAll enc Try.prog W 0 (fun _ => true) true Try.f10.params.toList args.toList ds p := hA0
  rw [Try.params10] at hA hval
  obtain ⟨v0, vs0, d0, ds0, p0, q0, hargs, rfl, rfl, h0, r0⟩ := trodAll_cons hA
  obtain ⟨v1, vs1, d1, ds1, p1, q1, rfl, rfl, rfl, h1, r1⟩ := trodAll_cons r0
  obtain ⟨v2, vs2, d2, ds2, p2, q2, rfl, rfl, rfl, h2, r2⟩ := trodAll_cons r1
  obtain ⟨rfl, rfl, rfl⟩ := trodAll_nil r2
  obtain rfl : args = #[v0, v1, v2] := by cases args; simp_all
  obtain ⟨rfl, rfl⟩ := trodVars_none hV
  have k0 := h0
  have lt0 : ∀ x ∈ p0, x.block < W.heap.size := by obtain ⟨m, hm⟩ := k0; exact DataW.trod_lt m _ _ _ hm
  obtain ⟨a0, rfl, e0, f0, w0⟩ := open_int Try.underlying3 (hval 0 3 v0 rfl rfl) h0
  have k1 := h1
  have lt1 : ∀ x ∈ p1, x.block < W.heap.size := by obtain ⟨m, hm⟩ := k1; exact DataW.trod_lt m _ _ _ hm
  obtain ⟨c1, rfl, cz1⟩ := okWide_array Try.underlying23 (hval 1 23 v1 rfl rfl)
  have m1 : fitAll (List.replicate 16 (.int .u8)) c1.toList := by obtain ⟨m, hm⟩ := h1; exact (fitOk Try.prog 9 _ _ key_kinds enc W _ _ _ m _ _ hm).1
  have k2 := h2
  have lt2 : ∀ x ∈ p2, x.block < W.heap.size := by obtain ⟨m, hm⟩ := k2; exact DataW.trod_lt m _ _ _ hm
  obtain ⟨A2, len2, cap2, rfl⟩ := okWide_slice Try.underlying39 (hval 2 39 v2 rfl rfl)
  obtain ⟨l2, rfl, rd2, m2⟩ := open_nest (d := 9) (ks := callK) Try.underlying39 call_kinds h2
  clear hA0 hval0
  refine (calls_row (kind := a0) m1 rd2 m2).mono fun e W' ⟨he, hs⟩ => ?_
  subst he
  have bel := hs.belowOld 0 rfl
  exact ⟨_, rfl, _, _, _, [], _, [], hW', trodAll_mk1 (shut_bool Try.underlying4 _), (trodAll_cons_mk (Below.trod macCalls_laidOut (by kernel_rfl) (of_decide_eq_true (by kernel_rfl)) k0 bel lt0) (trodAll_cons_mk (Below.trod macCalls_laidOut (by kernel_rfl) (of_decide_eq_true (by kernel_rfl)) k1 bel lt1) (trodAll_cons_mk (Below.trod macCalls_laidOut (by kernel_rfl) (of_decide_eq_true (by kernel_rfl)) k2 bel lt2) trodAll_mk0))), rfl, bel.frame _, fun h => by cases h⟩

theorem macCalls_over : Rows.macCallsRow.holds Try.pinned (OpenSpec.ofChange Rows.macCallsSpec) :=
  OpenClaim.holds_of_wide 10 Try.f10 rfl rfl rfl rfl rfl rfl rfl ⟨rfl, rfl, rfl, rfl, rfl⟩ rfl rfl rfl rfl rfl (by kernel_rfl) Try.func10 (by kernel_rfl)
    (of_decide_eq_true (by kernel_rfl)) (by unfold Func.isWrapper; first | (rw [if_pos (by decide +kernel)]; kernel_rfl) | (rw [if_neg (by decide +kernel)]; exact ⟨rfl, rfl⟩))
    (fun os started H enc _ => macCalls_lifted os started H enc)

theorem macCalls_holds : Rows.MacCallsSaid := macCalls_over
#print axioms macCalls_holds
end Go.Proofs.Ytidkfjgelcpieaa
