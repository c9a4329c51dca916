/- The statement SipPartsSaid: for every input the law SipParts returns true, and its arguments read as they did. Conditions: none. -/
import Derived.Test.YtidkfjgelcpieaaSipPa
import Derived.Test.YtidkfjgelcpieaaLiftN
set_option linter.unusedVariables false
namespace Go.Proofs.Ytidkfjgelcpieaa
open Go.ChangeShapes Go.WideShapes Go.ChangeAt Go.RowKit Go.Bst

def partK : List NK := [.sl [.int .u8]]
theorem part_kinds : nkinds Try.prog 9 24 = some partK := by kernel_rfl
theorem parts_form {W : World} : ∀ {l : List (Array Value)}, (∀ m ∈ l, okAll W partK m.toList) → ∃ ps : List (Value × List UInt8), flat l = ps.map (·.1) ∧ ps.length = l.length ∧ ∀ p ∈ ps, Rd W 1 p.1 p.2.length (ybs p.2)
  | [], _ => ⟨[], rfl, rfl, by simp⟩
  | m :: l, h => by
    obtain ⟨ps, e1, e2, e3⟩ := parts_form (l := l) (fun x hx => h x (by simp [hx]))
    have hm := h m (by simp)
    obtain ⟨c⟩ := m
    have hlen := okAll_len hm
    match c, hlen with
    | [v], _ =>
      obtain ⟨⟨lv, h1, h2⟩, _⟩ := hm
      obtain ⟨bs, hb⟩ := bytes_form h1 h2
      exact ⟨(v, bs) :: ps, by
        have : flat (⟨[v]⟩ :: l) = v :: flat l := by simp [flat]
        rw [this, e1]; rfl, by simp [e2], fun p hp => by
        rcases List.mem_cons.1 hp with rfl | hp
        · exact hb
        · exact e3 p hp⟩
theorem parts_row {W : World} {c : Array Value} {v : Value} {l : List (Array Value)} (m0 : fitAll (List.replicate 16 (.int .u8)) c.toList) (hr : Rd W 1 v l.length (flat l)) (hm : ∀ m ∈ l, okAll W partK m.toList) :
    Calls Try.prog 4 #[.agg c, v] W fun e w' => e = .returned (.bool true) ∧ Sat (World.env W) w' [Old W] := by
  obtain ⟨k, rfl, hk⟩ := key_form m0
  obtain ⟨ps, e1, e2, e3⟩ := parts_form hm
  rw [e1, ← e2] at hr
  exact sip_parts hk hr e3

theorem sipParts_own : ownKnob Try.prog.godebug = none := by kernel_rfl
theorem sipParts_laidOut : laidOutB Try.prog = true := by kernel_rfl
set_option maxRecDepth 100000 in
theorem sipParts_lifted (os : Os) (started : os.Started) (H : Type) (enc : TypeId × Value → H) :
    ReturnsInHanded {} Try.checked os 4 .any (Rows.sipPartsSpec.pre6 enc Try.prog Try.f4 Rows.sipPartsRow.domain false) (Rows.sipPartsSpec.post enc Try.prog Try.f4 false true false false) := by
  refine returnsInHanded_of_change (C := Try.checked) sipParts_own started (by kernel_rfl) Try.func4
    (ChangeSpec.witness6 (enc := enc) (C := Try.checked) false ⟨#[], #[keyV, .slice none 0 0], []⟩ 16 (by kernel_rfl) (by kernel_rfl) (by kernel_rfl) (by kernel_rfl)) ?_
  intro W base args ds gs before hval0 hW hcnd _
  have hval : ∀ (j : Nat) t v, Try.f4.params[j]? = some t → args[j]? = some v → Value.okWide Try.prog W .any base t v := hval0
  have hW' := hW
  obtain ⟨p, q, hA0, hV, rfl, hfz, hnd⟩ := hW
  have hA : DataW.TrodAll enc Try.prog W 0 (fun _ => true) true Try.f4.params.toList args.toList ds p := hA0
  rw [Try.params4] at hA hval
  obtain ⟨v0, vs0, d0, ds0, p0, q0, hargs, rfl, rfl, h0, r0⟩ := trodAll_cons hA
  obtain ⟨v1, vs1, d1, ds1, p1, q1, rfl, rfl, rfl, h1, r1⟩ := trodAll_cons r0
  obtain ⟨rfl, rfl, rfl⟩ := trodAll_nil r1
  obtain rfl : args = #[v0, v1] := by cases args; simp_all
  obtain ⟨rfl, rfl⟩ := trodVars_none hV
  have k0 := h0
  have lt0 : ∀ x ∈ p0, x.block < W.heap.size := by obtain ⟨m, hm⟩ := k0; exact DataW.trod_lt m _ _ _ hm
  obtain ⟨c0, rfl, cz0⟩ := okWide_array Try.underlying23 (hval 0 23 v0 rfl rfl)
  have m0 : fitAll (List.replicate 16 (.int .u8)) c0.toList := by obtain ⟨m, hm⟩ := h0; exact (fitOk Try.prog 9 _ _ key_kinds enc W _ _ _ m _ _ hm).1
  have k1 := h1
  have lt1 : ∀ x ∈ p1, x.block < W.heap.size := by obtain ⟨m, hm⟩ := k1; exact DataW.trod_lt m _ _ _ hm
  obtain ⟨A1, len1, cap1, rfl⟩ := okWide_slice Try.underlying31 (hval 1 31 v1 rfl rfl)
  obtain ⟨l1, rfl, rd1, m1⟩ := open_nest (d := 9) (ks := partK) Try.underlying31 part_kinds h1
  clear hA0 hval0
  refine (parts_row m0 rd1 m1).mono fun e W' ⟨he, hs⟩ => ?_
  subst he
  have bel := hs.belowOld 0 rfl
  exact ⟨_, rfl, _, _, _, [], _, [], hW', trodAll_mk1 (shut_bool Try.underlying4 _), (trodAll_cons_mk (Below.trod sipParts_laidOut (by kernel_rfl) (of_decide_eq_true (by kernel_rfl)) k0 bel lt0) (trodAll_cons_mk (Below.trod sipParts_laidOut (by kernel_rfl) (of_decide_eq_true (by kernel_rfl)) k1 bel lt1) trodAll_mk0)), rfl, bel.frame _, fun h => by cases h⟩

theorem sipParts_over : Rows.sipPartsRow.holds Try.pinned (OpenSpec.ofChange Rows.sipPartsSpec) :=
  OpenClaim.holds_of_wide 4 Try.f4 rfl rfl rfl rfl rfl rfl rfl ⟨rfl, rfl, rfl, rfl, rfl⟩ rfl rfl rfl rfl rfl (by kernel_rfl) Try.func4 (by kernel_rfl)
    (of_decide_eq_true (by kernel_rfl)) (by unfold Func.isWrapper; first | (rw [if_pos (by decide +kernel)]; kernel_rfl) | (rw [if_neg (by decide +kernel)]; exact ⟨rfl, rfl⟩))
    (fun os started H enc _ => sipParts_lifted os started H enc)

theorem sipParts_holds : Rows.SipPartsSaid := sipParts_over
#print axioms sipParts_holds
end Go.Proofs.Ytidkfjgelcpieaa
