/- The statement NocApartSaid: for every input the law NocApart returns true, and its arguments read as they did. Conditions: none. -/
import Derived.Test.YtbkfhieadnfndaaNocA
import Derived.Test.YtbkfhieadnfndaaLift
set_option linter.unusedVariables false
namespace Go.Proofs.Ytbkfhieadnfndaa
open Go.ChangeShapes Go.WideShapes Go.ChangeAt Go.RowKit Go.Bst
def lkZ : Value := .agg #[.int .i64 0, .int .i64 0, .int .i64 0]
theorem nocApart_row {W : World} {nodes room : Int} {A : Option Addr} {cap : Nat} {l : List (Array Value)} {c d : Array Value} (rd : Rd W 38 (.slice A l.length cap) l.length (flat l)) (m : ∀ x ∈ l, fitAll msgK x.toList) (mc : fitAll linkK c.toList) (md : fitAll linkK d.toList) :
    Calls Try.prog 10 #[.int .i64 nodes, .int .i64 room, .slice A l.length cap, .agg c, .agg d] W fun e w' => e = .returned (.bool true) ∧ Sat (World.env W) w' [Old W] := by
  obtain ⟨ms, rfl, hms⟩ := ms_forms m
  obtain ⟨x, rfl, hx⟩ := lk_form mc
  obtain ⟨y, rfl, hy⟩ := lk_form md
  rw [List.length_map] at rd ⊢
  exact law_NocApart hms hx hy rd

theorem nocApart_own : ownKnob Try.prog.godebug = none := by kernel_rfl
theorem nocApart_laidOut : laidOutB Try.prog = true := by kernel_rfl
set_option maxRecDepth 100000 in
theorem nocApart_lifted (os : Os) (started : os.Started) (H : Type) (enc : TypeId × Value → H) :
    ReturnsInHanded {} Try.checked os 10 .any (Rows.nocApartSpec.pre6 enc Try.prog Try.f10 Rows.nocApartRow.domain false) (Rows.nocApartSpec.post enc Try.prog Try.f10 false true false false) := by
  refine returnsInHanded_of_change (C := Try.checked) nocApart_own started (by kernel_rfl) Try.func10
    (ChangeSpec.witness6 (enc := enc) (C := Try.checked) false ⟨#[], #[.int .i64 0, .int .i64 0, .slice none 0 0, lkZ, lkZ], []⟩ 16 (by kernel_rfl) (by kernel_rfl) (by kernel_rfl) (by kernel_rfl)) ?_
  intro W base args ds gs before hval0 hW hcnd _
  have hval : ∀ (j : Nat) t v, Try.f10.params[j]? = some t → args[j]? = some v → Value.okWide Try.prog W .any base t v := hval0
  have hW' := hW
  obtain ⟨p, q, hA0, hV, rfl, hfz, hnd⟩ := hW
  have hA : DataW.TrodAll enc Try.prog W 0 (fun _ => true) true Try.f10.params.toList args.toList ds p := hA0
  rw [Try.params10] at hA hval
  obtain ⟨v0, vs0, d0, ds0, p0, q0, hargs, rfl, rfl, h0, r0⟩ := trodAll_cons hA
  obtain ⟨v1, vs1, d1, ds1, p1, q1, rfl, rfl, rfl, h1, r1⟩ := trodAll_cons r0
  obtain ⟨v2, vs2, d2, ds2, p2, q2, rfl, rfl, rfl, h2, r2⟩ := trodAll_cons r1
  obtain ⟨v3, vs3, d3, ds3, p3, q3, rfl, rfl, rfl, h3, r3⟩ := trodAll_cons r2
  obtain ⟨v4, vs4, d4, ds4, p4, q4, rfl, rfl, rfl, h4, r4⟩ := trodAll_cons r3
  obtain ⟨rfl, rfl, rfl⟩ := trodAll_nil r4
  obtain rfl : args = #[v0, v1, v2, v3, v4] := by cases args; simp_all
  obtain ⟨rfl, rfl⟩ := trodVars_none hV
  have k0 := h0
  have lt0 : ∀ x ∈ p0, x.block < W.heap.size := by obtain ⟨m, hm⟩ := k0; exact DataW.trod_lt m _ _ _ hm
  obtain ⟨a0, rfl, e0, f0, w0⟩ := open_int Try.underlying3 (hval 0 3 v0 rfl rfl) h0
  have k1 := h1
  have lt1 : ∀ x ∈ p1, x.block < W.heap.size := by obtain ⟨m, hm⟩ := k1; exact DataW.trod_lt m _ _ _ hm
  obtain ⟨a1, rfl, e1, f1, w1⟩ := open_int Try.underlying3 (hval 1 3 v1 rfl rfl) h1
  have k2 := h2
  have lt2 : ∀ x ∈ p2, x.block < W.heap.size := by obtain ⟨m, hm⟩ := k2; exact DataW.trod_lt m _ _ _ hm
  obtain ⟨A2, len2, cap2, rfl⟩ := okWide_slice Try.underlying22 (hval 2 22 v2 rfl rfl)
  obtain ⟨l2, rfl, cm2, rd2, m2⟩ := open_plain (d := 9) (ks := msgK) Try.underlying22 msg_kinds (by kernel_rfl) h2
  have k3 := h3
  have lt3 : ∀ x ∈ p3, x.block < W.heap.size := by obtain ⟨m, hm⟩ := k3; exact DataW.trod_lt m _ _ _ hm
  obtain ⟨c3, rfl, cz3⟩ := okWide_struct Try.underlying82 (hval 3 82 v3 rfl rfl)
  have m3 : fitAll linkK c3.toList := by obtain ⟨m, hm⟩ := h3; exact (fitOk Try.prog 9 _ _ link_kinds enc W _ _ _ m _ _ hm).1
  have k4 := h4
  have lt4 : ∀ x ∈ p4, x.block < W.heap.size := by obtain ⟨m, hm⟩ := k4; exact DataW.trod_lt m _ _ _ hm
  obtain ⟨c4, rfl, cz4⟩ := okWide_struct Try.underlying82 (hval 4 82 v4 rfl rfl)
  have m4 : fitAll linkK c4.toList := by obtain ⟨m, hm⟩ := h4; exact (fitOk Try.prog 9 _ _ link_kinds enc W _ _ _ m _ _ hm).1
  clear hA0 hval0
  refine (nocApart_row (nodes := a0) (room := a1) rd2 m2 m3 m4).mono fun e W' ⟨he, hs⟩ => ?_
  subst he
  have bel := hs.belowOld 0 rfl
  exact ⟨_, rfl, _, _, _, [], _, [], hW', trodAll_mk1 (shut_bool Try.underlying4 _), (trodAll_cons_mk (Below.trod nocApart_laidOut (by kernel_rfl) (of_decide_eq_true (by kernel_rfl)) k0 bel lt0) (trodAll_cons_mk (Below.trod nocApart_laidOut (by kernel_rfl) (of_decide_eq_true (by kernel_rfl)) k1 bel lt1) (trodAll_cons_mk (Below.trod nocApart_laidOut (by kernel_rfl) (of_decide_eq_true (by kernel_rfl)) k2 bel lt2) (trodAll_cons_mk (Below.trod nocApart_laidOut (by kernel_rfl) (of_decide_eq_true (by kernel_rfl)) k3 bel lt3) (trodAll_cons_mk (Below.trod nocApart_laidOut (by kernel_rfl) (of_decide_eq_true (by kernel_rfl)) k4 bel lt4) trodAll_mk0))))), rfl, bel.frame _, fun h => by cases h⟩

theorem nocApart_over : Rows.nocApartRow.holds Try.pinned (OpenSpec.ofChange Rows.nocApartSpec) :=
  OpenClaim.holds_of_wide 10 Try.f10 rfl rfl rfl rfl rfl rfl rfl ⟨rfl, rfl, rfl, rfl, rfl⟩ rfl rfl rfl rfl rfl (by kernel_rfl) Try.func10 (by kernel_rfl)
    (of_decide_eq_true (by kernel_rfl)) (by unfold Func.isWrapper; first | (rw [if_pos (by decide +kernel)]; kernel_rfl) | (rw [if_neg (by decide +kernel)]; exact ⟨rfl, rfl⟩))
    (fun os started H enc _ => nocApart_lifted os started H enc)

theorem nocApart_holds : Rows.NocApartSaid := nocApart_over
#print axioms nocApart_holds
end Go.Proofs.Ytbkfhieadnfndaa
