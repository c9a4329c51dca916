/- The statement TraceTellsSaid: for every input the law TraceTells returns true, and its arguments read as they did. Conditions: none. -/
import Derived.Test.YtbkfhieadnfndaaTrTe
import Derived.Test.YtbkfhieadnfndaaLift
set_option linter.unusedVariables false
namespace Go.Proofs.Ytbkfhieadnfndaa
open Go.ChangeShapes Go.WideShapes Go.ChangeAt Go.RowKit Go.Bst

def opK : List SK := [.int .i64, .int .i64, .int .i64, .int .u64, .int .u64]
theorem op_kinds : skinds Try.prog 9 59 = some opK := by kernel_rfl
def opZ : Value := .agg (opcs 0 0 0 0 0)
theorem fits_of_wf {k : IntKind} {n : Int} (h : (Lit.int k n).wf = true) : SK.fits (.int k) (.int k n) := ⟨n, rfl, by simp [Lit.wf] at h; exact h.1, by simp [Lit.wf] at h; exact h.2⟩
theorem tells_row {W : World} {n0 : Int} {v : Value} {l : List (Array Value)} {core at0 res0 : Int} {cs : Array Value} (hr : Rd W 9 v l.length (flat l)) (hm : ∀ c ∈ l, fitAll callK19 c.toList)
    (ho : fitAll opK cs.toList) (h3 : (Lit.int .i64 core).wf = true) (h4 : (Lit.int .i64 at0).wf = true) (h5 : (Lit.int .u64 res0).wf = true) :
    Calls Try.prog 8 #[.int .i64 n0, v, .agg cs, .int .i64 core, .int .i64 at0, .int .u64 res0] W fun e w' => e = .returned (.bool true) ∧ Sat (World.env W) w' [Old W] := by
  obtain ⟨c⟩ := cs
  have hl := fitAll_len ho
  match c, hl with
  | [v1, v2, v3, v4, v5], _ =>
    obtain ⟨g1, g2, g3, g4, g5, _⟩ := ho
    have g1' := g1; have g2' := g2; have g3' := g3; have g4' := g4; have g5' := g5
    obtain ⟨k, rfl, _⟩ := g1
    obtain ⟨a, rfl, _⟩ := g2
    obtain ⟨b, rfl, _⟩ := g3
    obtain ⟨v, rfl, _⟩ := g4
    obtain ⟨w, rfl, _⟩ := g5
    exact trace_tells hr hm ⟨fits_of_wf h3, g1', g2', g3', g4', g5', fits_of_wf h4, ⟨0, rfl, by decide, by decide⟩, ⟨false, rfl⟩, ⟨0, rfl, by decide, by decide⟩, trivial⟩ (fits_of_wf h5) (fits_of_wf h4)

theorem traceTells_own : ownKnob Try.prog.godebug = none := by kernel_rfl
theorem traceTells_laidOut : laidOutB Try.prog = true := by kernel_rfl
set_option maxRecDepth 100000 in
theorem traceTells_lifted (os : Os) (started : os.Started) (H : Type) (enc : TypeId × Value → H) :
    ReturnsInHanded {} Try.checked os 8 .any (Rows.traceTellsSpec.pre6 enc Try.prog Try.f8 Rows.traceTellsRow.domain false) (Rows.traceTellsSpec.post enc Try.prog Try.f8 false true false false) := by
  refine returnsInHanded_of_change (C := Try.checked) traceTells_own started (by kernel_rfl) Try.func8
    (ChangeSpec.witness6 (enc := enc) (C := Try.checked) false ⟨#[], #[.int .i64 0, .slice none 0 0, opZ, .int .i64 0, .int .i64 0, .int .u64 0], []⟩ 16 (by kernel_rfl) (by kernel_rfl) (by kernel_rfl) (by kernel_rfl)) ?_
  intro W base args ds gs before hval0 hW hcnd _
  have hval : ∀ (j : Nat) t v, Try.f8.params[j]? = some t → args[j]? = some v → Value.okWide Try.prog W .any base t v := hval0
  have hW' := hW
  obtain ⟨p, q, hA0, hV, rfl, hfz, hnd⟩ := hW
  have hA : DataW.TrodAll enc Try.prog W 0 (fun _ => true) true Try.f8.params.toList args.toList ds p := hA0
  rw [Try.params8] at hA hval
  obtain ⟨v0, vs0, d0, ds0, p0, q0, hargs, rfl, rfl, h0, r0⟩ := trodAll_cons hA
  obtain ⟨v1, vs1, d1, ds1, p1, q1, rfl, rfl, rfl, h1, r1⟩ := trodAll_cons r0
  obtain ⟨v2, vs2, d2, ds2, p2, q2, rfl, rfl, rfl, h2, r2⟩ := trodAll_cons r1
  obtain ⟨v3, vs3, d3, ds3, p3, q3, rfl, rfl, rfl, h3, r3⟩ := trodAll_cons r2
  obtain ⟨v4, vs4, d4, ds4, p4, q4, rfl, rfl, rfl, h4, r4⟩ := trodAll_cons r3
  obtain ⟨v5, vs5, d5, ds5, p5, q5, rfl, rfl, rfl, h5, r5⟩ := trodAll_cons r4
  obtain ⟨rfl, rfl, rfl⟩ := trodAll_nil r5
  obtain rfl : args = #[v0, v1, v2, v3, v4, v5] := by cases args; simp_all
  obtain ⟨rfl, rfl⟩ := trodVars_none hV
  have k0 := h0
  have lt0 : ∀ x ∈ p0, x.block < W.heap.size := by obtain ⟨m, hm⟩ := k0; exact DataW.trod_lt m _ _ _ hm
  obtain ⟨a0, rfl, e0, f0, w0⟩ := open_int Try.underlying3 (hval 0 3 v0 rfl rfl) h0
  have k1 := h1
  have lt1 : ∀ x ∈ p1, x.block < W.heap.size := by obtain ⟨m, hm⟩ := k1; exact DataW.trod_lt m _ _ _ hm
  obtain ⟨A1, len1, cap1, rfl⟩ := okWide_slice Try.underlying49 (hval 1 49 v1 rfl rfl)
  obtain ⟨l1, rfl, cm1, rd1, m1⟩ := open_plain (d := 9) (ks := callK19) Try.underlying49 call19_kinds (by kernel_rfl) h1
  have k2 := h2
  have lt2 : ∀ x ∈ p2, x.block < W.heap.size := by obtain ⟨m, hm⟩ := k2; exact DataW.trod_lt m _ _ _ hm
  obtain ⟨c2, rfl, cz2⟩ := okWide_struct Try.underlying59 (hval 2 59 v2 rfl rfl)
  have m2 : fitAll opK c2.toList := by obtain ⟨m, hm⟩ := h2; exact (fitOk Try.prog 9 _ _ op_kinds enc W _ _ _ m _ _ hm).1
  have k3 := h3
  have lt3 : ∀ x ∈ p3, x.block < W.heap.size := by obtain ⟨m, hm⟩ := k3; exact DataW.trod_lt m _ _ _ hm
  obtain ⟨a3, rfl, e3, f3, w3⟩ := open_int Try.underlying3 (hval 3 3 v3 rfl rfl) h3
  have k4 := h4
  have lt4 : ∀ x ∈ p4, x.block < W.heap.size := by obtain ⟨m, hm⟩ := k4; exact DataW.trod_lt m _ _ _ hm
  obtain ⟨a4, rfl, e4, f4, w4⟩ := open_int Try.underlying3 (hval 4 3 v4 rfl rfl) h4
  have k5 := h5
  have lt5 : ∀ x ∈ p5, x.block < W.heap.size := by obtain ⟨m, hm⟩ := k5; exact DataW.trod_lt m _ _ _ hm
  obtain ⟨a5, rfl, e5, f5, w5⟩ := open_int Try.underlying57 (hval 5 57 v5 rfl rfl) h5
  clear hA0 hval0
  refine (tells_row (n0 := a0) rd1 m1 m2 w3 w4 w5).mono fun e W' ⟨he, hs⟩ => ?_
  subst he
  have bel := hs.belowOld 0 rfl
  exact ⟨_, rfl, _, _, _, [], _, [], hW', trodAll_mk1 (shut_bool Try.underlying4 _), (trodAll_cons_mk (Below.trod traceTells_laidOut (by kernel_rfl) (of_decide_eq_true (by kernel_rfl)) k0 bel lt0) (trodAll_cons_mk (Below.trod traceTells_laidOut (by kernel_rfl) (of_decide_eq_true (by kernel_rfl)) k1 bel lt1) (trodAll_cons_mk (Below.trod traceTells_laidOut (by kernel_rfl) (of_decide_eq_true (by kernel_rfl)) k2 bel lt2) (trodAll_cons_mk (Below.trod traceTells_laidOut (by kernel_rfl) (of_decide_eq_true (by kernel_rfl)) k3 bel lt3) (trodAll_cons_mk (Below.trod traceTells_laidOut (by kernel_rfl) (of_decide_eq_true (by kernel_rfl)) k4 bel lt4) (trodAll_cons_mk (Below.trod traceTells_laidOut (by kernel_rfl) (of_decide_eq_true (by kernel_rfl)) k5 bel lt5) trodAll_mk0)))))), rfl, bel.frame _, fun h => by cases h⟩

theorem traceTells_over : Rows.traceTellsRow.holds Try.pinned (OpenSpec.ofChange Rows.traceTellsSpec) :=
  OpenClaim.holds_of_wide 8 Try.f8 rfl rfl rfl rfl rfl rfl rfl ⟨rfl, rfl, rfl, rfl, rfl⟩ rfl rfl rfl rfl rfl (by kernel_rfl) Try.func8 (by kernel_rfl)
    (of_decide_eq_true (by kernel_rfl)) (by unfold Func.isWrapper; first | (rw [if_pos (by decide +kernel)]; kernel_rfl) | (rw [if_neg (by decide +kernel)]; exact ⟨rfl, rfl⟩))
    (fun os started H enc _ => traceTells_lifted os started H enc)

theorem traceTells_holds : Rows.TraceTellsSaid := traceTells_over
#print axioms traceTells_holds
end Go.Proofs.Ytbkfhieadnfndaa
