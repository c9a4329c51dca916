/- Two acts that are one: bastionref21.SameTamper, Same. Conditions: none. -/
import Derived.Test.YtklhmlplabkoeaaByt
import Derived.Test.YtklhmlplabkoeaaTmv
import Derived.Test.YtklhmlplabkoeaaCmp
import Derived.Test.YtklhmlplabkoeaaProg
import Derived.Test.YtklhmlplabkoeaaRows
import Derived.Deep.Cut
set_option linter.unusedVariables false
set_option linter.unusedSimpArgs false
namespace Go.Proofs.Ytklhmlplabkoeaa
open Go.RowKit Go.Bst Go.MapKept Go.Proofs.YtklhmlplabkoeaaW.PrintLast
attribute [local irreducible] rd tb wpList Calls Code.wp Code.wpN Oper.wp Go.Proofs.YtklhmlplabkoeaaW.PrintLast.wpAnyLast
section
variable {E : Env} {w : World} {F : List HP}
set_option maxRecDepth 100000 in
set_option maxHeartbeats 4000000 in
theorem ref_SameTamper {x : Tmv} {l : List UInt8} {u v : Value} (hw : Sat E w F) (hu : ∀ w', Sat E w' F → Rd w' 1 u l.length (ybs l)) (hv : ∀ w', Sat E w' F → Rd w' 1 v l.length (ybs l)) (hl : l.length ≤ 1000000) :
    Calls Try.prog 13 #[.agg (x.cs u), .agg (x.cs v)] w fun e w' => e = .returned (.bool true) ∧ Sat E w' F := by
  have HU := Kp.mk hu
  have HV := Kp.mk hv
  clear hu hv
  have hll := Kp.mk (show (l == l) = true by simp)
  go_enter Try.func13, Try.ntmps13
  go_wp2_with (first
    | (refine wl_box (H := F) hw _ (by simp only [Act.eval, Act.put, List.setIfInBounds_toArray, List.set_cons_succ, List.set_cons_zero, gd_s, gd_0, Value.cells]; exact rfl) ?_; clear hw; intro b1 w hw; (try simp only [List.set_cons_succ, List.set_cons_zero, List.setIfInBounds_toArray, Value.cells, List.eraseIdx_cons_succ, List.eraseIdx_cons_zero] at hw))
    | (refine wl_box hw _ (by simp only [Act.eval, Act.put, List.setIfInBounds_toArray, List.set_cons_succ, List.set_cons_zero, gd_s, gd_0, Value.cells]; exact rfl) ?_; clear hw; intro b2 w hw; (try simp only [List.set_cons_succ, List.set_cons_zero, List.setIfInBounds_toArray, Value.cells, List.eraseIdx_cons_succ, List.eraseIdx_cons_zero] at hw))
    | (refine wl_load1 hw rfl 1 rfl (by decide +kernel) (by first | exact Tmv.c0 _ _ | exact Tmv.c1 _ _ | exact Tmv.c2 _ _ | exact Tmv.c3 _ _ | exact Tmv.c4 _ _) ?_)
    | (refine wl_load1 hw rfl 0 rfl (by decide +kernel) (by first | exact Tmv.c0 _ _ | exact Tmv.c1 _ _ | exact Tmv.c2 _ _ | exact Tmv.c3 _ _ | exact Tmv.c4 _ _) ?_)
    | (refine wl_want (by rfl) (fun K hK => ?_); refine wk_load1 hw rfl 1 rfl (by decide +kernel) (by first | exact Tmv.c0 _ _ | exact Tmv.c1 _ _ | exact Tmv.c2 _ _ | exact Tmv.c3 _ _ | exact Tmv.c4 _ _) ?_; refine hK _ _ ?_; clear hK K)
    | (refine wl_want (by rfl) (fun K hK => ?_); refine wk_load1 hw rfl 0 rfl (by decide +kernel) (by first | exact Tmv.c0 _ _ | exact Tmv.c1 _ _ | exact Tmv.c2 _ _ | exact Tmv.c3 _ _ | exact Tmv.c4 _ _) ?_; refine hK _ _ ?_; clear hK K)
    | (refine wl_want (by rfl) (fun K hK => ?_); refine wk_call 33 rfl (by kernel_rfl) ?_; simp only [List.map_toArray, List.map_cons, List.map_nil, Act.eval, gd_s, gd_0]; go_must (refine (Calls.mono (ref_Same (l := l) (m := l) hw (fun w' hs => HU.out w' hs.tail.tail) (fun w' hs => HV.out w' hs.tail.tail) hl) ?_)); clear hw; rintro e w ⟨rfl, hw⟩; rw [hll.out]; (try simp only [List.set_cons_succ, List.set_cons_zero, List.setIfInBounds_toArray, Value.cells, List.eraseIdx_cons_succ, List.eraseIdx_cons_zero] at hw); refine ⟨_, rfl, ?_⟩; refine hK _ _ ?_; clear hK K))
  go_ret
  exact ⟨rfl, hw.tail.tail⟩
end
end Go.Proofs.Ytklhmlplabkoeaa
