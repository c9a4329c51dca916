/- package probe's example: the law's speaks. Conditions: none. -/
import Derived.Test.YtklhmlplabkoeaaPrbA
import Derived.Test.YtklhmlplabkoeaaPlF
set_option linter.unusedVariables false
set_option linter.unusedSimpArgs false
namespace Go.Proofs.Ytklhmlplabkoeaa
open Go.RowKit Go.Bst Go.MapKept Go.Proofs.YtklhmlplabkoeaaW.PrintLast
theorem plan_build0 : buildC Try.prog 28 [] = some Pl.zero.cs := by rw [Pl.zero_cs]; kernel_rfl
theorem Pl.zero_ok : Pl.zero.Ok := by
  have z : i64B 0 := by unfold i64B; decide
  exact ⟨z, z, z, z, z, z, by decide, z, z, z, z, z, z, z⟩
theorem Plo.b0_3 (a0 : Int) (a3 : Int) : buildC Try.prog 51 [(0, #[.int .i64 a0]), (3, #[.int .i64 a3])] = some (({ Plo.zero with kind := a0, bit := a3 } : Plo).cs) := by unfold Plo.cs; kernel_rfl
theorem plotF_ex : plotF (fitP Pl.zero) ⟨1, 0, 0, 9⟩ = ([⟨2, 9, 0, 0⟩], 0) := by
  have h := rightB_fit Pl.zero
  have h1 := allI_in h
  have hl : lineB (fitP Pl.zero) 0 = true := by unfold lineB; rw [h]; simp; omega
  unfold plotF
  rw [if_neg (by rw [h]; decide), if_pos rfl]
  unfold partB partA
  simp only [if_true, true_or, hl]
  rfl
theorem row_gb {E : Env} {w : World} {H : List HP} {e : TypeId} {sz n c : Nat} {A : Option Addr} {xs : List Value} (s : Sat E w H) (k : Nat) (hk : H[k]? = some (Row e sz (.slice A n c) n xs)) (h : 0 < n) : ∃ gb, A = some ⟨gb, 0, none⟩ := by
  obtain ⟨B, cap, e, _, h2⟩ := Row_val s k hk
  injection e with e1 e2 e3
  subst e1
  exact h2 h
section
variable {E : Env} {w : World} {F : List HP} {p : Pl} {x : Plo}
theorem prb_same {t : Tmv} (hw : Sat E w F) : Calls Try.prog 13 #[.agg (tmN t), .agg (tmN t)] w fun e w' => e = .returned (.bool true) ∧ Sat E w' F :=
  ref_SameTamper (l := []) hw (fun w' _ => Rd.nil _ _) (fun w' _ => Rd.nil _ _) (by decide)
attribute [local irreducible] tmN wI partA partB flipL flipC plotF wpList Calls Code.wp Code.wpN Oper.wp Go.Proofs.YtklhmlplabkoeaaW.PrintLast.wpAnyLast
set_option maxRecDepth 100000 in
set_option maxHeartbeats 4000000 in
theorem law26_speaks (hw : Sat E w F) : Calls Try.prog 10 #[] w fun e w' => e = .returned (.bool true) ∧ Sat E w' F := by
  have z : i64B 0 := by unfold i64B; decide
  have hx : Plo.Ok ⟨1, 0, 0, 9⟩ := ⟨by unfold i64B; decide, z, z, by unfold i64B; decide⟩
  have e := Kp.mk plotF_ex
  have hc0 := Kp.mk (show (flat ([Tmv.mk 2 9 0 0].map tmN))[0]? = some (.int .i64 2) from rowN_cells (f := tmN) (k := 0) tmN_size rfl 0 _ (by unfold tmN; simpa using Tmv.c0 _ _))
  have hc1 := Kp.mk (show (flat ([Tmv.mk 2 9 0 0].map tmN))[1]? = some (.int .i64 9) from rowN_cells (f := tmN) (k := 0) tmN_size rfl 1 _ (by unfold tmN; simpa using Tmv.c1 _ _))
  go_enter Try.func10, Try.ntmps10
  go_upto_region 2 with (first
    | (refine wl_run (rn_build (cp := []) _ rfl rfl plan_build0) ?_)
    | (go_at_call 16; go_must (refine (Calls.mono (ref_Fit (p := Pl.zero) hw Pl.zero_ok) ?_)); clear hw; rintro e w ⟨rfl, hw⟩; (try simp only [List.set_cons_succ, List.set_cons_zero, List.setIfInBounds_toArray, Value.cells, List.eraseIdx_cons_succ, List.eraseIdx_cons_zero] at hw))
    | (go_at_call 11; go_must (refine (Calls.mono (prb_Acts (p := fitP Pl.zero) (x := ⟨1, 0, 0, 9⟩) hw hx) ?_)); clear hw; rintro e w ⟨A, c, rfl, hw⟩; rw [e.out] at hw ⊢; dsimp only at hw; (try simp only [List.set_cons_succ, List.set_cons_zero, List.setIfInBounds_toArray, Value.cells, List.eraseIdx_cons_succ, List.eraseIdx_cons_zero] at hw))
    | (refine wl_run (d := some 4) (rn_build _ rfl (by simp only [List.map_cons, List.map_nil, Act.eval, Act.put, List.setIfInBounds_toArray, List.set_cons_succ, List.set_cons_zero, gd_s, gd_0, U_cells, Y_cells, Value.cells]; exact rfl) (by exact Pl.b ..)) ?_) | (refine wl_run (d := some 6) (rn_build _ rfl (by simp only [List.map_cons, List.map_nil, Act.eval, Act.put, List.setIfInBounds_toArray, List.set_cons_succ, List.set_cons_zero, gd_s, gd_0, U_cells, Y_cells, Value.cells]; exact rfl) (by exact Plo.b0_3 ..)) ?_))
  obtain ⟨gb, rfl⟩ := row_gb (n := 1) hw 0 rfl (by decide)
  go_wp2_with (first
    | (refine wg_run (by rfl) (rn_rowIdx rfl hw 0 rfl rfl 0 0 rfl rfl (by kernel_rfl) (by kernel_rfl) (by decide)) ?_)
    | (refine wg_run (d := some 21) (by rfl) (rn_rowLd1 rfl hw 0 rfl rfl (by decide +kernel) _ hc0.out) ?_)
    | (refine wg_run (d := some 28) (by rfl) (rn_rowLd1 rfl hw 0 rfl rfl (by decide +kernel) _ hc1.out) ?_)
    | (refine wl_run (d := some 11) (rn_ceql rfl (by exact rfl) (by exact rfl) true (decide_eq_true (by omega))) ?_) | (refine wl_run (d := some 11) (rn_ceql rfl (by exact rfl) (by exact rfl) false (decide_eq_false (by omega))) ?_) | (refine wg_run (d := some 15) (by rfl) (rn_ceql rfl (by exact rfl) (by exact rfl) true (decide_eq_true (by omega))) ?_) | (refine wg_run (d := some 15) (by rfl) (rn_ceql rfl (by exact rfl) (by exact rfl) false (decide_eq_false (by omega))) ?_) | (refine wg_run (d := some 22) (by rfl) (rn_ceql rfl (by exact rfl) (by exact rfl) true (decide_eq_true (by omega))) ?_) | (refine wg_run (d := some 22) (by rfl) (rn_ceql rfl (by exact rfl) (by exact rfl) false (decide_eq_false (by omega))) ?_) | (refine wg_run (d := some 29) (by rfl) (rn_ceql rfl (by exact rfl) (by exact rfl) true (decide_eq_true (by omega))) ?_) | (refine wg_run (d := some 29) (by rfl) (rn_ceql rfl (by exact rfl) (by exact rfl) false (decide_eq_false (by omega))) ?_))
  go_ret
  exact ⟨rfl, (Sat.gets hw (by repeat (first | exact Gets.nil | exact Gets.refl _ | refine Gets.get 0 rfl ?_ | refine Gets.get 1 rfl ?_ | refine Gets.get 2 rfl ?_ | refine Gets.get 3 rfl ?_ | refine Gets.get 4 rfl ?_ | refine Gets.get 5 rfl ?_ | refine Gets.drop ?_)))⟩
end
end Go.Proofs.Ytklhmlplabkoeaa
