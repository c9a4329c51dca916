/- The document's plots: bastionref26.part, Acts. Conditions: none. -/
import Derived.Test.YtklhmlplabkoeaaPrbP
set_option linter.unusedVariables false
set_option linter.unusedSimpArgs false
namespace Go.Proofs.Ytklhmlplabkoeaa
open Go.RowKit Go.Bst Go.MapKept Go.Proofs.YtklhmlplabkoeaaW.PrintLast
section
variable {E : Env} {w : World} {F : List HP} {p : Pl}
theorem rn_wsub {o : Oper} {a : Act} {x y : Operand} {t yt : TypeId} {q r : Int} (ho : o.op = .binOp .sub t x y yt) (hx : a.eval x = .int .i64 q) (hy : a.eval y = .int .i64 r) : (execOp a.eval o).run Try.prog w = .ok (.value (.int .i64 (wI (q - r)))) w := by
  have e : (binOp .sub t (Value.int .i64 q) (Value.int .i64 r)).run Try.prog w = .ok (.int .i64 (wI (q - r))) w := by
    unfold binOp wI
    simp [Op.intArith]
  have e3 : (eqGuard .sub t x y (Value.int .i64 q) (Value.int .i64 r)).run Try.prog w = .ok () w := by simp [eqGuard]
  unfold execOp
  simp only [ho, hx, hy, Sem.run_bind, e3, Result.andThen_ok, e, Sem.run_pure]
attribute [local irreducible] tmN wI wpList Calls Code.wp Code.wpN Oper.wp Go.Proofs.YtklhmlplabkoeaaW.PrintLast.wpAnyLast
set_option maxRecDepth 100000 in
set_option maxHeartbeats 4000000 in
theorem ref_part {k n : Int} (hw : Sat E w F) (hp : p.Ok) (hrt : rightB p = true) (hk : k = 1 ∨ k = 2 ∨ k = 3) (hn : i64B n) : Calls Try.prog 32 #[.agg p.cs, .int .i64 k, .int .i64 n] w fun e w' => e = .returned (.tuple #[.int .i64 (partA p k n), .bool (partB p k n)]) ∧ Sat E w' F := by
  have hfact := Kp.mk (part_fact hrt hk hn)
  have hA0 := Kp.mk (show partB p k n = false → partA p k n = 0 by
    intro h
    unfold partB at h
    unfold partA
    rcases hk with rfl | rfl | rfl <;> simp at h ⊢ <;> simp [h])
  have hlong := parts_len hrt
  obtain ⟨ps, hps⟩ : ∃ ps, Kp (partsL p = ps) := ⟨_, Kp.mk rfl⟩
  obtain ⟨M, hM⟩ : ∃ M, Kp (ps.length = M) := ⟨_, Kp.mk rfl⟩
  obtain ⟨xs, hxs⟩ : ∃ xs, Kp (flat (ps.map Prt.cs) = xs) := ⟨_, Kp.mk rfl⟩
  rw [hps.out] at hfact hlong
  rw [hM.out] at hlong
  have HN := Kp.mk hn
  clear hn
  go_enter Try.func32, Try.ntmps32
  go_wp2_with (first
    | (go_at_call 38; go_must (refine (Calls.mono (ref_Parts (p := p) hw hp) ?_)); clear hw; rintro e w ⟨A, c, rfl, hw⟩; (try simp only [List.set_cons_succ, List.set_cons_zero, List.setIfInBounds_toArray, Value.cells, List.eraseIdx_cons_succ, List.eraseIdx_cons_zero] at hw))
    | (refine wl_box (d := some 3) hw _ (by simp only [Act.eval, Act.put, List.setIfInBounds_toArray, List.set_cons_succ, List.set_cons_zero, gd_s, gd_0, Value.cells]; exact rfl) ?_; clear hw; intro b3 w hw; (try simp only [List.set_cons_succ, List.set_cons_zero, List.setIfInBounds_toArray, Value.cells, List.eraseIdx_cons_succ, List.eraseIdx_cons_zero] at hw)) | (refine wb_loadA (d := some 10)  rfl (by first | exact hw.read 0 rfl | exact hw.read 1 rfl | exact hw.read 2 rfl | exact hw.read 3 rfl | exact hw.read 4 rfl | exact hw.read 5 rfl | exact hw.read 6 rfl | exact hw.read 7 rfl | exact hw.read 8 rfl) (by rw [plan_agg, Pl.size]) ?_))
  rw [hps.out, hM.out, show RowN 100 7 (.slice A M c) M Prt.cs ps = Row 100 7 (.slice A M c) M xs by unfold RowN; rw [hxs.out]] at hw
  rw [hps.out, hM.out]
  go_loopw [2, 9] (fun q i wr => ∃ (j : Nat) (m : Int), j ≤ M ∧ i = .int .i64 j ∧ q = .int .i64 m ∧ Kp (i64B m) ∧ Kp (partR k (ps.drop j) m = partR k ps n) ∧ Sat E wr (Row 100 7 (.slice A M c) M xs :: pt b3 (.cells p.cs 28 (0, 0)) :: F)) (fun _ i _ => M - (intOf i).toNat)
  case atStart => exact ⟨0, n, by omega, rfl, rfl, HN, Kp.mk rfl, hw⟩
  case round =>
    clear hw
    obtain ⟨j, m, hj, rfl, rfl, hm, hR, hw⟩ := hrel
    by_cases hlt : j < M
    · obtain ⟨gb, hgb⟩ : ∃ gb, A = some ⟨gb, 0, none⟩ := by
        obtain ⟨B, cap, e, _, h⟩ := Row_val hw 0 rfl
        injection e with e1 e2 e3
        subst e1
        exact h (by omega)
      subst hgb
      obtain ⟨x, hx⟩ : ∃ x, ps[j]? = some x := ⟨_, List.getElem?_eq_getElem (by rw [hM.out]; exact hlt)⟩
      have hc := rowN_cells (f := Prt.cs) Prt.size hx
      rw [hxs.out] at hc
      have hc0 := Kp.mk (show xs[j * 7]? = some (.int .i64 x.kind) from hc 0 _ (prt_c (Prt.c0 _)))
      have hc5 := Kp.mk (hc 5 _ (prt_c (Prt.c5 _)))
      have hdrop : ps.drop j = x :: ps.drop (j + 1) := by
        obtain ⟨hl, e⟩ := List.getElem?_eq_some_iff.1 hx
        rw [List.drop_eq_getElem_cons hl, e]
      have hR' : (if x.kind = k then (if m = 0 then some x.at_ else partR k (ps.drop (j + 1)) (wI (m - 1))) else partR k (ps.drop (j + 1)) m) = partR k ps n := by
        have h := hR.out
        rw [hdrop] at h
        exact h
      clear hx hc hdrop hR
      by_cases hxk : x.kind = k
      · rw [if_pos hxk] at hR'
        by_cases hm0 : m = 0
        · rw [if_pos hm0] at hR'
          have h1 := hfact.out
          rw [← hR'] at h1
          have hB := Kp.mk (show partB p k n = true by
            cases hb : partB p k n with
            | true => rfl
            | false => rw [hb] at h1; simp at h1)
          have hA := Kp.mk (show x.at_ = partA p k n by rw [hB.out, if_pos rfl] at h1; exact Option.some.inj h1)
          clear h1 hR'
          go_wp2_with (first
            | (refine wl_run (rn_rowIdx rfl hw 0 rfl rfl j (j * 7) rfl rfl (by kernel_rfl) (by kernel_rfl) (by omega)) ?_)
            | (refine wl_run (d := some 23) (rn_rowLd1 rfl hw 0 rfl rfl (by decide +kernel) _ hc0.out) ?_)
            | (refine wl_run (d := some 32) (rn_rowLd1 rfl hw 0 rfl rfl (by decide +kernel) _ hc5.out) ?_)
            | (refine wl_run (d := some 15) (rn_clss rfl (by exact rfl) (by exact rfl) true (decide_eq_true (by omega))) ?_) | (refine wl_run (d := some 15) (rn_clss rfl (by exact rfl) (by exact rfl) false (decide_eq_false (by omega))) ?_) | (refine wl_run (d := some 17) (rn_cadd rfl (by exact rfl) (by exact rfl) _ rfl (by omega)) ?_) | (refine wl_run (d := some 25) (rn_ceql rfl (by exact rfl) (by exact rfl) true (decide_eq_true (by omega))) ?_) | (refine wl_run (d := some 25) (rn_ceql rfl (by exact rfl) (by exact rfl) false (decide_eq_false (by omega))) ?_) | (refine wl_run (d := some 27) (rn_ceql rfl (by exact rfl) (by exact rfl) true (decide_eq_true (by omega))) ?_) | (refine wl_run (d := some 27) (rn_ceql rfl (by exact rfl) (by exact rfl) false (decide_eq_false (by omega))) ?_))
          (refine ret_tmp2 rfl _ _ rfl rfl rfl ?_)
          exact ⟨by rw [hB.out, ← hA.out]; rfl, (Sat.gets hw (by repeat (first | exact Gets.nil | exact Gets.refl _ | refine Gets.get 0 rfl ?_ | refine Gets.get 1 rfl ?_ | refine Gets.get 2 rfl ?_ | refine Gets.get 3 rfl ?_ | refine Gets.get 4 rfl ?_ | refine Gets.get 5 rfl ?_ | refine Gets.get 6 rfl ?_ | refine Gets.get 7 rfl ?_ | refine Gets.get 8 rfl ?_ | refine Gets.get 9 rfl ?_ | refine Gets.drop ?_)))⟩
        · rw [if_neg hm0] at hR'
          have HR := Kp.mk hR'
          clear hR'
          go_wp2_with (first
            | (refine wl_run (rn_rowIdx rfl hw 0 rfl rfl j (j * 7) rfl rfl (by kernel_rfl) (by kernel_rfl) (by omega)) ?_)
            | (refine wl_run (d := some 23) (rn_rowLd1 rfl hw 0 rfl rfl (by decide +kernel) _ hc0.out) ?_)
            | (refine wl_run (d := some 34) (rn_wsub rfl (by exact rfl) (by exact rfl)) ?_)
            | (refine wl_run (d := some 15) (rn_clss rfl (by exact rfl) (by exact rfl) true (decide_eq_true (by omega))) ?_) | (refine wl_run (d := some 15) (rn_clss rfl (by exact rfl) (by exact rfl) false (decide_eq_false (by omega))) ?_) | (refine wl_run (d := some 17) (rn_cadd rfl (by exact rfl) (by exact rfl) _ rfl (by omega)) ?_) | (refine wl_run (d := some 25) (rn_ceql rfl (by exact rfl) (by exact rfl) true (decide_eq_true (by omega))) ?_) | (refine wl_run (d := some 25) (rn_ceql rfl (by exact rfl) (by exact rfl) false (decide_eq_false (by omega))) ?_) | (refine wl_run (d := some 27) (rn_ceql rfl (by exact rfl) (by exact rfl) true (decide_eq_true (by omega))) ?_) | (refine wl_run (d := some 27) (rn_ceql rfl (by exact rfl) (by exact rfl) false (decide_eq_false (by omega))) ?_) | (refine wl_run (d := some 34) (rn_csub rfl (by exact rfl) (by exact rfl) _ rfl (by omega)) ?_))
          go_roundw
          case rel => exact ⟨j + 1, _, by omega, by go_num, rfl, Kp.mk (wI_ok _), HR, hw⟩
          case measure => simp [intOf]; omega
      · rw [if_neg hxk] at hR'
        have HR := Kp.mk hR'
        clear hR'
        go_wp2_with (first
          | (refine wl_run (rn_rowIdx rfl hw 0 rfl rfl j (j * 7) rfl rfl (by kernel_rfl) (by kernel_rfl) (by omega)) ?_)
          | (refine wl_run (d := some 23) (rn_rowLd1 rfl hw 0 rfl rfl (by decide +kernel) _ hc0.out) ?_)
          | (refine wl_run (d := some 15) (rn_clss rfl (by exact rfl) (by exact rfl) true (decide_eq_true (by omega))) ?_) | (refine wl_run (d := some 15) (rn_clss rfl (by exact rfl) (by exact rfl) false (decide_eq_false (by omega))) ?_) | (refine wl_run (d := some 17) (rn_cadd rfl (by exact rfl) (by exact rfl) _ rfl (by omega)) ?_) | (refine wl_run (d := some 25) (rn_ceql rfl (by exact rfl) (by exact rfl) true (decide_eq_true (by omega))) ?_) | (refine wl_run (d := some 25) (rn_ceql rfl (by exact rfl) (by exact rfl) false (decide_eq_false (by omega))) ?_) | (refine wl_run (d := some 27) (rn_ceql rfl (by exact rfl) (by exact rfl) true (decide_eq_true (by omega))) ?_) | (refine wl_run (d := some 27) (rn_ceql rfl (by exact rfl) (by exact rfl) false (decide_eq_false (by omega))) ?_) | (refine wl_run (d := some 34) (rn_csub rfl (by exact rfl) (by exact rfl) _ rfl (by omega)) ?_))
        go_roundw
        case rel => exact ⟨j + 1, _, by omega, by go_num, rfl, hm, HR, hw⟩
        case measure => simp [intOf]; omega
    · obtain rfl : M = j := by omega
      have h1 := hR.out
      rw [List.drop_of_length_le (by rw [hM.out]; exact Nat.le_refl _)] at h1
      have h2 := hfact.out
      rw [← h1] at h2
      have hB := Kp.mk (show partB p k n = false by
        cases hb : partB p k n with
        | false => rfl
        | true => rw [hb] at h2; simp [partR] at h2)
      clear h1 h2
      go_wp2_with (first | (refine wl_run (d := some 15) (rn_clss rfl (by exact rfl) (by exact rfl) true (decide_eq_true (by omega))) ?_) | (refine wl_run (d := some 15) (rn_clss rfl (by exact rfl) (by exact rfl) false (decide_eq_false (by omega))) ?_))
      (refine ret_tmp2 rfl _ _ rfl rfl rfl ?_)
      exact ⟨by rw [hA0.out hB.out, hB.out]; rfl, (Sat.gets hw (by repeat (first | exact Gets.nil | exact Gets.refl _ | refine Gets.get 0 rfl ?_ | refine Gets.get 1 rfl ?_ | refine Gets.get 2 rfl ?_ | refine Gets.get 3 rfl ?_ | refine Gets.get 4 rfl ?_ | refine Gets.get 5 rfl ?_ | refine Gets.get 6 rfl ?_ | refine Gets.get 7 rfl ?_ | refine Gets.get 8 rfl ?_ | refine Gets.get 9 rfl ?_ | refine Gets.drop ?_)))⟩
end
end Go.Proofs.Ytklhmlplabkoeaa
