/- Contracts of package plan. Conditions: none. -/
import Derived.Test.YtklhmlplabkoeaaPlM
import Derived.Test.YtklhmlplabkoeaaCmp
import Derived.Test.YtklhmlplabkoeaaProg
import Derived.Test.YtklhmlplabkoeaaRows
import Derived.Deep.Cut
set_option linter.unusedVariables false
set_option linter.unusedSimpArgs false
namespace Go.Proofs.Ytklhmlplabkoeaa
open Go.RowKit Go.Bst Go.MapKept Go.Proofs.YtklhmlplabkoeaaW.PrintLast
attribute [local irreducible] wpList Calls Code.wp Code.wpN Oper.wp Go.Proofs.YtklhmlplabkoeaaW.PrintLast.wpAnyLast
section
variable {E : Env} {w : World} {F : List HP} {p : Pl}
theorem span_build (a b : Int) : buildC Try.prog 111 [(0, #[.int .i64 a]), (1, #[.int .i64 b])] = some #[.int .i64 a, .int .i64 b] := by kernel_rfl
theorem int_info : (Try.prog.info? 3).map (fun i => (i.zero, i.size, i.bytes)) = some (some (.int .i64 0), 1, 8) := by kernel_rfl
theorem ints_one1 {x : Int} : ∀ u ∈ [Value.int .i64 x], u.oneCell' = true := by
  intro u hu
  simp only [List.mem_singleton] at hu
  subst hu; rfl
theorem span_agg : aggSize Try.prog 111 = some 2 := by kernel_rfl
set_option maxRecDepth 100000 in
theorem pl_has {lo hi n : Int} (hw : Sat E w F) : Calls Try.prog 51 #[.agg #[.int .i64 lo, .int .i64 hi], .int .i64 n] w fun e w' => e = .returned (.bool (inB lo hi n)) ∧ Sat E w' F := by
  by_cases h1 : lo ≤ n
  · by_cases h2 : n ≤ hi
    · have e := Kp.mk (inB_iff.2 ⟨h1, h2⟩)
      go_enter Try.func51, Try.ntmps51
      go_wp2_with (first | (refine wl_box hw _ (by simp only [Act.eval, Act.put, List.setIfInBounds_toArray, List.set_cons_succ, List.set_cons_zero, gd_s, gd_0, Value.cells]; exact rfl) ?_; clear hw; intro b w hw; (try simp only [List.set_cons_succ, List.set_cons_zero, List.setIfInBounds_toArray, Value.cells, List.eraseIdx_cons_succ, List.eraseIdx_cons_zero] at hw)) | (refine wl_load1 hw rfl 0 rfl (by decide +kernel) (by simp only [List.getElem?_toArray, List.getElem?_cons_succ, List.getElem?_cons_zero]; exact rfl) ?_) | (refine wl_want (by rfl) (fun K hK => ?_); refine wk_load1 hw rfl 0 rfl (by decide +kernel) (by simp only [List.getElem?_toArray, List.getElem?_cons_succ, List.getElem?_cons_zero]; exact rfl) ?_; refine hK _ _ ?_; clear hK K))
      go_ret
      exact ⟨by rw [e.out]; rfl, hw.tail⟩
    · have e := Kp.mk (show inB lo hi n = false from Bool.eq_false_iff.2 fun e => h2 (inB_iff.1 e).2)
      go_enter Try.func51, Try.ntmps51
      go_wp2_with (first | (refine wl_box hw _ (by simp only [Act.eval, Act.put, List.setIfInBounds_toArray, List.set_cons_succ, List.set_cons_zero, gd_s, gd_0, Value.cells]; exact rfl) ?_; clear hw; intro b w hw; (try simp only [List.set_cons_succ, List.set_cons_zero, List.setIfInBounds_toArray, Value.cells, List.eraseIdx_cons_succ, List.eraseIdx_cons_zero] at hw)) | (refine wl_load1 hw rfl 0 rfl (by decide +kernel) (by simp only [List.getElem?_toArray, List.getElem?_cons_succ, List.getElem?_cons_zero]; exact rfl) ?_) | (refine wl_want (by rfl) (fun K hK => ?_); refine wk_load1 hw rfl 0 rfl (by decide +kernel) (by simp only [List.getElem?_toArray, List.getElem?_cons_succ, List.getElem?_cons_zero]; exact rfl) ?_; refine hK _ _ ?_; clear hK K))
      go_ret
      exact ⟨by rw [e.out]; rfl, hw.tail⟩
  · have e := Kp.mk (show inB lo hi n = false from Bool.eq_false_iff.2 fun e => h1 (inB_iff.1 e).1)
    go_enter Try.func51, Try.ntmps51
    go_wp2_with (first | (refine wl_box hw _ (by simp only [Act.eval, Act.put, List.setIfInBounds_toArray, List.set_cons_succ, List.set_cons_zero, gd_s, gd_0, Value.cells]; exact rfl) ?_; clear hw; intro b w hw; (try simp only [List.set_cons_succ, List.set_cons_zero, List.setIfInBounds_toArray, Value.cells, List.eraseIdx_cons_succ, List.eraseIdx_cons_zero] at hw)) | (refine wl_load1 hw rfl 0 rfl (by decide +kernel) (by simp only [List.getElem?_toArray, List.getElem?_cons_succ, List.getElem?_cons_zero]; exact rfl) ?_) | (refine wl_want (by rfl) (fun K hK => ?_); refine wk_load1 hw rfl 0 rfl (by decide +kernel) (by simp only [List.getElem?_toArray, List.getElem?_cons_succ, List.getElem?_cons_zero]; exact rfl) ?_; refine hK _ _ ?_; clear hK K))
    go_ret
    exact ⟨by rw [e.out]; rfl, hw.tail⟩
set_option maxRecDepth 100000 in
theorem pl_shape (hw : Sat E w F) : Calls Try.prog 50 #[.agg p.cs] w fun e w' => e = .returned (.bool (shB p)) ∧ Sat E w' F := by
  obtain ⟨b1, h1⟩ : ∃ b, Kp (inB 1 4 p.banks = b) := ⟨_, Kp.mk rfl⟩
  obtain ⟨b2, h2⟩ : ∃ b, Kp (inB 1 16 p.pages = b) := ⟨_, Kp.mk rfl⟩
  obtain ⟨b3, h3⟩ : ∃ b, Kp (inB 1 8 p.lines = b) := ⟨_, Kp.mk rfl⟩
  obtain ⟨b4, h4⟩ : ∃ b, Kp (inB 2 4 p.arity = b) := ⟨_, Kp.mk rfl⟩
  have e : Kp (shB p = (b1 && b2 && b3 && b4)) := Kp.mk (by unfold shB; rw [h1.out, h2.out, h3.out, h4.out])
  cases b1 <;> cases b2 <;> cases b3
  all_goals
    go_enter Try.func50, Try.ntmps50
    go_wp2_with (first
      | (refine wl_box hw _ (by simp only [Act.eval, Act.put, List.setIfInBounds_toArray, List.set_cons_succ, List.set_cons_zero, gd_s, gd_0, Value.cells]; exact rfl) ?_; clear hw; intro b w hw; (try simp only [List.set_cons_succ, List.set_cons_zero, List.setIfInBounds_toArray, Value.cells, List.eraseIdx_cons_succ, List.eraseIdx_cons_zero] at hw)) | (refine wl_load1 hw rfl 0 rfl (by decide +kernel) (by first | exact Pl.c0 _ | exact Pl.c1 _ | exact Pl.c2 _ | exact Pl.c3 _ | exact Pl.c4 _ | exact Pl.c5 _ | exact Pl.c6 _ | exact Pl.c7 _ | exact Pl.c8 _ | exact Pl.c9 _ | exact Pl.c10 _ | exact Pl.c11 _ | exact Pl.c12 _ | exact Pl.c13 _) ?_) | (refine wl_want (by rfl) (fun K hK => ?_); refine wk_load1 hw rfl 0 rfl (by decide +kernel) (by first | exact Pl.c0 _ | exact Pl.c1 _ | exact Pl.c2 _ | exact Pl.c3 _ | exact Pl.c4 _ | exact Pl.c5 _ | exact Pl.c6 _ | exact Pl.c7 _ | exact Pl.c8 _ | exact Pl.c9 _ | exact Pl.c10 _ | exact Pl.c11 _ | exact Pl.c12 _ | exact Pl.c13 _) ?_; refine hK _ _ ?_; clear hK K) | (refine wl_run (rn_build _ rfl (by simp only [List.map_cons, List.map_nil, Act.eval, Act.put, List.setIfInBounds_toArray, List.set_cons_succ, List.set_cons_zero, gd_s, gd_0, U_cells, Y_cells, Value.cells]; exact rfl) (span_build _ _)) ?_) | (refine wl_want (by rfl) (fun K hK => ?_); refine wk_run (rn_build _ rfl (by simp only [List.map_cons, List.map_nil, Act.eval, Act.put, List.setIfInBounds_toArray, List.set_cons_succ, List.set_cons_zero, gd_s, gd_0, U_cells, Y_cells, Value.cells]; exact rfl) (span_build _ _)) ?_; refine hK _ _ ?_; clear hK K)
      | (refine wl_want (by rfl) (fun K hK => ?_); refine wk_call 51 rfl (by kernel_rfl) ?_; simp only [List.map_toArray, List.map_cons, List.map_nil, Act.eval, gd_s, gd_0]; go_must (refine (Calls.mono (pl_has hw) ?_)); clear hw; rintro e w ⟨rfl, hw⟩; (first | rw [h1.out] | rw [h2.out] | rw [h3.out] | rw [h4.out]); (try simp only [List.set_cons_succ, List.set_cons_zero, List.setIfInBounds_toArray, Value.cells, List.eraseIdx_cons_succ, List.eraseIdx_cons_zero] at hw); refine ⟨_, rfl, ?_⟩; refine hK _ _ ?_; clear hK K))
    go_ret
    exact ⟨by rw [e.out]; rfl, hw.tail⟩
set_option maxRecDepth 100000 in
theorem pl_side {x y : Int} (hw : Sat E w F) : Calls Try.prog 52 #[.agg #[.int .i64 x, .int .i64 y]] w fun e w' => e = .returned (.bool (inB 1 4 x && inB 1 4 y)) ∧ Sat E w' F := by
  obtain ⟨b1, h1⟩ : ∃ b, Kp (inB 1 4 x = b) := ⟨_, Kp.mk rfl⟩
  rw [h1.out]
  cases b1
  all_goals
    simp only [Bool.false_and, Bool.true_and]
    go_enter Try.func52, Try.ntmps52
    go_wp2_with (first
      | (refine wl_box hw _ (by simp only [Act.eval, Act.put, List.setIfInBounds_toArray, List.set_cons_succ, List.set_cons_zero, gd_s, gd_0, Value.cells]; exact rfl) ?_; clear hw; intro b w hw; (try simp only [List.set_cons_succ, List.set_cons_zero, List.setIfInBounds_toArray, Value.cells, List.eraseIdx_cons_succ, List.eraseIdx_cons_zero] at hw)) | (refine wl_load1 hw rfl 0 rfl (by decide +kernel) (by simp only [List.getElem?_toArray, List.getElem?_cons_succ, List.getElem?_cons_zero]; exact rfl) ?_) | (refine wl_want (by rfl) (fun K hK => ?_); refine wk_load1 hw rfl 0 rfl (by decide +kernel) (by simp only [List.getElem?_toArray, List.getElem?_cons_succ, List.getElem?_cons_zero]; exact rfl) ?_; refine hK _ _ ?_; clear hK K) | (refine wl_run (rn_build _ rfl (by simp only [List.map_cons, List.map_nil, Act.eval, Act.put, List.setIfInBounds_toArray, List.set_cons_succ, List.set_cons_zero, gd_s, gd_0, U_cells, Y_cells, Value.cells]; exact rfl) (span_build _ _)) ?_) | (refine wl_want (by rfl) (fun K hK => ?_); refine wk_run (rn_build _ rfl (by simp only [List.map_cons, List.map_nil, Act.eval, Act.put, List.setIfInBounds_toArray, List.set_cons_succ, List.set_cons_zero, gd_s, gd_0, U_cells, Y_cells, Value.cells]; exact rfl) (span_build _ _)) ?_; refine hK _ _ ?_; clear hK K)
      | (refine wl_want (by rfl) (fun K hK => ?_); refine wk_call 51 rfl (by kernel_rfl) ?_; simp only [List.map_toArray, List.map_cons, List.map_nil, Act.eval, gd_s, gd_0]; go_must (refine (Calls.mono (pl_has hw) ?_)); clear hw; rintro e w ⟨rfl, hw⟩; (first | rw [h1.out] | skip); (try simp only [List.set_cons_succ, List.set_cons_zero, List.setIfInBounds_toArray, Value.cells, List.eraseIdx_cons_succ, List.eraseIdx_cons_zero] at hw); refine ⟨_, rfl, ?_⟩; refine hK _ _ ?_; clear hK K))
    go_ret
    exact ⟨rfl, hw.tail⟩
set_option maxRecDepth 100000 in
theorem pl_all (hw : Sat E w F) : Calls Try.prog 68 #[.agg p.cs] w fun e w' => e = .returned (.int .i64 (allI p)) ∧ Sat E w' F := by
  obtain ⟨s, hs⟩ : ∃ s, Kp (shB p = s) := ⟨_, Kp.mk rfl⟩
  cases s with
  | false =>
    have e := Kp.mk (show allI p = 0 by unfold allI; rw [hs.out]; rfl)
    go_enter Try.func68, Try.ntmps68
    go_wp2_with (first | (refine wl_box hw _ (by simp only [Act.eval, Act.put, List.setIfInBounds_toArray, List.set_cons_succ, List.set_cons_zero, gd_s, gd_0, Value.cells]; exact rfl) ?_; clear hw; intro b w hw; (try simp only [List.set_cons_succ, List.set_cons_zero, List.setIfInBounds_toArray, Value.cells, List.eraseIdx_cons_succ, List.eraseIdx_cons_zero] at hw)) | (refine wl_load_all hw rfl 0 rfl (by rw [plan_agg, Pl.size]) ?_) | (go_at_call 50; go_must (refine (Calls.mono (pl_shape (p := p) hw) ?_)); clear hw; rintro e w ⟨rfl, hw⟩; rw [hs.out]; (try simp only [List.set_cons_succ, List.set_cons_zero, List.setIfInBounds_toArray, Value.cells, List.eraseIdx_cons_succ, List.eraseIdx_cons_zero] at hw)))
    go_ret
    exact ⟨by rw [e.out]; rfl, hw.tail⟩
  | true =>
    have e := Kp.mk (show allI p = p.pages * p.lines by unfold allI; rw [hs.out]; rfl)
    have h2 := shB_iff.1 hs.out
    obtain ⟨m, hm⟩ : ∃ m, m = p.pages * p.lines := ⟨_, rfl⟩
    have a1 : p.pages * 1 ≤ p.pages * p.lines := Int.mul_le_mul_of_nonneg_left h2.2.2.1.1 (by omega)
    have a2 : p.pages * p.lines ≤ p.pages * 8 := Int.mul_le_mul_of_nonneg_left h2.2.2.1.2 (by omega)
    rw [← hm] at a1 a2
    have hm1 : 0 ≤ m ∧ m ≤ 128 := by omega
    have HM := Kp.mk hm
    clear hm a1 a2
    go_enter Try.func68, Try.ntmps68
    go_wp2_with (first | (refine wl_box hw _ (by simp only [Act.eval, Act.put, List.setIfInBounds_toArray, List.set_cons_succ, List.set_cons_zero, gd_s, gd_0, Value.cells]; exact rfl) ?_; clear hw; intro b w hw; (try simp only [List.set_cons_succ, List.set_cons_zero, List.setIfInBounds_toArray, Value.cells, List.eraseIdx_cons_succ, List.eraseIdx_cons_zero] at hw)) | (refine wl_load_all hw rfl 0 rfl (by rw [plan_agg, Pl.size]) ?_) | (refine wl_load1 hw rfl 0 rfl (by decide +kernel) (by first | exact Pl.c0 _ | exact Pl.c1 _ | exact Pl.c2 _ | exact Pl.c3 _ | exact Pl.c4 _ | exact Pl.c5 _ | exact Pl.c6 _ | exact Pl.c7 _ | exact Pl.c8 _ | exact Pl.c9 _ | exact Pl.c10 _ | exact Pl.c11 _ | exact Pl.c12 _ | exact Pl.c13 _) ?_) | (go_at_call 50; go_must (refine (Calls.mono (pl_shape (p := p) hw) ?_)); clear hw; rintro e w ⟨rfl, hw⟩; rw [hs.out]; (try simp only [List.set_cons_succ, List.set_cons_zero, List.setIfInBounds_toArray, Value.cells, List.eraseIdx_cons_succ, List.eraseIdx_cons_zero] at hw)) | (refine wl_run (rn_cmul rfl (by exact rfl) (by exact rfl) m HM.out.symm (by omega)) ?_))
    go_ret
    exact ⟨by rw [e.out, ← HM.out]; rfl, hw.tail⟩
set_option maxRecDepth 100000 in
set_option maxHeartbeats 4000000 in
theorem pl_widths (hw : Sat E w F) (hs : shB p = true) : Calls Try.prog 69 #[.agg p.cs] w fun e w' => ∃ v, e = .returned v ∧ Sat E w' (Row 3 1 v (wsOf p).length ((wsOf p).map fun n : Nat => Value.int .i64 (n : Int)) :: F) := by
  obtain ⟨L, hL⟩ : ∃ L, L = (wsOf p).length := ⟨_, rfl⟩
  have wl := ws_len hs
  have w0 := Kp.mk (wd_zero hs)
  have ar := arity_in hs
  have HS := Kp.mk hs
  rw [← hL] at wl
  have HL := Kp.mk hL
  clear hL hs
  obtain ⟨a, ha⟩ : ∃ a, Kp (p.arity = a) := ⟨_, Kp.mk rfl⟩
  rw [ha.out] at ar
  have AR := Kp.mk (show p.cs[4]? = some (.int .i64 a) by rw [Pl.c4, ha.out])
  go_enter Try.func69, Try.ntmps69
  go_wp2_with (first
    | (refine wl_box hw _ (by simp only [Act.eval, Act.put, List.setIfInBounds_toArray, List.set_cons_succ, List.set_cons_zero, gd_s, gd_0, Value.cells]; exact rfl) ?_; clear hw; intro b w hw; (try simp only [List.set_cons_succ, List.set_cons_zero, List.setIfInBounds_toArray, Value.cells, List.eraseIdx_cons_succ, List.eraseIdx_cons_zero] at hw)) | (refine wl_load_all hw rfl 0 rfl (by rw [plan_agg, Pl.size]) ?_) | (refine wl_load1 hw rfl 0 rfl (by decide +kernel) (by first | exact Pl.c0 _ | exact Pl.c1 _ | exact Pl.c2 _ | exact Pl.c3 _ | exact Pl.c4 _ | exact Pl.c5 _ | exact Pl.c6 _ | exact Pl.c7 _ | exact Pl.c8 _ | exact Pl.c9 _ | exact Pl.c10 _ | exact Pl.c11 _ | exact Pl.c12 _ | exact Pl.c13 _) ?_) | (go_at_call 50; go_must (refine (Calls.mono (pl_shape (p := p) hw) ?_)); clear hw; rintro e w ⟨rfl, hw⟩; rw [HS.out]; (try simp only [List.set_cons_succ, List.set_cons_zero, List.setIfInBounds_toArray, Value.cells, List.eraseIdx_cons_succ, List.eraseIdx_cons_zero] at hw)))
  replace hw := Row_nil (e := 3) (sz := 1) hw
  go_loopw [2, 3] (fun v n wr => ∃ k : Nat, k < L ∧ n = .int .i64 (wd p k) ∧ Sat E wr (Row 3 1 v k (((wsOf p).take k).map fun n : Nat => Value.int .i64 (n : Int)) :: pt b (.cells p.cs 28 (0, 0)) :: F)) (fun _ n _ => (intOf n).toNat)
  case atStart => exact ⟨0, by omega, by rw [show ((0 : Nat) : Int) = 0 from rfl, w0.out], (Sat.gets hw (by repeat (first | exact Gets.nil | exact Gets.refl _ | refine Gets.get 0 rfl ?_ | refine Gets.get 1 rfl ?_ | refine Gets.get 2 rfl ?_ | refine Gets.get 3 rfl ?_ | refine Gets.get 4 rfl ?_ | refine Gets.get 5 rfl ?_ | refine Gets.get 6 rfl ?_ | refine Gets.get 7 rfl ?_ | refine Gets.get 8 rfl ?_ | refine Gets.get 9 rfl ?_ | refine Gets.drop ?_)))⟩
  case round =>
    clear hw
    obtain ⟨k, hk, rfl, hw⟩ := hrel
    have st := wd_step HS.out k (by rw [← HL.out]; exact hk)
    rw [ha.out, ← HL.out] at st
    have hat := Kp.mk (wd_at HS.out k)
    obtain ⟨A0, c0, rfl, _, hg0⟩ := Row_val hw 0 rfl
    obtain ⟨x, hx⟩ : ∃ x, x = wd p k := ⟨_, rfl⟩
    obtain ⟨y, hy⟩ : ∃ y, y = wd p ((k : Int) + 1) := ⟨_, rfl⟩
    rw [← hx, ← hy] at st
    have HX := Kp.mk hx
    rw [← hx]
    have HY := Kp.mk hy
    clear hx hy
    obtain ⟨s1, s2, s3, s4⟩ := st
    have hpush : Kp (((wsOf p).take k).map (fun n : Nat => Value.int .i64 (n : Int)) ++ [.int .i64 x] = ((wsOf p).take (k + 1)).map fun n : Nat => Value.int .i64 (n : Int)) := Kp.mk (by
      have hlt : k < (wsOf p).length := by rw [← HL.out]; exact hk
      rw [List.take_add_one, List.getElem?_eq_getElem hlt, HX.out, hat.out, List.getD_eq_getElem?_getD, List.getElem?_eq_getElem hlt]
      simp only [Option.toList_some, List.map_append, List.map_cons, List.map_nil, Option.getD_some])
    by_cases h1 : x = 1
    · have h1' := s3 h1
      clear s3 s4
      have HL1 := Kp.mk h1'
      clear h1'
      go_wp2_with (first
        | (refine wl_lit1 (el := 3) (sz := 1) (v := .int .i64 x) hw rfl (by kernel_rfl) (by kernel_rfl) (by kernel_rfl) rfl (by omega) (by omega) ?_; clear hw; intro b1 w hw; (try simp only [List.set_cons_succ, List.set_cons_zero, List.setIfInBounds_toArray, Value.cells, List.eraseIdx_cons_succ, List.eraseIdx_cons_zero] at hw))
        | (at_builtin; go_must (refine wl_append hw 1 rfl rfl rfl (Rd_blk hw 0 rfl (n := 1) (Nat.le_refl _) [.int .i64 x] rfl rfl) u_ints int_info rfl (by omega) ints_one1 (by simp only [maxLen]; omega) (by omega) ?_); clear hw; intro vv w hw hv; clear hv; (try simp only [List.set_cons_succ, List.set_cons_zero, List.setIfInBounds_toArray, Value.cells, List.eraseIdx_cons_succ, List.eraseIdx_cons_zero] at hw)))
      go_ret
      rw [hpush.out, HL1.out] at hw
      refine ⟨_, rfl, ?_⟩
      rw [← HL.out, show (wsOf p) = (wsOf p).take L from by rw [HL.out, List.take_length]]
      exact (Sat.gets hw (by repeat (first | exact Gets.nil | exact Gets.refl _ | refine Gets.get 0 rfl ?_ | refine Gets.get 1 rfl ?_ | refine Gets.get 2 rfl ?_ | refine Gets.get 3 rfl ?_ | refine Gets.get 4 rfl ?_ | refine Gets.get 5 rfl ?_ | refine Gets.get 6 rfl ?_ | refine Gets.get 7 rfl ?_ | refine Gets.get 8 rfl ?_ | refine Gets.get 9 rfl ?_ | refine Gets.drop ?_)))
    · obtain ⟨s5, s6⟩ := s4 h1
      clear s3 s4
      have HY2 : Kp (wd p (k + 1 : Nat) = y) := Kp.mk HY.out.symm
      have SY := Kp.mk s6
      clear s6
      rcases ar with rfl | rfl | rfl
      all_goals
        go_wp2_with (first
          | (refine wl_load1 hw rfl 2 rfl (by decide +kernel) AR.out ?_)
          | (refine wl_lit1 (el := 3) (sz := 1) (v := .int .i64 x) hw rfl (by kernel_rfl) (by kernel_rfl) (by kernel_rfl) rfl (by omega) (by omega) ?_; clear hw; intro b1 w hw; (try simp only [List.set_cons_succ, List.set_cons_zero, List.setIfInBounds_toArray, Value.cells, List.eraseIdx_cons_succ, List.eraseIdx_cons_zero] at hw))
          | (at_builtin; go_must (refine wl_append hw 1 rfl rfl rfl (Rd_blk hw 0 rfl (n := 1) (Nat.le_refl _) [.int .i64 x] rfl rfl) u_ints int_info rfl (by omega) ints_one1 (by simp only [maxLen]; omega) (by omega) ?_); clear hw; intro vv w hw hv; clear hv; (try simp only [List.set_cons_succ, List.set_cons_zero, List.setIfInBounds_toArray, Value.cells, List.eraseIdx_cons_succ, List.eraseIdx_cons_zero] at hw)))
        rw [hpush.out] at hw
        go_roundw
        case rel => exact ⟨k + 1, s5, by rw [HY2.out, SY.out], (Sat.gets hw (by repeat (first | exact Gets.nil | exact Gets.refl _ | refine Gets.get 0 rfl ?_ | refine Gets.get 1 rfl ?_ | refine Gets.get 2 rfl ?_ | refine Gets.get 3 rfl ?_ | refine Gets.get 4 rfl ?_ | refine Gets.get 5 rfl ?_ | refine Gets.get 6 rfl ?_ | refine Gets.get 7 rfl ?_ | refine Gets.get 8 rfl ?_ | refine Gets.get 9 rfl ?_ | refine Gets.drop ?_)))⟩
        case measure => simp [intOf]; omega
set_option maxRecDepth 100000 in
theorem pl_widths_no (hw : Sat E w F) (hs : shB p = false) : Calls Try.prog 69 #[.agg p.cs] w fun e w' => e = .returned (.slice none 0 0) ∧ Sat E w' F := by
  go_enter Try.func69, Try.ntmps69
  go_wp2_with (first
    | (refine wl_box hw _ (by simp only [Act.eval, Act.put, List.setIfInBounds_toArray, List.set_cons_succ, List.set_cons_zero, gd_s, gd_0, Value.cells]; exact rfl) ?_; clear hw; intro b w hw; (try simp only [List.set_cons_succ, List.set_cons_zero, List.setIfInBounds_toArray, Value.cells, List.eraseIdx_cons_succ, List.eraseIdx_cons_zero] at hw)) | (refine wl_load_all hw rfl 0 rfl (by rw [plan_agg, Pl.size]) ?_) | (go_at_call 50; go_must (refine (Calls.mono (pl_shape (p := p) hw) ?_)); clear hw; rintro e w ⟨rfl, hw⟩; rw [hs]; (try simp only [List.set_cons_succ, List.set_cons_zero, List.setIfInBounds_toArray, Value.cells, List.eraseIdx_cons_succ, List.eraseIdx_cons_zero] at hw)))
  go_ret
  exact ⟨rfl, hw.tail⟩
set_option maxRecDepth 100000 in
theorem pl_levels (hw : Sat E w F) : Calls Try.prog 56 #[.agg p.cs] w fun e w' => e = .returned (.int .i64 (lvN p)) ∧ Sat E w' F := by
  cases hs : shB p with
  | false =>
    have e := Kp.mk (show lvN p = 0 by unfold lvN; rw [hs]; rfl)
    go_enter Try.func56, Try.ntmps56
    go_wp2_with (first
      | (refine wl_box hw _ (by simp only [Act.eval, Act.put, List.setIfInBounds_toArray, List.set_cons_succ, List.set_cons_zero, gd_s, gd_0, Value.cells]; exact rfl) ?_; clear hw; intro b w hw; (try simp only [List.set_cons_succ, List.set_cons_zero, List.setIfInBounds_toArray, Value.cells, List.eraseIdx_cons_succ, List.eraseIdx_cons_zero] at hw)) | (refine wl_load_all hw rfl 0 rfl (by rw [plan_agg, Pl.size]) ?_) | (go_at_call 69; go_must (refine (Calls.mono (pl_widths_no (p := p) hw hs) ?_)); clear hw; rintro e w ⟨rfl, hw⟩; (try simp only [List.set_cons_succ, List.set_cons_zero, List.setIfInBounds_toArray, Value.cells, List.eraseIdx_cons_succ, List.eraseIdx_cons_zero] at hw)))
    go_ret
    exact ⟨by rw [e.out]; rfl, hw.tail⟩
  | true =>
    have e := Kp.mk (lvN_eq hs)
    go_enter Try.func56, Try.ntmps56
    go_wp2_with (first
      | (refine wl_box hw _ (by simp only [Act.eval, Act.put, List.setIfInBounds_toArray, List.set_cons_succ, List.set_cons_zero, gd_s, gd_0, Value.cells]; exact rfl) ?_; clear hw; intro b w hw; (try simp only [List.set_cons_succ, List.set_cons_zero, List.setIfInBounds_toArray, Value.cells, List.eraseIdx_cons_succ, List.eraseIdx_cons_zero] at hw)) | (refine wl_load_all hw rfl 0 rfl (by rw [plan_agg, Pl.size]) ?_) | (go_at_call 69; go_must (refine (Calls.mono (pl_widths (p := p) hw hs) ?_)); clear hw; rintro e w ⟨v, rfl, hw⟩; obtain ⟨A1, c1, rfl, _, _⟩ := Row_val hw 0 rfl; (try simp only [List.set_cons_succ, List.set_cons_zero, List.setIfInBounds_toArray, Value.cells, List.eraseIdx_cons_succ, List.eraseIdx_cons_zero] at hw)))
    go_ret
    exact ⟨by rw [e.out]; rfl, (Sat.gets hw (by repeat (first | exact Gets.nil | exact Gets.refl _ | refine Gets.get 0 rfl ?_ | refine Gets.get 1 rfl ?_ | refine Gets.get 2 rfl ?_ | refine Gets.get 3 rfl ?_ | refine Gets.get 4 rfl ?_ | refine Gets.get 5 rfl ?_ | refine Gets.get 6 rfl ?_ | refine Gets.get 7 rfl ?_ | refine Gets.get 8 rfl ?_ | refine Gets.get 9 rfl ?_ | refine Gets.drop ?_)))⟩
set_option maxRecDepth 100000 in
theorem pl_width {l : Int} (hw : Sat E w F) : Calls Try.prog 57 #[.agg p.cs, .int .i64 l] w fun e w' => e = .returned (.int .i64 (wd p l)) ∧ Sat E w' F := by
  cases hs : shB p with
  | false =>
    have e := Kp.mk (wd_no (l := l) (.inl hs))
    have hl : l < 0 ∨ 0 ≤ l := by omega
    rcases hl with hl | hl
    all_goals
      go_enter Try.func57, Try.ntmps57
      go_wp2_with (first
        | (refine wl_box hw _ (by simp only [Act.eval, Act.put, List.setIfInBounds_toArray, List.set_cons_succ, List.set_cons_zero, gd_s, gd_0, Value.cells]; exact rfl) ?_; clear hw; intro b w hw; (try simp only [List.set_cons_succ, List.set_cons_zero, List.setIfInBounds_toArray, Value.cells, List.eraseIdx_cons_succ, List.eraseIdx_cons_zero] at hw)) | (refine wl_load_all hw rfl 0 rfl (by rw [plan_agg, Pl.size]) ?_) | (go_at_call 69; go_must (refine (Calls.mono (pl_widths_no (p := p) hw hs) ?_)); clear hw; rintro e w ⟨rfl, hw⟩; (try simp only [List.set_cons_succ, List.set_cons_zero, List.setIfInBounds_toArray, Value.cells, List.eraseIdx_cons_succ, List.eraseIdx_cons_zero] at hw)) | (refine wl_run (rn_clss rfl (by exact rfl) (by exact rfl) true (decide_eq_true (by omega))) ?_) | (refine wl_run (rn_clss rfl (by exact rfl) (by exact rfl) false (decide_eq_false (by omega))) ?_) | (refine wl_run (rn_cleq rfl (by exact rfl) (by exact rfl) true (decide_eq_true (by omega))) ?_) | (refine wl_run (rn_cleq rfl (by exact rfl) (by exact rfl) false (decide_eq_false (by omega))) ?_) | (refine wl_run (rn_cgtr rfl (by exact rfl) (by exact rfl) true (decide_eq_true (by omega))) ?_) | (refine wl_run (rn_cgtr rfl (by exact rfl) (by exact rfl) false (decide_eq_false (by omega))) ?_) | (refine wl_run (rn_cgeq rfl (by exact rfl) (by exact rfl) true (decide_eq_true (by omega))) ?_) | (refine wl_run (rn_cgeq rfl (by exact rfl) (by exact rfl) false (decide_eq_false (by omega))) ?_) | (refine wl_run (rn_ceql rfl (by exact rfl) (by exact rfl) true (decide_eq_true (by omega))) ?_) | (refine wl_run (rn_ceql rfl (by exact rfl) (by exact rfl) false (decide_eq_false (by omega))) ?_) | (refine wl_run (rn_cneq rfl (by exact rfl) (by exact rfl) true (decide_eq_true (by omega))) ?_) | (refine wl_run (rn_cneq rfl (by exact rfl) (by exact rfl) false (decide_eq_false (by omega))) ?_) | (refine wl_run (rn_cadd rfl (by exact rfl) (by exact rfl) _ rfl (by omega)) ?_) | (refine wl_run (rn_csub rfl (by exact rfl) (by exact rfl) _ rfl (by omega)) ?_) | (refine wl_run (rn_cquo rfl (by exact rfl) (by exact rfl) (by omega) (by omega) (by omega)) ?_) | (refine wl_run (rn_irem rfl (by exact rfl) (by exact rfl) (by omega) (by omega)) ?_) | (refine wl_want (by rfl) (fun K hK => ?_); refine wk_run (rn_clss rfl (by exact rfl) (by exact rfl) true (decide_eq_true (by omega))) ?_; refine hK _ _ ?_; clear hK K) | (refine wl_want (by rfl) (fun K hK => ?_); refine wk_run (rn_clss rfl (by exact rfl) (by exact rfl) false (decide_eq_false (by omega))) ?_; refine hK _ _ ?_; clear hK K) | (refine wl_want (by rfl) (fun K hK => ?_); refine wk_run (rn_cleq rfl (by exact rfl) (by exact rfl) true (decide_eq_true (by omega))) ?_; refine hK _ _ ?_; clear hK K) | (refine wl_want (by rfl) (fun K hK => ?_); refine wk_run (rn_cleq rfl (by exact rfl) (by exact rfl) false (decide_eq_false (by omega))) ?_; refine hK _ _ ?_; clear hK K) | (refine wl_want (by rfl) (fun K hK => ?_); refine wk_run (rn_cgtr rfl (by exact rfl) (by exact rfl) true (decide_eq_true (by omega))) ?_; refine hK _ _ ?_; clear hK K) | (refine wl_want (by rfl) (fun K hK => ?_); refine wk_run (rn_cgtr rfl (by exact rfl) (by exact rfl) false (decide_eq_false (by omega))) ?_; refine hK _ _ ?_; clear hK K) | (refine wl_want (by rfl) (fun K hK => ?_); refine wk_run (rn_cgeq rfl (by exact rfl) (by exact rfl) true (decide_eq_true (by omega))) ?_; refine hK _ _ ?_; clear hK K) | (refine wl_want (by rfl) (fun K hK => ?_); refine wk_run (rn_cgeq rfl (by exact rfl) (by exact rfl) false (decide_eq_false (by omega))) ?_; refine hK _ _ ?_; clear hK K) | (refine wl_want (by rfl) (fun K hK => ?_); refine wk_run (rn_ceql rfl (by exact rfl) (by exact rfl) true (decide_eq_true (by omega))) ?_; refine hK _ _ ?_; clear hK K) | (refine wl_want (by rfl) (fun K hK => ?_); refine wk_run (rn_ceql rfl (by exact rfl) (by exact rfl) false (decide_eq_false (by omega))) ?_; refine hK _ _ ?_; clear hK K) | (refine wl_want (by rfl) (fun K hK => ?_); refine wk_run (rn_cneq rfl (by exact rfl) (by exact rfl) true (decide_eq_true (by omega))) ?_; refine hK _ _ ?_; clear hK K) | (refine wl_want (by rfl) (fun K hK => ?_); refine wk_run (rn_cneq rfl (by exact rfl) (by exact rfl) false (decide_eq_false (by omega))) ?_; refine hK _ _ ?_; clear hK K) | (refine wl_want (by rfl) (fun K hK => ?_); refine wk_run (rn_cadd rfl (by exact rfl) (by exact rfl) _ rfl (by omega)) ?_; refine hK _ _ ?_; clear hK K) | (refine wl_want (by rfl) (fun K hK => ?_); refine wk_run (rn_csub rfl (by exact rfl) (by exact rfl) _ rfl (by omega)) ?_; refine hK _ _ ?_; clear hK K) | (refine wl_want (by rfl) (fun K hK => ?_); refine wk_run (rn_cquo rfl (by exact rfl) (by exact rfl) (by omega) (by omega) (by omega)) ?_; refine hK _ _ ?_; clear hK K) | (refine wl_want (by rfl) (fun K hK => ?_); refine wk_run (rn_irem rfl (by exact rfl) (by exact rfl) (by omega) (by omega)) ?_; refine hK _ _ ?_; clear hK K))
      go_ret
      exact ⟨by rw [e.out]; rfl, hw.tail⟩
  | true =>
    have wl := ws_len hs
    have HS := Kp.mk hs
    have en := Kp.mk (wd_end hs l.toNat)
    have at' := Kp.mk (wd_at hs l.toNat)
    obtain ⟨L, hL⟩ : ∃ L, L = (wsOf p).length := ⟨_, rfl⟩
    rw [← hL] at wl
    have HL := Kp.mk hL
    clear hL
    by_cases h1 : l < 0
    · have e := Kp.mk (wd_no (p := p) (l := l) (.inr (.inl h1)))
      go_enter Try.func57, Try.ntmps57
      go_wp2_with (first
        | (refine wl_box hw _ (by simp only [Act.eval, Act.put, List.setIfInBounds_toArray, List.set_cons_succ, List.set_cons_zero, gd_s, gd_0, Value.cells]; exact rfl) ?_; clear hw; intro b w hw; (try simp only [List.set_cons_succ, List.set_cons_zero, List.setIfInBounds_toArray, Value.cells, List.eraseIdx_cons_succ, List.eraseIdx_cons_zero] at hw)) | (refine wl_load_all hw rfl 0 rfl (by rw [plan_agg, Pl.size]) ?_) | (go_at_call 69; go_must (refine (Calls.mono (pl_widths (p := p) hw HS.out) ?_)); clear hw; rintro e w ⟨v, rfl, hw⟩; obtain ⟨A1, c1, rfl, _, _⟩ := Row_val hw 0 rfl; (try simp only [List.set_cons_succ, List.set_cons_zero, List.setIfInBounds_toArray, Value.cells, List.eraseIdx_cons_succ, List.eraseIdx_cons_zero] at hw)))
      go_ret
      exact ⟨by rw [e.out]; rfl, (Sat.gets hw (by repeat (first | exact Gets.nil | exact Gets.refl _ | refine Gets.get 0 rfl ?_ | refine Gets.get 1 rfl ?_ | refine Gets.get 2 rfl ?_ | refine Gets.get 3 rfl ?_ | refine Gets.get 4 rfl ?_ | refine Gets.get 5 rfl ?_ | refine Gets.get 6 rfl ?_ | refine Gets.get 7 rfl ?_ | refine Gets.get 8 rfl ?_ | refine Gets.get 9 rfl ?_ | refine Gets.drop ?_)))⟩
    · by_cases h2 : (L : Int) ≤ l
      · have e : Kp (wd p l = 0) := Kp.mk (by
          have := en.out (by rw [← HL.out]; omega)
          rw [show ((l.toNat : Nat) : Int) = l by omega] at this; exact this)
        go_enter Try.func57, Try.ntmps57
        go_wp2_with (first
          | (refine wl_box hw _ (by simp only [Act.eval, Act.put, List.setIfInBounds_toArray, List.set_cons_succ, List.set_cons_zero, gd_s, gd_0, Value.cells]; exact rfl) ?_; clear hw; intro b w hw; (try simp only [List.set_cons_succ, List.set_cons_zero, List.setIfInBounds_toArray, Value.cells, List.eraseIdx_cons_succ, List.eraseIdx_cons_zero] at hw)) | (refine wl_load_all hw rfl 0 rfl (by rw [plan_agg, Pl.size]) ?_) | (go_at_call 69; go_must (refine (Calls.mono (pl_widths (p := p) hw HS.out) ?_)); clear hw; rintro e w ⟨v, rfl, hw⟩; rw [← HL.out] at hw; obtain ⟨A1, c1, rfl, _, _⟩ := Row_val hw 0 rfl; (try simp only [List.set_cons_succ, List.set_cons_zero, List.setIfInBounds_toArray, Value.cells, List.eraseIdx_cons_succ, List.eraseIdx_cons_zero] at hw)) | (refine wl_run (rn_clss rfl (by exact rfl) (by exact rfl) true (decide_eq_true (by omega))) ?_) | (refine wl_run (rn_clss rfl (by exact rfl) (by exact rfl) false (decide_eq_false (by omega))) ?_) | (refine wl_run (rn_cleq rfl (by exact rfl) (by exact rfl) true (decide_eq_true (by omega))) ?_) | (refine wl_run (rn_cleq rfl (by exact rfl) (by exact rfl) false (decide_eq_false (by omega))) ?_) | (refine wl_run (rn_cgtr rfl (by exact rfl) (by exact rfl) true (decide_eq_true (by omega))) ?_) | (refine wl_run (rn_cgtr rfl (by exact rfl) (by exact rfl) false (decide_eq_false (by omega))) ?_) | (refine wl_run (rn_cgeq rfl (by exact rfl) (by exact rfl) true (decide_eq_true (by omega))) ?_) | (refine wl_run (rn_cgeq rfl (by exact rfl) (by exact rfl) false (decide_eq_false (by omega))) ?_) | (refine wl_run (rn_ceql rfl (by exact rfl) (by exact rfl) true (decide_eq_true (by omega))) ?_) | (refine wl_run (rn_ceql rfl (by exact rfl) (by exact rfl) false (decide_eq_false (by omega))) ?_) | (refine wl_run (rn_cneq rfl (by exact rfl) (by exact rfl) true (decide_eq_true (by omega))) ?_) | (refine wl_run (rn_cneq rfl (by exact rfl) (by exact rfl) false (decide_eq_false (by omega))) ?_) | (refine wl_run (rn_cadd rfl (by exact rfl) (by exact rfl) _ rfl (by omega)) ?_) | (refine wl_run (rn_csub rfl (by exact rfl) (by exact rfl) _ rfl (by omega)) ?_) | (refine wl_run (rn_cquo rfl (by exact rfl) (by exact rfl) (by omega) (by omega) (by omega)) ?_) | (refine wl_run (rn_irem rfl (by exact rfl) (by exact rfl) (by omega) (by omega)) ?_) | (refine wl_want (by rfl) (fun K hK => ?_); refine wk_run (rn_clss rfl (by exact rfl) (by exact rfl) true (decide_eq_true (by omega))) ?_; refine hK _ _ ?_; clear hK K) | (refine wl_want (by rfl) (fun K hK => ?_); refine wk_run (rn_clss rfl (by exact rfl) (by exact rfl) false (decide_eq_false (by omega))) ?_; refine hK _ _ ?_; clear hK K) | (refine wl_want (by rfl) (fun K hK => ?_); refine wk_run (rn_cleq rfl (by exact rfl) (by exact rfl) true (decide_eq_true (by omega))) ?_; refine hK _ _ ?_; clear hK K) | (refine wl_want (by rfl) (fun K hK => ?_); refine wk_run (rn_cleq rfl (by exact rfl) (by exact rfl) false (decide_eq_false (by omega))) ?_; refine hK _ _ ?_; clear hK K) | (refine wl_want (by rfl) (fun K hK => ?_); refine wk_run (rn_cgtr rfl (by exact rfl) (by exact rfl) true (decide_eq_true (by omega))) ?_; refine hK _ _ ?_; clear hK K) | (refine wl_want (by rfl) (fun K hK => ?_); refine wk_run (rn_cgtr rfl (by exact rfl) (by exact rfl) false (decide_eq_false (by omega))) ?_; refine hK _ _ ?_; clear hK K) | (refine wl_want (by rfl) (fun K hK => ?_); refine wk_run (rn_cgeq rfl (by exact rfl) (by exact rfl) true (decide_eq_true (by omega))) ?_; refine hK _ _ ?_; clear hK K) | (refine wl_want (by rfl) (fun K hK => ?_); refine wk_run (rn_cgeq rfl (by exact rfl) (by exact rfl) false (decide_eq_false (by omega))) ?_; refine hK _ _ ?_; clear hK K) | (refine wl_want (by rfl) (fun K hK => ?_); refine wk_run (rn_ceql rfl (by exact rfl) (by exact rfl) true (decide_eq_true (by omega))) ?_; refine hK _ _ ?_; clear hK K) | (refine wl_want (by rfl) (fun K hK => ?_); refine wk_run (rn_ceql rfl (by exact rfl) (by exact rfl) false (decide_eq_false (by omega))) ?_; refine hK _ _ ?_; clear hK K) | (refine wl_want (by rfl) (fun K hK => ?_); refine wk_run (rn_cneq rfl (by exact rfl) (by exact rfl) true (decide_eq_true (by omega))) ?_; refine hK _ _ ?_; clear hK K) | (refine wl_want (by rfl) (fun K hK => ?_); refine wk_run (rn_cneq rfl (by exact rfl) (by exact rfl) false (decide_eq_false (by omega))) ?_; refine hK _ _ ?_; clear hK K) | (refine wl_want (by rfl) (fun K hK => ?_); refine wk_run (rn_cadd rfl (by exact rfl) (by exact rfl) _ rfl (by omega)) ?_; refine hK _ _ ?_; clear hK K) | (refine wl_want (by rfl) (fun K hK => ?_); refine wk_run (rn_csub rfl (by exact rfl) (by exact rfl) _ rfl (by omega)) ?_; refine hK _ _ ?_; clear hK K) | (refine wl_want (by rfl) (fun K hK => ?_); refine wk_run (rn_cquo rfl (by exact rfl) (by exact rfl) (by omega) (by omega) (by omega)) ?_; refine hK _ _ ?_; clear hK K) | (refine wl_want (by rfl) (fun K hK => ?_); refine wk_run (rn_irem rfl (by exact rfl) (by exact rfl) (by omega) (by omega)) ?_; refine hK _ _ ?_; clear hK K))
        go_ret
        exact ⟨by rw [e.out]; rfl, (Sat.gets hw (by repeat (first | exact Gets.nil | exact Gets.refl _ | refine Gets.get 0 rfl ?_ | refine Gets.get 1 rfl ?_ | refine Gets.get 2 rfl ?_ | refine Gets.get 3 rfl ?_ | refine Gets.get 4 rfl ?_ | refine Gets.get 5 rfl ?_ | refine Gets.get 6 rfl ?_ | refine Gets.get 7 rfl ?_ | refine Gets.get 8 rfl ?_ | refine Gets.get 9 rfl ?_ | refine Gets.drop ?_)))⟩
      · obtain ⟨k, rfl⟩ : ∃ k : Nat, l = k := ⟨l.toNat, by omega⟩
        have hk : k < L := by omega
        have hcell : Kp (((wsOf p).map fun n : Nat => Value.int .i64 (n : Int))[k]? = some (.int .i64 (wd p k))) := Kp.mk (by
          have hlt : k < (wsOf p).length := by rw [← HL.out]; exact hk
          have e := at'.out
          rw [Int.toNat_natCast] at e
          rw [e, List.getElem?_map, List.getD_eq_getElem?_getD, List.getElem?_eq_getElem hlt]; rfl)
        clear at' en
        go_enter Try.func57, Try.ntmps57
        go_wp2_with (first
          | (refine wl_box hw _ (by simp only [Act.eval, Act.put, List.setIfInBounds_toArray, List.set_cons_succ, List.set_cons_zero, gd_s, gd_0, Value.cells]; exact rfl) ?_; clear hw; intro b w hw; (try simp only [List.set_cons_succ, List.set_cons_zero, List.setIfInBounds_toArray, Value.cells, List.eraseIdx_cons_succ, List.eraseIdx_cons_zero] at hw)) | (refine wl_load_all hw rfl 0 rfl (by rw [plan_agg, Pl.size]) ?_)
          | (go_at_call 69; go_must (refine (Calls.mono (pl_widths (p := p) hw HS.out) ?_)); clear hw; rintro e w ⟨v, rfl, hw⟩; rw [← HL.out] at hw; obtain ⟨A1, c1, rfl, _, hg1⟩ := Row_val hw 0 rfl; obtain ⟨g, rfl⟩ := hg1 (by omega); (try simp only [List.set_cons_succ, List.set_cons_zero, List.setIfInBounds_toArray, Value.cells, List.eraseIdx_cons_succ, List.eraseIdx_cons_zero] at hw))
          | (refine wl_rowIdx k k (Nat.mul_one k) hw rfl rfl 0 rfl u_ints int_size hk ?_)
          | (refine wl_rowLd1 (j := k) hw rfl rfl 0 rfl (by decide +kernel) _ hcell.out ?_)
          | (refine wl_run (rn_clss rfl (by exact rfl) (by exact rfl) true (decide_eq_true (by omega))) ?_) | (refine wl_run (rn_clss rfl (by exact rfl) (by exact rfl) false (decide_eq_false (by omega))) ?_) | (refine wl_run (rn_cleq rfl (by exact rfl) (by exact rfl) true (decide_eq_true (by omega))) ?_) | (refine wl_run (rn_cleq rfl (by exact rfl) (by exact rfl) false (decide_eq_false (by omega))) ?_) | (refine wl_run (rn_cgtr rfl (by exact rfl) (by exact rfl) true (decide_eq_true (by omega))) ?_) | (refine wl_run (rn_cgtr rfl (by exact rfl) (by exact rfl) false (decide_eq_false (by omega))) ?_) | (refine wl_run (rn_cgeq rfl (by exact rfl) (by exact rfl) true (decide_eq_true (by omega))) ?_) | (refine wl_run (rn_cgeq rfl (by exact rfl) (by exact rfl) false (decide_eq_false (by omega))) ?_) | (refine wl_run (rn_ceql rfl (by exact rfl) (by exact rfl) true (decide_eq_true (by omega))) ?_) | (refine wl_run (rn_ceql rfl (by exact rfl) (by exact rfl) false (decide_eq_false (by omega))) ?_) | (refine wl_run (rn_cneq rfl (by exact rfl) (by exact rfl) true (decide_eq_true (by omega))) ?_) | (refine wl_run (rn_cneq rfl (by exact rfl) (by exact rfl) false (decide_eq_false (by omega))) ?_) | (refine wl_run (rn_cadd rfl (by exact rfl) (by exact rfl) _ rfl (by omega)) ?_) | (refine wl_run (rn_csub rfl (by exact rfl) (by exact rfl) _ rfl (by omega)) ?_) | (refine wl_run (rn_cquo rfl (by exact rfl) (by exact rfl) (by omega) (by omega) (by omega)) ?_) | (refine wl_run (rn_irem rfl (by exact rfl) (by exact rfl) (by omega) (by omega)) ?_) | (refine wl_want (by rfl) (fun K hK => ?_); refine wk_run (rn_clss rfl (by exact rfl) (by exact rfl) true (decide_eq_true (by omega))) ?_; refine hK _ _ ?_; clear hK K) | (refine wl_want (by rfl) (fun K hK => ?_); refine wk_run (rn_clss rfl (by exact rfl) (by exact rfl) false (decide_eq_false (by omega))) ?_; refine hK _ _ ?_; clear hK K) | (refine wl_want (by rfl) (fun K hK => ?_); refine wk_run (rn_cleq rfl (by exact rfl) (by exact rfl) true (decide_eq_true (by omega))) ?_; refine hK _ _ ?_; clear hK K) | (refine wl_want (by rfl) (fun K hK => ?_); refine wk_run (rn_cleq rfl (by exact rfl) (by exact rfl) false (decide_eq_false (by omega))) ?_; refine hK _ _ ?_; clear hK K) | (refine wl_want (by rfl) (fun K hK => ?_); refine wk_run (rn_cgtr rfl (by exact rfl) (by exact rfl) true (decide_eq_true (by omega))) ?_; refine hK _ _ ?_; clear hK K) | (refine wl_want (by rfl) (fun K hK => ?_); refine wk_run (rn_cgtr rfl (by exact rfl) (by exact rfl) false (decide_eq_false (by omega))) ?_; refine hK _ _ ?_; clear hK K) | (refine wl_want (by rfl) (fun K hK => ?_); refine wk_run (rn_cgeq rfl (by exact rfl) (by exact rfl) true (decide_eq_true (by omega))) ?_; refine hK _ _ ?_; clear hK K) | (refine wl_want (by rfl) (fun K hK => ?_); refine wk_run (rn_cgeq rfl (by exact rfl) (by exact rfl) false (decide_eq_false (by omega))) ?_; refine hK _ _ ?_; clear hK K) | (refine wl_want (by rfl) (fun K hK => ?_); refine wk_run (rn_ceql rfl (by exact rfl) (by exact rfl) true (decide_eq_true (by omega))) ?_; refine hK _ _ ?_; clear hK K) | (refine wl_want (by rfl) (fun K hK => ?_); refine wk_run (rn_ceql rfl (by exact rfl) (by exact rfl) false (decide_eq_false (by omega))) ?_; refine hK _ _ ?_; clear hK K) | (refine wl_want (by rfl) (fun K hK => ?_); refine wk_run (rn_cneq rfl (by exact rfl) (by exact rfl) true (decide_eq_true (by omega))) ?_; refine hK _ _ ?_; clear hK K) | (refine wl_want (by rfl) (fun K hK => ?_); refine wk_run (rn_cneq rfl (by exact rfl) (by exact rfl) false (decide_eq_false (by omega))) ?_; refine hK _ _ ?_; clear hK K) | (refine wl_want (by rfl) (fun K hK => ?_); refine wk_run (rn_cadd rfl (by exact rfl) (by exact rfl) _ rfl (by omega)) ?_; refine hK _ _ ?_; clear hK K) | (refine wl_want (by rfl) (fun K hK => ?_); refine wk_run (rn_csub rfl (by exact rfl) (by exact rfl) _ rfl (by omega)) ?_; refine hK _ _ ?_; clear hK K) | (refine wl_want (by rfl) (fun K hK => ?_); refine wk_run (rn_cquo rfl (by exact rfl) (by exact rfl) (by omega) (by omega) (by omega)) ?_; refine hK _ _ ?_; clear hK K) | (refine wl_want (by rfl) (fun K hK => ?_); refine wk_run (rn_irem rfl (by exact rfl) (by exact rfl) (by omega) (by omega)) ?_; refine hK _ _ ?_; clear hK K))
        go_ret
        exact ⟨rfl, (Sat.gets hw (by repeat (first | exact Gets.nil | exact Gets.refl _ | refine Gets.get 0 rfl ?_ | refine Gets.get 1 rfl ?_ | refine Gets.get 2 rfl ?_ | refine Gets.get 3 rfl ?_ | refine Gets.get 4 rfl ?_ | refine Gets.get 5 rfl ?_ | refine Gets.get 6 rfl ?_ | refine Gets.get 7 rfl ?_ | refine Gets.get 8 rfl ?_ | refine Gets.get 9 rfl ?_ | refine Gets.drop ?_)))⟩
end
end Go.Proofs.Ytklhmlplabkoeaa
