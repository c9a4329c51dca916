/- Package probe: item, flip, move, Acts. Conditions: none. -/
import Derived.Test.YtklhmlplabkoeaaPrbL
import Derived.Test.YtklhmlplabkoeaaSmT
set_option linter.unusedVariables false
set_option linter.unusedSimpArgs false
namespace Go.Proofs.Ytklhmlplabkoeaa
open Go.RowKit Go.Bst Go.MapKept Go.Proofs.YtklhmlplabkoeaaW.PrintLast
def tmN (t : Tmv) : Array Value := t.cs (.slice none 0 0)
theorem tmN_size (t : Tmv) : (tmN t).size = 5 := Tmv.size t _
theorem row_of1 {α : Type} {E : Env} {w : World} {H : List HP} {f : α → Array Value} {x : α} {g sz : Nat} {e : TypeId} (s : Sat E w (pt g (.cells (f x) e) :: H)) (h : (f x).size = sz) : Sat E w (RowN e sz (.slice (some ⟨g, 0, none⟩) 1 1) 1 f [x] :: H) :=
  Row_mk (Nat.le_refl _) (by decide) (by rw [h, Nat.one_mul]) (by rw [Nat.one_mul, ← h, List.map_cons, List.map_nil, flat_one, List.take_of_length_le (by simp)]) s
theorem row_of2 {α : Type} {E : Env} {w : World} {H : List HP} {f : α → Array Value} {x y : α} {g sz : Nat} {e : TypeId} {cs : Array Value} (s : Sat E w (pt g (.cells cs e) :: H)) (hx : (f x).size = sz) (hy : (f y).size = sz) (hc : cs.toList = (f x).toList ++ (f y).toList) : Sat E w (RowN e sz (.slice (some ⟨g, 0, none⟩) 2 2) 2 f [x, y] :: H) :=
  have hl : cs.toList.length = 2 * sz := by rw [hc, List.length_append, Array.length_toList, Array.length_toList, hx, hy]; omega
  Row_mk (Nat.le_refl _) (by decide) (by rw [← hl, Array.length_toList]) (by rw [List.take_of_length_le (by omega), hc]; simp [flat]) s
theorem tm_b01 (a c : Int) : buildC Try.prog 62 [(0, #[.int .i64 a]), (1, #[.int .i64 c])] = some (tmN (Tmv.mk a c 0 0)) := by unfold tmN Tmv.cs; kernel_rfl
theorem tm_b03 (a c : Int) : buildC Try.prog 62 [(0, #[.int .i64 a]), (3, #[.int .i64 c])] = some (tmN (Tmv.mk a 0 0 c)) := by unfold tmN Tmv.cs; kernel_rfl
theorem tm_b0123 (a b c d : Int) : buildC Try.prog 62 [(0, #[.int .i64 a]), (1, #[.int .i64 b]), (2, #[.int .i64 c]), (3, #[.int .i64 d])] = some (tmN (Tmv.mk a b c d)) := by unfold tmN Tmv.cs; kernel_rfl
theorem tmN_one (t : Tmv) : (tmN t).all (·.oneCell') = true := Tmv.one t
theorem tmN_zero : zeroOf Try.prog 62 = some (.agg (tmN (Tmv.mk 0 0 0 0))) := tm_zero
theorem tm_row : (Try.prog.info? 62).map (fun i => (i.zero, i.size, i.bytes)) = some (some (.agg (tmN (Tmv.mk 0 0 0 0))), 5, 56) := by unfold tmN Tmv.cs; kernel_rfl
section
variable {E : Env} {w : World} {F : List HP} {p : Pl}
theorem rn_tm01 {o : Oper} {a : Act} {x0 x1 : Operand} {k l : Int} (ho : o.op = .build 62 #[(0, x0), (1, x1)]) (h0 : a.eval x0 = .int .i64 k) (h1 : a.eval x1 = .int .i64 l) : (execOp a.eval o).run Try.prog w = .ok (.value (.agg (tmN (Tmv.mk k l 0 0)))) w :=
  rn_build _ ho (by simp only [List.map_cons, List.map_nil, h0, h1]; rfl) (tm_b01 k l)
theorem rn_tm03 {o : Oper} {a : Act} {x0 x1 : Operand} {k l : Int} (ho : o.op = .build 62 #[(0, x0), (3, x1)]) (h0 : a.eval x0 = .int .i64 k) (h1 : a.eval x1 = .int .i64 l) : (execOp a.eval o).run Try.prog w = .ok (.value (.agg (tmN (Tmv.mk k 0 0 l)))) w :=
  rn_build _ ho (by simp only [List.map_cons, List.map_nil, h0, h1]; rfl) (tm_b03 k l)
theorem rn_tm0123 {o : Oper} {a : Act} {x0 x1 x2 x3 : Operand} {k l m n : Int} (ho : o.op = .build 62 #[(0, x0), (1, x1), (2, x2), (3, x3)]) (h0 : a.eval x0 = .int .i64 k) (h1 : a.eval x1 = .int .i64 l) (h2 : a.eval x2 = .int .i64 m) (h3 : a.eval x3 = .int .i64 n) : (execOp a.eval o).run Try.prog w = .ok (.value (.agg (tmN (Tmv.mk k l m n)))) w :=
  rn_build _ ho (by simp only [List.map_cons, List.map_nil, h0, h1, h2, h3]; rfl) (tm_b0123 k l m n)
attribute [local irreducible] tmN wpList Calls Code.wp Code.wpN Oper.wp Go.Proofs.YtklhmlplabkoeaaW.PrintLast.wpAnyLast
set_option maxRecDepth 100000 in
theorem prb_flip {a bit n : Int} {ok : Bool} (hw : Sat E w F) (ha : 0 ≤ a ∧ a ≤ 100000) (hb : i64B bit) (hn : n = 32 ∨ n = 8) : Calls Try.prog 30 #[.int .i64 a, .bool ok, .int .i64 bit, .int .i64 n] w fun e w' => ∃ A c, e = .returned (.tuple #[.slice A (flipL ok a bit n).length c, .int .i64 (flipC ok bit n)]) ∧ Sat E w' (RowN 62 5 (.slice A (flipL ok a bit n).length c) (flipL ok a bit n).length tmN (flipL ok a bit n) :: F) := by
  unfold i64B at hb
  by_cases hg : ok = true ∧ 0 ≤ bit ∧ bit < n * 8
  · obtain ⟨rfl, h1, h2⟩ := hg
    have e1 := Kp.mk (show flipL true a bit n = [⟨2, a * 8 + bit, 0, 0⟩] by unfold flipL; simp [h1, h2])
    have e2 := Kp.mk (show flipC true bit n = 0 by unfold flipC; simp [h1, h2])
    rw [e1.out, e2.out]
    rcases hn with rfl | rfl
    all_goals (
      go_enter Try.func30, Try.ntmps30
      go_wp2_with (first
        | (refine wl_run (rn_tm01 rfl (by exact rfl) (by exact rfl)) ?_)
        | (refine wl_run (rn_tm03 rfl (by exact rfl) (by exact rfl)) ?_)
        | (refine wl_run (rn_tm0123 rfl (by exact rfl) (by exact rfl) (by exact rfl) (by exact rfl)) ?_)
        | (refine wl_lit1 (el := 62) (sz := 5) hw (by simp only [Act.eval, Act.put, List.setIfInBounds_toArray, List.set_cons_succ, List.set_cons_zero, gd_s, gd_0, Value.cells]; exact rfl) (by kernel_rfl) (by kernel_rfl) (by kernel_rfl) (by exact tmN_size _) (by omega) (by omega) ?_; clear hw; intro bL w hw; (try simp only [List.set_cons_succ, List.set_cons_zero, List.setIfInBounds_toArray, Value.cells, List.eraseIdx_cons_succ, List.eraseIdx_cons_zero] at hw); replace hw := row_of1 (f := tmN) hw (tmN_size _))
        | (refine wg_run (d := some 14) (by rfl) (rn_clss rfl (by exact rfl) (by exact rfl) true (decide_eq_true (by omega))) ?_) | (refine wg_run (d := some 14) (by rfl) (rn_clss rfl (by exact rfl) (by exact rfl) false (decide_eq_false (by omega))) ?_) | (refine wg_run (d := some 19) (by rfl) (rn_cmul rfl (by exact rfl) (by exact rfl) _ rfl (by omega)) ?_) | (refine wg_run (d := some 20) (by rfl) (rn_cgeq rfl (by exact rfl) (by exact rfl) true (decide_eq_true (by omega))) ?_) | (refine wg_run (d := some 20) (by rfl) (rn_cgeq rfl (by exact rfl) (by exact rfl) false (decide_eq_false (by omega))) ?_) | (refine wl_run (d := some 23) (rn_cmul rfl (by exact rfl) (by exact rfl) _ rfl (by omega)) ?_) | (refine wl_run (d := some 25) (rn_cadd rfl (by exact rfl) (by exact rfl) _ rfl (by omega)) ?_) | (refine wl_run (d := some 26) (rn_build _ rfl (by simp only [List.map_cons, List.map_nil, Act.eval, Act.put, List.setIfInBounds_toArray, List.set_cons_succ, List.set_cons_zero, gd_s, gd_0, U_cells, Y_cells, Value.cells]; exact rfl) (by exact Tmv.b0_1 ..)) ?_) | (refine wl_lit1 (d := some 27)  (el := 62) (sz := 5) hw (by simp only [Act.eval, Act.put, List.setIfInBounds_toArray, List.set_cons_succ, List.set_cons_zero, gd_s, gd_0, Value.cells]; exact rfl) (by kernel_rfl) (by kernel_rfl) (by kernel_rfl) (by exact Tmv.size _ _) (by omega) (by omega) ?_; clear hw; intro bL w hw; (try simp only [List.set_cons_succ, List.set_cons_zero, List.setIfInBounds_toArray, Value.cells, List.eraseIdx_cons_succ, List.eraseIdx_cons_zero] at hw)))
      (refine ret_tmp2 rfl _ _ rfl rfl rfl ?_)
      exact ⟨_, _, rfl, (Sat.gets hw (by repeat (first | exact Gets.nil | exact Gets.refl _ | refine Gets.get 0 rfl ?_ | refine Gets.get 1 rfl ?_ | refine Gets.get 2 rfl ?_ | refine Gets.get 3 rfl ?_ | refine Gets.get 4 rfl ?_ | refine Gets.get 5 rfl ?_ | refine Gets.get 6 rfl ?_ | refine Gets.get 7 rfl ?_ | refine Gets.get 8 rfl ?_ | refine Gets.get 9 rfl ?_ | refine Gets.drop ?_)))⟩)
  · have e1 := Kp.mk (show flipL ok a bit n = [] by
      unfold flipL; rw [if_neg]; simp only [Bool.and_eq_true, decide_eq_true_eq, and_assoc]; exact hg)
    have e2 := Kp.mk (show flipC ok bit n = 2 by
      unfold flipC; rw [if_neg]; simp only [Bool.and_eq_true, decide_eq_true_eq, and_assoc]; exact hg)
    rw [e1.out, e2.out]
    have hc : ok = false ∨ (ok = true ∧ bit < 0) ∨ (ok = true ∧ 0 ≤ bit ∧ n * 8 ≤ bit) := by
      cases ok
      · exact .inl rfl
      · by_cases h1 : bit < 0
        · exact .inr (.inl ⟨rfl, h1⟩)
        · exact .inr (.inr ⟨rfl, by omega, by
            rcases Int.lt_or_le bit (n * 8) with h2 | h2
            · exact absurd ⟨rfl, by omega, h2⟩ hg
            · exact h2⟩)
    clear hg
    rcases hn with rfl | rfl <;> rcases hc with rfl | ⟨rfl, h1⟩ | ⟨rfl, h1, h2⟩
    all_goals (
      go_enter Try.func30, Try.ntmps30
      go_wp2_with (first | (refine wg_run (d := some 14) (by rfl) (rn_clss rfl (by exact rfl) (by exact rfl) true (decide_eq_true (by omega))) ?_) | (refine wg_run (d := some 14) (by rfl) (rn_clss rfl (by exact rfl) (by exact rfl) false (decide_eq_false (by omega))) ?_) | (refine wg_run (d := some 19) (by rfl) (rn_cmul rfl (by exact rfl) (by exact rfl) _ rfl (by omega)) ?_) | (refine wg_run (d := some 20) (by rfl) (rn_cgeq rfl (by exact rfl) (by exact rfl) true (decide_eq_true (by omega))) ?_) | (refine wg_run (d := some 20) (by rfl) (rn_cgeq rfl (by exact rfl) (by exact rfl) false (decide_eq_false (by omega))) ?_) | (refine wl_run (d := some 23) (rn_cmul rfl (by exact rfl) (by exact rfl) _ rfl (by omega)) ?_) | (refine wl_run (d := some 25) (rn_cadd rfl (by exact rfl) (by exact rfl) _ rfl (by omega)) ?_) | (refine wl_run (d := some 26) (rn_build _ rfl (by simp only [List.map_cons, List.map_nil, Act.eval, Act.put, List.setIfInBounds_toArray, List.set_cons_succ, List.set_cons_zero, gd_s, gd_0, U_cells, Y_cells, Value.cells]; exact rfl) (by exact Tmv.b0_1 ..)) ?_) | (refine wl_lit1 (d := some 27)  (el := 62) (sz := 5) hw (by simp only [Act.eval, Act.put, List.setIfInBounds_toArray, List.set_cons_succ, List.set_cons_zero, gd_s, gd_0, Value.cells]; exact rfl) (by kernel_rfl) (by kernel_rfl) (by kernel_rfl) (by exact Tmv.size _ _) (by omega) (by omega) ?_; clear hw; intro bL w hw; (try simp only [List.set_cons_succ, List.set_cons_zero, List.setIfInBounds_toArray, Value.cells, List.eraseIdx_cons_succ, List.eraseIdx_cons_zero] at hw)))
      (refine ret_tmp2 rfl _ _ rfl rfl rfl ?_)
      exact ⟨none, 0, rfl, Row_nil (Sat.gets hw (by repeat (first | exact Gets.nil | exact Gets.refl _ | refine Gets.get 0 rfl ?_ | refine Gets.get 1 rfl ?_ | refine Gets.get 2 rfl ?_ | refine Gets.get 3 rfl ?_ | refine Gets.get 4 rfl ?_ | refine Gets.get 5 rfl ?_ | refine Gets.get 6 rfl ?_ | refine Gets.get 7 rfl ?_ | refine Gets.get 8 rfl ?_ | refine Gets.get 9 rfl ?_ | refine Gets.drop ?_)))⟩)
set_option maxRecDepth 100000 in
theorem prb_move {a b n : Int} (hw : Sat E w F) : Calls Try.prog 31 #[.int .i64 a, .int .i64 b, .int .i64 n] w fun e w' => e = .returned (.agg (tmN ⟨3, a, b, n⟩)) ∧ Sat E w' F := by
  go_enter Try.func31, Try.ntmps31
  go_wp2_with (first
    | (refine wl_alloc hw tmN_zero ?_; clear hw; intro b6 w hw; (try simp only [List.set_cons_succ, List.set_cons_zero, List.setIfInBounds_toArray, Value.cells, List.eraseIdx_cons_succ, List.eraseIdx_cons_zero] at hw))
    | (refine wb_storeA hw rfl rfl (by exact Upd.mk 0 rfl) (by rw [tm_info, tmN_size]) (by rw [tmN_size, tmN_size]) (by exact tmN_one _) ?_; clear hw; intro w hw; (try simp only [List.set_cons_succ, List.set_cons_zero, List.setIfInBounds_toArray, Value.cells, List.eraseIdx_cons_succ, List.eraseIdx_cons_zero] at hw))
    | (refine wl_run (rn_tm01 rfl (by exact rfl) (by exact rfl)) ?_)
    | (refine wl_run (rn_tm03 rfl (by exact rfl) (by exact rfl)) ?_)
    | (refine wl_run (rn_tm0123 rfl (by exact rfl) (by exact rfl) (by exact rfl) (by exact rfl)) ?_)
    | (refine wl_lit1 (el := 62) (sz := 5) hw (by simp only [Act.eval, Act.put, List.setIfInBounds_toArray, List.set_cons_succ, List.set_cons_zero, gd_s, gd_0, Value.cells]; exact rfl) (by kernel_rfl) (by kernel_rfl) (by kernel_rfl) (by exact tmN_size _) (by omega) (by omega) ?_; clear hw; intro bL w hw; (try simp only [List.set_cons_succ, List.set_cons_zero, List.setIfInBounds_toArray, Value.cells, List.eraseIdx_cons_succ, List.eraseIdx_cons_zero] at hw); replace hw := row_of1 (f := tmN) hw (tmN_size _))
    | (refine wl_alloc (d := some 6) hw tm_zero ?_; clear hw; intro b6 w hw; (try simp only [List.set_cons_succ, List.set_cons_zero, List.setIfInBounds_toArray, Value.cells, List.eraseIdx_cons_succ, List.eraseIdx_cons_zero] at hw)) | (refine wl_run (d := some 10) (rn_build _ rfl (by simp only [List.map_cons, List.map_nil, Act.eval, Act.put, List.setIfInBounds_toArray, List.set_cons_succ, List.set_cons_zero, gd_s, gd_0, U_cells, Y_cells, Value.cells]; exact rfl) (by exact Tmv.b0_1_2_3 ..)) ?_) | (refine wb_storeA (x := Operand.tmp 6) hw rfl rfl (by first | exact Upd.mk 0 rfl | exact Upd.mk 1 rfl | exact Upd.mk 2 rfl | exact Upd.mk 3 rfl | exact Upd.mk 4 rfl | exact Upd.mk 5 rfl | exact Upd.mk 6 rfl | exact Upd.mk 7 rfl | exact Upd.mk 8 rfl) (by rw [tm_info, Tmv.size]) (by rw [Tmv.size, Tmv.size]) (by exact Tmv.one _) ?_; clear hw; intro w hw; (try simp only [List.set_cons_succ, List.set_cons_zero, List.setIfInBounds_toArray, Value.cells, List.eraseIdx_cons_succ, List.eraseIdx_cons_zero] at hw)))
  refine ret_cell rfl hw rfl 0 rfl (by rw [tm_agg, tmN_size]) rfl ?_
  exact ⟨rfl, (Sat.gets hw (by repeat (first | exact Gets.nil | exact Gets.refl _ | refine Gets.get 0 rfl ?_ | refine Gets.get 1 rfl ?_ | refine Gets.get 2 rfl ?_ | refine Gets.get 3 rfl ?_ | refine Gets.get 4 rfl ?_ | refine Gets.get 5 rfl ?_ | refine Gets.get 6 rfl ?_ | refine Gets.get 7 rfl ?_ | refine Gets.get 8 rfl ?_ | refine Gets.get 9 rfl ?_ | refine Gets.drop ?_)))⟩
set_option maxRecDepth 100000 in
set_option maxHeartbeats 4000000 in
theorem prb_item {n : Int} (hw : Sat E w F) (hrt : rightB p = true) (hn : i64B n) : Calls Try.prog 29 #[.agg p.cs, .int .i64 n] w fun e w' => e = .returned (.tuple #[.int .i64 (partA p 3 n), .bool (partB p 3 n)]) ∧ Sat E w' F := by
  unfold i64B at hn
  have hsh := (rightB_iff.1 hrt).1
  have pA : ∀ n, partA p 3 n = if itB p n then allI p * 40 + n * 32 else 0 := fun n => rfl
  have pB : ∀ n, partB p 3 n = itB p n := fun n => rfl
  by_cases h0 : n < 0
  · have e1 := Kp.mk (show itB p n = false by unfold itB; simp; intros; omega)
    rw [pA, pB, e1.out]
    go_enter Try.func29, Try.ntmps29
    go_wp2_with (first | (refine wl_box (d := some 2) hw _ (by simp only [Act.eval, Act.put, List.setIfInBounds_toArray, List.set_cons_succ, List.set_cons_zero, gd_s, gd_0, Value.cells]; exact rfl) ?_; clear hw; intro b2 w hw; (try simp only [List.set_cons_succ, List.set_cons_zero, List.setIfInBounds_toArray, Value.cells, List.eraseIdx_cons_succ, List.eraseIdx_cons_zero] at hw)) | (refine wl_run (d := some 9) (rn_clss rfl (by exact rfl) (by exact rfl) true (decide_eq_true (by omega))) ?_) | (refine wl_run (d := some 9) (rn_clss rfl (by exact rfl) (by exact rfl) false (decide_eq_false (by omega))) ?_))
    (refine ret_tmp2 rfl _ _ rfl rfl rfl ?_)
    exact ⟨rfl, (Sat.gets hw (by repeat (first | exact Gets.nil | exact Gets.refl _ | refine Gets.get 0 rfl ?_ | refine Gets.get 1 rfl ?_ | refine Gets.get 2 rfl ?_ | refine Gets.get 3 rfl ?_ | refine Gets.get 4 rfl ?_ | refine Gets.get 5 rfl ?_ | refine Gets.get 6 rfl ?_ | refine Gets.get 7 rfl ?_ | refine Gets.get 8 rfl ?_ | refine Gets.get 9 rfl ?_ | refine Gets.drop ?_)))⟩
  · obtain ⟨m, rfl⟩ : ∃ m : Nat, n = m := ⟨n.toNat, by omega⟩
    obtain ⟨ws, hws⟩ : ∃ ws, Kp (wsOf p = ws) := ⟨_, Kp.mk rfl⟩
    obtain ⟨L, hL⟩ : ∃ L, Kp (ws.length = L) := ⟨_, Kp.mk rfl⟩
    have hwl := ws_len hsh
    have hsW := sumW_le (ws_mem hsh)
    rw [hws.out, hL.out] at hwl hsW
    have hlv := Kp.mk (show lvN p = (L : Int) by rw [lvN_eq hsh, hws.out, hL.out])
    have hwk := Kp.mk (show ∀ k : Nat, wd p k = (ws.getD k 0 : Nat) by intro k; rw [wd_at hsh k, hws.out])
    have hmono := Kp.mk (show ∀ k, k < L → sumW ws (k + 1) ≤ totN p by
      intro k hk
      unfold totN
      rw [hws.out, hL.out]
      have : ∀ d k, sumW ws k ≤ sumW ws (k + d) := by
        intro d
        induction d with
        | zero => intro k; exact Nat.le_refl _
        | succ d ih => intro k; rw [← Nat.add_assoc, sumW_succ]; have := ih k; omega
      have := this (L - (k + 1)) (k + 1)
      rw [show k + 1 + (L - (k + 1)) = L by omega] at this
      exact this)
    have htot := Kp.mk (show totN p = sumW ws L by unfold totN; rw [hws.out, hL.out])
    go_enter Try.func29, Try.ntmps29
    go_wp2_with (first
      | (go_at_call 56; go_must (refine (Calls.mono (pl_levels (p := p) hw) ?_)); clear hw; rintro e w ⟨rfl, hw⟩; rw [hlv.out]; (try simp only [List.set_cons_succ, List.set_cons_zero, List.setIfInBounds_toArray, Value.cells, List.eraseIdx_cons_succ, List.eraseIdx_cons_zero] at hw))
      | (refine wl_box (d := some 2) hw _ (by simp only [Act.eval, Act.put, List.setIfInBounds_toArray, List.set_cons_succ, List.set_cons_zero, gd_s, gd_0, Value.cells]; exact rfl) ?_; clear hw; intro b2 w hw; (try simp only [List.set_cons_succ, List.set_cons_zero, List.setIfInBounds_toArray, Value.cells, List.eraseIdx_cons_succ, List.eraseIdx_cons_zero] at hw)) | (refine wl_run (d := some 9) (rn_clss rfl (by exact rfl) (by exact rfl) true (decide_eq_true (by omega))) ?_) | (refine wl_run (d := some 9) (rn_clss rfl (by exact rfl) (by exact rfl) false (decide_eq_false (by omega))) ?_) | (refine wb_loadA (d := some 10)  rfl (by first | exact hw.read 0 rfl | exact hw.read 1 rfl | exact hw.read 2 rfl | exact hw.read 3 rfl | exact hw.read 4 rfl | exact hw.read 5 rfl | exact hw.read 6 rfl | exact hw.read 7 rfl | exact hw.read 8 rfl) (by rw [plan_agg, Pl.size]) ?_))
    go_loopw [1, 12] (fun q i wr => ∃ k : Nat, k ≤ L ∧ i = .int .i64 k ∧ sumW ws k ≤ m ∧ q = .int .i64 (m - sumW ws k : Nat) ∧ Sat E wr (pt b2 (.cells p.cs 28 (0, 0)) :: F)) (fun _ i _ => L - (intOf i).toNat)
    case atStart => exact ⟨0, by omega, rfl, by unfold sumW; simp, by unfold sumW; simp, hw⟩
    case round =>
      clear hw
      obtain ⟨k, hk, rfl, hle, rfl, hw⟩ := hrel
      by_cases hlt : k < L
      · obtain ⟨W, hW⟩ : ∃ W, Kp (ws.getD k 0 = W) := ⟨_, Kp.mk rfl⟩
        obtain ⟨S, hS⟩ : ∃ S, Kp (sumW ws k = S) := ⟨_, Kp.mk rfl⟩
        have hwW := Kp.mk (show wd p (k : Int) = (W : Int) by rw [hwk.out k, hW.out])
        have hs1 := Kp.mk (show sumW ws (k + 1) = S + W by rw [sumW_succ, hS.out, hW.out])
        rw [hS.out] at hle ⊢
        obtain ⟨r, hr⟩ : ∃ r : Nat, m - S = r := ⟨_, rfl⟩
        have hmr : m = S + r := by omega
        subst hmr
        rw [hr]
        clear hr hle
        by_cases hrW : r < W
        · have hit := Kp.mk (show itB p ((S + r : Nat) : Int) = true by
            unfold itB
            have := hmono.out k hlt
            rw [hs1.out] at this
            rw [hrt]; simp; omega)
          have hK := Kp.mk (show k < (wsOf p).length by rw [hws.out, hL.out]; exact hlt)
          have hrd := Kp.mk (show (r : Int) < wd p k by rw [hwW.out]; omega)
          have hval := Kp.mk (show allI p * 40 + (((sumW (wsOf p) k : Nat) : Int) + (r : Int)) * 32 = allI p * 40 + ((S + r : Nat) : Int) * 32 by rw [hws.out, hS.out]; omega)
          go_wp2_with (first
            | (go_at_call 57; go_must (refine (Calls.mono (pl_width (p := p) (l := (k : Int)) hw) ?_)); clear hw; rintro e w ⟨rfl, hw⟩; rw [hwW.out]; (try simp only [List.set_cons_succ, List.set_cons_zero, List.setIfInBounds_toArray, Value.cells, List.eraseIdx_cons_succ, List.eraseIdx_cons_zero] at hw))
            | (go_at_call 58; go_must (refine (Calls.mono (reg_Item (p := p) (k := k) (i := (r : Int)) hw hrt hK.out (by omega) hrd.out) ?_)); clear hw; rintro e w ⟨rfl, hw⟩; rw [hval.out]; (try simp only [List.set_cons_succ, List.set_cons_zero, List.setIfInBounds_toArray, Value.cells, List.eraseIdx_cons_succ, List.eraseIdx_cons_zero] at hw))
            | (refine wl_run (d := some 13) (rn_clss rfl (by exact rfl) (by exact rfl) true (decide_eq_true (by omega))) ?_) | (refine wl_run (d := some 13) (rn_clss rfl (by exact rfl) (by exact rfl) false (decide_eq_false (by omega))) ?_) | (refine wb_loadA (d := some 15)  rfl (by first | exact hw.read 0 rfl | exact hw.read 1 rfl | exact hw.read 2 rfl | exact hw.read 3 rfl | exact hw.read 4 rfl | exact hw.read 5 rfl | exact hw.read 6 rfl | exact hw.read 7 rfl | exact hw.read 8 rfl) (by rw [plan_agg, Pl.size]) ?_) | (refine wl_run (d := some 20) (rn_clss rfl (by exact rfl) (by exact rfl) true (decide_eq_true (by omega))) ?_) | (refine wl_run (d := some 20) (rn_clss rfl (by exact rfl) (by exact rfl) false (decide_eq_false (by omega))) ?_) | (refine wb_loadA (d := some 21)  rfl (by first | exact hw.read 0 rfl | exact hw.read 1 rfl | exact hw.read 2 rfl | exact hw.read 3 rfl | exact hw.read 4 rfl | exact hw.read 5 rfl | exact hw.read 6 rfl | exact hw.read 7 rfl | exact hw.read 8 rfl) (by rw [plan_agg, Pl.size]) ?_) | (refine wl_run (d := some 24) (rn_build _ rfl (by simp only [List.map_cons, List.map_nil, Act.eval, Act.put, List.setIfInBounds_toArray, List.set_cons_succ, List.set_cons_zero, gd_s, gd_0, U_cells, Y_cells, Value.cells]; exact rfl) (by exact Itv.b0_1 ..)) ?_))
          (refine ret_tmp2 rfl _ _ rfl rfl rfl ?_)
          exact ⟨by rw [pA, pB, hit.out]; rfl, (Sat.gets hw (by repeat (first | exact Gets.nil | exact Gets.refl _ | refine Gets.get 0 rfl ?_ | refine Gets.get 1 rfl ?_ | refine Gets.get 2 rfl ?_ | refine Gets.get 3 rfl ?_ | refine Gets.get 4 rfl ?_ | refine Gets.get 5 rfl ?_ | refine Gets.get 6 rfl ?_ | refine Gets.get 7 rfl ?_ | refine Gets.get 8 rfl ?_ | refine Gets.get 9 rfl ?_ | refine Gets.drop ?_)))⟩
        · go_wp2_with (first
            | (go_at_call 57; go_must (refine (Calls.mono (pl_width (p := p) (l := (k : Int)) hw) ?_)); clear hw; rintro e w ⟨rfl, hw⟩; rw [hwW.out]; (try simp only [List.set_cons_succ, List.set_cons_zero, List.setIfInBounds_toArray, Value.cells, List.eraseIdx_cons_succ, List.eraseIdx_cons_zero] at hw))
            | (refine wl_run (d := some 13) (rn_clss rfl (by exact rfl) (by exact rfl) true (decide_eq_true (by omega))) ?_) | (refine wl_run (d := some 13) (rn_clss rfl (by exact rfl) (by exact rfl) false (decide_eq_false (by omega))) ?_) | (refine wb_loadA (d := some 15)  rfl (by first | exact hw.read 0 rfl | exact hw.read 1 rfl | exact hw.read 2 rfl | exact hw.read 3 rfl | exact hw.read 4 rfl | exact hw.read 5 rfl | exact hw.read 6 rfl | exact hw.read 7 rfl | exact hw.read 8 rfl) (by rw [plan_agg, Pl.size]) ?_) | (refine wl_run (d := some 20) (rn_clss rfl (by exact rfl) (by exact rfl) true (decide_eq_true (by omega))) ?_) | (refine wl_run (d := some 20) (rn_clss rfl (by exact rfl) (by exact rfl) false (decide_eq_false (by omega))) ?_) | (refine wb_loadA (d := some 21)  rfl (by first | exact hw.read 0 rfl | exact hw.read 1 rfl | exact hw.read 2 rfl | exact hw.read 3 rfl | exact hw.read 4 rfl | exact hw.read 5 rfl | exact hw.read 6 rfl | exact hw.read 7 rfl | exact hw.read 8 rfl) (by rw [plan_agg, Pl.size]) ?_) | (refine wl_run (d := some 24) (rn_build _ rfl (by simp only [List.map_cons, List.map_nil, Act.eval, Act.put, List.setIfInBounds_toArray, List.set_cons_succ, List.set_cons_zero, gd_s, gd_0, U_cells, Y_cells, Value.cells]; exact rfl) (by exact Itv.b0_1 ..)) ?_) | (refine wl_run (d := some 30) (rn_csub rfl (by exact rfl) (by exact rfl) _ rfl (by omega)) ?_) | (refine wl_run (d := some 31) (rn_cadd rfl (by exact rfl) (by exact rfl) _ rfl (by omega)) ?_))
          go_roundw
          case rel =>
            (repeat apply Exists.intro)
            exact ⟨⟨k + 1, by omega, by go_num, by rw [hs1.out]; omega, by rw [hs1.out]; go_num, hw⟩, rfl⟩
          case measure => simp [intOf]; omega
      · obtain rfl : L = k := by omega
        have hit := Kp.mk (show itB p (m : Int) = false by
          unfold itB; rw [htot.out]; simp; intros; omega)
        go_wp2_with (first | (refine wl_run (d := some 13) (rn_clss rfl (by exact rfl) (by exact rfl) true (decide_eq_true (by omega))) ?_) | (refine wl_run (d := some 13) (rn_clss rfl (by exact rfl) (by exact rfl) false (decide_eq_false (by omega))) ?_))
        (refine ret_tmp2 rfl _ _ rfl rfl rfl ?_)
        exact ⟨by rw [pA, pB, hit.out]; rfl, (Sat.gets hw (by repeat (first | exact Gets.nil | exact Gets.refl _ | refine Gets.get 0 rfl ?_ | refine Gets.get 1 rfl ?_ | refine Gets.get 2 rfl ?_ | refine Gets.get 3 rfl ?_ | refine Gets.get 4 rfl ?_ | refine Gets.get 5 rfl ?_ | refine Gets.get 6 rfl ?_ | refine Gets.get 7 rfl ?_ | refine Gets.get 8 rfl ?_ | refine Gets.get 9 rfl ?_ | refine Gets.drop ?_)))⟩
end
end Go.Proofs.Ytklhmlplabkoeaa
