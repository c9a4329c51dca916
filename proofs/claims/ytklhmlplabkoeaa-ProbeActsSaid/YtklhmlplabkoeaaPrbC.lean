/- The law ProbeActs: what an adversary does for any plot against any plan. Conditions: none. -/
import Derived.Test.YtklhmlplabkoeaaPrbD
import Derived.Test.YtklhmlplabkoeaaPlF
set_option linter.unusedVariables false
set_option linter.unusedSimpArgs false
namespace Go.Proofs.Ytklhmlplabkoeaa
open Go.RowKit Go.Bst Go.MapKept Go.Proofs.YtklhmlplabkoeaaW.PrintLast
theorem plan_build0 : buildC Try.prog 28 [] = some Pl.zero.cs := by rw [Pl.zero_cs]; kernel_rfl
theorem Pl.zero_ok : Pl.zero.Ok := by
  have z : i64B 0 := by unfold i64B; decide
  exact ⟨z, z, z, z, z, z, by decide, z, z, z, z, z, z, z⟩
theorem Plo.b0_3 (a0 : Int) (a3 : Int) : buildC Try.prog 51 [(0, #[.int .i64 a0]), (3, #[.int .i64 a3])] = some (({ Plo.zero with kind := a0, bit := a3 } : Plo).cs) := by unfold Plo.cs; kernel_rfl
theorem plotF_ex : plotF (fitP Pl.zero) ⟨1, 0, 0, 9⟩ = ([⟨2, 9, 0, 0⟩], 0) := by
  have h := rightB_fit Pl.zero
  have h1 := allI_in h
  have hl : lineB (fitP Pl.zero) 0 = true := by unfold lineB; rw [h]; simp; omega
  unfold plotF
  rw [if_neg (by rw [h]; decide), if_pos rfl]
  unfold partB partA
  simp only [if_true, true_or, hl]
  rfl
theorem row_gb {E : Env} {w : World} {H : List HP} {e : TypeId} {sz n c : Nat} {A : Option Addr} {xs : List Value} (s : Sat E w H) (k : Nat) (hk : H[k]? = some (Row e sz (.slice A n c) n xs)) (h : 0 < n) : ∃ gb, A = some ⟨gb, 0, none⟩ := by
  obtain ⟨B, cap, e, _, h2⟩ := Row_val s k hk
  injection e with e1 e2 e3
  subst e1
  exact h2 h
section
variable {E : Env} {w : World} {F : List HP} {p : Pl} {x : Plo}
theorem prb_same {t : Tmv} (hw : Sat E w F) : Calls Try.prog 13 #[.agg (tmN t), .agg (tmN t)] w fun e w' => e = .returned (.bool true) ∧ Sat E w' F :=
  ref_SameTamper (l := []) hw (fun w' _ => Rd.nil _ _) (fun w' _ => Rd.nil _ _) (by decide)
attribute [local irreducible] tmN wI partA partB flipL flipC plotF wpList Calls Code.wp Code.wpN Oper.wp Go.Proofs.YtklhmlplabkoeaaW.PrintLast.wpAnyLast
set_option maxRecDepth 100000 in
set_option maxHeartbeats 4000000 in
theorem law26_speaks (hw : Sat E w F) : Calls Try.prog 10 #[] w fun e w' => e = .returned (.bool true) ∧ Sat E w' F := by
  have z : i64B 0 := by unfold i64B; decide
  have hx : Plo.Ok ⟨1, 0, 0, 9⟩ := ⟨by unfold i64B; decide, z, z, by unfold i64B; decide⟩
  have e := Kp.mk plotF_ex
  have hc0 := Kp.mk (show (flat ([Tmv.mk 2 9 0 0].map tmN))[0]? = some (.int .i64 2) from rowN_cells (f := tmN) (k := 0) tmN_size rfl 0 _ (by unfold tmN; simpa using Tmv.c0 _ _))
  have hc1 := Kp.mk (show (flat ([Tmv.mk 2 9 0 0].map tmN))[1]? = some (.int .i64 9) from rowN_cells (f := tmN) (k := 0) tmN_size rfl 1 _ (by unfold tmN; simpa using Tmv.c1 _ _))
  go_enter Try.func10, Try.ntmps10
  go_upto_region 2 with (first
    | (refine wl_run (rn_build (cp := []) _ rfl rfl plan_build0) ?_)
    | (go_at_call 16; go_must (refine (Calls.mono (ref_Fit (p := Pl.zero) hw Pl.zero_ok) ?_)); clear hw; rintro e w ⟨rfl, hw⟩; (try simp only [List.set_cons_succ, List.set_cons_zero, List.setIfInBounds_toArray, Value.cells, List.eraseIdx_cons_succ, List.eraseIdx_cons_zero] at hw))
    | (go_at_call 11; go_must (refine (Calls.mono (prb_Acts (p := fitP Pl.zero) (x := ⟨1, 0, 0, 9⟩) hw hx) ?_)); clear hw; rintro e w ⟨A, c, rfl, hw⟩; rw [e.out] at hw ⊢; dsimp only at hw; (try simp only [List.set_cons_succ, List.set_cons_zero, List.setIfInBounds_toArray, Value.cells, List.eraseIdx_cons_succ, List.eraseIdx_cons_zero] at hw))
    | (refine wl_run (d := some 4) (rn_build _ rfl (by simp only [List.map_cons, List.map_nil, Act.eval, Act.put, List.setIfInBounds_toArray, List.set_cons_succ, List.set_cons_zero, gd_s, gd_0, U_cells, Y_cells, Value.cells]; exact rfl) (by exact Pl.b ..)) ?_) | (refine wl_run (d := some 6) (rn_build _ rfl (by simp only [List.map_cons, List.map_nil, Act.eval, Act.put, List.setIfInBounds_toArray, List.set_cons_succ, List.set_cons_zero, gd_s, gd_0, U_cells, Y_cells, Value.cells]; exact rfl) (by exact Plo.b0_3 ..)) ?_))
  obtain ⟨gb, rfl⟩ := row_gb (n := 1) hw 0 rfl (by decide)
  go_wp2_with (first
    | (refine wg_run (by rfl) (rn_rowIdx rfl hw 0 rfl rfl 0 0 rfl rfl (by kernel_rfl) (by kernel_rfl) (by decide)) ?_)
    | (refine wg_run (d := some 21) (by rfl) (rn_rowLd1 rfl hw 0 rfl rfl (by decide +kernel) _ hc0.out) ?_)
    | (refine wg_run (d := some 28) (by rfl) (rn_rowLd1 rfl hw 0 rfl rfl (by decide +kernel) _ hc1.out) ?_)
    | (refine wl_run (d := some 11) (rn_ceql rfl (by exact rfl) (by exact rfl) true (decide_eq_true (by omega))) ?_) | (refine wl_run (d := some 11) (rn_ceql rfl (by exact rfl) (by exact rfl) false (decide_eq_false (by omega))) ?_) | (refine wg_run (d := some 15) (by rfl) (rn_ceql rfl (by exact rfl) (by exact rfl) true (decide_eq_true (by omega))) ?_) | (refine wg_run (d := some 15) (by rfl) (rn_ceql rfl (by exact rfl) (by exact rfl) false (decide_eq_false (by omega))) ?_) | (refine wg_run (d := some 22) (by rfl) (rn_ceql rfl (by exact rfl) (by exact rfl) true (decide_eq_true (by omega))) ?_) | (refine wg_run (d := some 22) (by rfl) (rn_ceql rfl (by exact rfl) (by exact rfl) false (decide_eq_false (by omega))) ?_) | (refine wg_run (d := some 29) (by rfl) (rn_ceql rfl (by exact rfl) (by exact rfl) true (decide_eq_true (by omega))) ?_) | (refine wg_run (d := some 29) (by rfl) (rn_ceql rfl (by exact rfl) (by exact rfl) false (decide_eq_false (by omega))) ?_))
  go_ret
  exact ⟨rfl, (Sat.gets hw (by repeat (first | exact Gets.nil | exact Gets.refl _ | refine Gets.get 0 rfl ?_ | refine Gets.get 1 rfl ?_ | refine Gets.get 2 rfl ?_ | refine Gets.get 3 rfl ?_ | refine Gets.get 4 rfl ?_ | refine Gets.get 5 rfl ?_ | refine Gets.get 6 rfl ?_ | refine Gets.get 7 rfl ?_ | refine Gets.get 8 rfl ?_ | refine Gets.get 9 rfl ?_ | refine Gets.drop ?_)))⟩
set_option maxRecDepth 100000 in
set_option maxHeartbeats 4000000 in
theorem law_ProbeActs {W : World} (hp : p.Ok) (hx : Plo.Ok x) :
    Calls Try.prog 4 #[.agg p.cs, .agg x.cs] W fun e w' => e = .returned (.bool true) ∧ Sat (World.env W) w' [Old W] := by
  have hw : Sat (World.env W) W [Old W] := Sat.init W
  generalize hw0 : W = w at hw ⊢
  subst hw0
  obtain ⟨l, hl⟩ : ∃ l, Kp ((plotF p x).1 = l) := ⟨_, Kp.mk rfl⟩
  obtain ⟨co, hco⟩ : ∃ co, Kp ((plotF p x).2 = co) := ⟨_, Kp.mk rfl⟩
  obtain ⟨n, hn⟩ : ∃ n, Kp (l.length = n) := ⟨_, Kp.mk rfl⟩
  have hn10 : n ≤ 2 := by
    rw [← hn.out, ← hl.out]
    unfold plotF
    repeat' split
    all_goals (first | ((unfold flipL; split) <;> simp) | simp)
  go_enter Try.func4, Try.ntmps4
  go_wp2_with (first
    | (go_at_call 10; go_must (refine (Calls.mono (law26_speaks hw) ?_)); clear hw; rintro e w ⟨rfl, hw⟩; (try simp only [List.set_cons_succ, List.set_cons_zero, List.setIfInBounds_toArray, Value.cells, List.eraseIdx_cons_succ, List.eraseIdx_cons_zero] at hw))
    | (go_at_call 11; go_must (refine (Calls.mono (prb_Acts (p := p) (x := x) hw hx) ?_)); clear hw; rintro e w ⟨A1, c1, rfl, hw⟩; rw [hl.out, hco.out, hn.out]; rw [hl.out, hn.out] at hw; (try simp only [List.set_cons_succ, List.set_cons_zero, List.setIfInBounds_toArray, Value.cells, List.eraseIdx_cons_succ, List.eraseIdx_cons_zero] at hw))
    | (go_at_call 12; go_must (refine (Calls.mono (ref_Acts (p := p) (x := x) hw hp hx) ?_)); clear hw; rintro e w ⟨A2, c2, rfl, hw⟩; rw [hl.out, hco.out, hn.out]; rw [hl.out, hn.out] at hw; (try simp only [List.set_cons_succ, List.set_cons_zero, List.setIfInBounds_toArray, Value.cells, List.eraseIdx_cons_succ, List.eraseIdx_cons_zero] at hw))
    | (refine wl_box (d := some 2) hw _ (by simp only [Act.eval, Act.put, List.setIfInBounds_toArray, List.set_cons_succ, List.set_cons_zero, gd_s, gd_0, Value.cells]; exact rfl) ?_; clear hw; intro b2 w hw; (try simp only [List.set_cons_succ, List.set_cons_zero, List.setIfInBounds_toArray, Value.cells, List.eraseIdx_cons_succ, List.eraseIdx_cons_zero] at hw)) | (refine wl_box (d := some 3) hw _ (by simp only [Act.eval, Act.put, List.setIfInBounds_toArray, List.set_cons_succ, List.set_cons_zero, gd_s, gd_0, Value.cells]; exact rfl) ?_; clear hw; intro b3 w hw; (try simp only [List.set_cons_succ, List.set_cons_zero, List.setIfInBounds_toArray, Value.cells, List.eraseIdx_cons_succ, List.eraseIdx_cons_zero] at hw)) | (refine wb_loadA (d := some 13)  rfl (by first | exact hw.read 0 rfl | exact hw.read 1 rfl | exact hw.read 2 rfl | exact hw.read 3 rfl | exact hw.read 4 rfl | exact hw.read 5 rfl | exact hw.read 6 rfl | exact hw.read 7 rfl | exact hw.read 8 rfl) (by rw [plan_agg, Pl.size]) ?_) | (refine wb_loadA (d := some 14)  rfl (by first | exact hw.read 0 rfl | exact hw.read 1 rfl | exact hw.read 2 rfl | exact hw.read 3 rfl | exact hw.read 4 rfl | exact hw.read 5 rfl | exact hw.read 6 rfl | exact hw.read 7 rfl | exact hw.read 8 rfl) (by rw [Plo.agz, Plo.size]) ?_) | (refine wb_loadA (d := some 19)  rfl (by first | exact hw.read 0 rfl | exact hw.read 1 rfl | exact hw.read 2 rfl | exact hw.read 3 rfl | exact hw.read 4 rfl | exact hw.read 5 rfl | exact hw.read 6 rfl | exact hw.read 7 rfl | exact hw.read 8 rfl) (by rw [plan_agg, Pl.size]) ?_) | (refine wb_loadA (d := some 20)  rfl (by first | exact hw.read 0 rfl | exact hw.read 1 rfl | exact hw.read 2 rfl | exact hw.read 3 rfl | exact hw.read 4 rfl | exact hw.read 5 rfl | exact hw.read 6 rfl | exact hw.read 7 rfl | exact hw.read 8 rfl) (by rw [Plo.agz, Plo.size]) ?_) | (refine wl_run (d := some 26) (rn_cneq rfl (by exact rfl) (by exact rfl) true (decide_eq_true (by omega))) ?_) | (refine wl_run (d := some 26) (rn_cneq rfl (by exact rfl) (by exact rfl) false (decide_eq_false (by omega))) ?_) | (refine wg_run (d := some 32) (by rfl) (rn_cneq rfl (by exact rfl) (by exact rfl) true (decide_eq_true (by omega))) ?_) | (refine wg_run (d := some 32) (by rfl) (rn_cneq rfl (by exact rfl) (by exact rfl) false (decide_eq_false (by omega))) ?_) | (refine wl_run (d := some 37) (rn_clss rfl (by exact rfl) (by exact rfl) true (decide_eq_true (by omega))) ?_) | (refine wl_run (d := some 37) (rn_clss rfl (by exact rfl) (by exact rfl) false (decide_eq_false (by omega))) ?_) | (refine wl_run (d := some 49) (rn_cadd rfl (by exact rfl) (by exact rfl) _ rfl (by omega)) ?_))
  go_loopw [36] (fun i wr => ∃ k : Nat, k ≤ n ∧ i = .int .i64 k ∧ Sat (World.env W) wr (RowN 62 5 (.slice A2 n c2) n tmN l :: RowN 62 5 (.slice A1 n c1) n tmN l :: pt b3 (.cells x.cs 51 (0, 0)) :: pt b2 (.cells p.cs 28 (0, 0)) :: [Old W])) (fun i _ => n - (intOf i).toNat)
  case atStart => exact ⟨0, by omega, rfl, hw⟩
  case round =>
    clear hw
    obtain ⟨k, hk, rfl, hw⟩ := hrel
    by_cases hlt : k < n
    · obtain ⟨g2, rfl⟩ := row_gb (n := n) hw 0 rfl (by omega)
      obtain ⟨g1, rfl⟩ := row_gb (n := n) hw 1 rfl (by omega)
      obtain ⟨t, ht⟩ : ∃ t, l[k]? = some t := ⟨_, List.getElem?_eq_getElem (by rw [hn.out]; exact hlt)⟩
      have hc := Kp.mk (rowN_cells (f := tmN) tmN_size ht)
      clear ht
      go_upto_region 10 with (first | (refine wl_run (d := some 37) (rn_clss rfl (by exact rfl) (by exact rfl) true (decide_eq_true (by omega))) ?_) | (refine wl_run (d := some 37) (rn_clss rfl (by exact rfl) (by exact rfl) false (decide_eq_false (by omega))) ?_))
      have hS0 := hw.gets (Gets.get 0 rfl (Gets.get 0 rfl Gets.nil))
      refine startS (ds := []) hS0 #[false, false, false, false, false, false, false, false, false, false] (by kernel_rfl) rfl (by rfl) ?_
      clear hS0; intro hS
      replace hw := hw.drew; generalize w.drew = w at hw hS ⊢
      (refine pureE (i := 0) (oi := { dst := some 39, op := Op.move (Operand.tmp 5), type := 52, pos := "law.go:34", after := #[], guard := none }) (N := some 39) #[true, false, false, false, false, false, false, false, false, false] rfl rfl (by kernel_rfl) (fun _ _ _ _ h => h) ?_; apply Exists.intro; refine ⟨Or.inl ⟨by rfl, ?_⟩, ?_⟩; · (intro w0; go_simp; try with_reducible rfl))
      try simp only [Act.put, List.setIfInBounds_toArray, List.set_cons_succ, List.set_cons_zero]
      (refine pureE (i := 1) (oi := { dst := some 40, op := Op.move (Operand.tmp 9), type := 3, pos := "law.go:34", after := #[], guard := none }) (N := some 40) #[true, true, false, false, false, false, false, false, false, false] rfl rfl (by kernel_rfl) (fun _ _ _ _ h => h) ?_; apply Exists.intro; refine ⟨Or.inl ⟨by rfl, ?_⟩, ?_⟩; · (intro w0; go_simp; try with_reducible rfl))
      try simp only [Act.put, List.setIfInBounds_toArray, List.set_cons_succ, List.set_cons_zero]
      (refine pureE (i := 4) (oi := { dst := some 43, op := Op.move (Operand.tmp 7), type := 52, pos := "law.go:34", after := #[], guard := none }) (N := some 43) #[true, true, false, false, true, false, false, false, false, false] rfl rfl (by kernel_rfl) (fun _ _ _ _ h => h) ?_; apply Exists.intro; refine ⟨Or.inl ⟨by rfl, ?_⟩, ?_⟩; · (intro w0; go_simp; try with_reducible rfl))
      try simp only [Act.put, List.setIfInBounds_toArray, List.set_cons_succ, List.set_cons_zero]
      (refine pureE (i := 5) (oi := { dst := some 44, op := Op.move (Operand.tmp 9), type := 3, pos := "law.go:34", after := #[], guard := none }) (N := some 44) #[true, true, false, false, true, true, false, false, false, false] rfl rfl (by kernel_rfl) (fun _ _ _ _ h => h) ?_; apply Exists.intro; refine ⟨Or.inl ⟨by rfl, ?_⟩, ?_⟩; · (intro w0; go_simp; try with_reducible rfl))
      try simp only [Act.put, List.setIfInBounds_toArray, List.set_cons_succ, List.set_cons_zero]
      (refine takeE (i := 2) (oi := { dst := some 41, op := Op.indexAddr 52 (Operand.tmp 39) (Operand.tmp 40), type := 0, pos := "law.go:34", after := #[{ on := 0, ground := Ground.data }, { on := 1, ground := Ground.data }], guard := none }) (N := some 41) #[true, true, true, false, true, true, false, false, false, false] rfl rfl (by kernel_rfl) (fun _ _ _ _ h => h) hS ?_; apply Exists.intro; refine ⟨Or.inl ⟨by rfl, ?_⟩, ?_⟩; · (intro w0 h; first | (exact rn_rowIdx rfl h 0 rfl rfl k (k * 5) rfl rfl (by kernel_rfl) (by kernel_rfl) (by omega)) | (exact rn_rowIdx rfl h 1 rfl rfl k (k * 5) rfl rfl (by kernel_rfl) (by kernel_rfl) (by omega)) | (exact rn_rowLdA rfl h 0 rfl rfl (tmN t) (by rw [tm_agg, tmN_size]) hc.out) | (exact rn_rowLdA rfl h 1 rfl rfl (tmN t) (by rw [tm_agg, tmN_size]) hc.out) | (exact rn_rowIdx rfl h 0 rfl rfl _ _ (Nat.mul_one _) rfl (by kernel_rfl) (by kernel_rfl) (by omega)) | (exact rn_rowIdx rfl h 1 rfl rfl _ _ (Nat.mul_one _) rfl (by kernel_rfl) (by kernel_rfl) (by omega)) | (exact rn_rowIdx rfl h 0 rfl rfl _ _ rfl rfl (by kernel_rfl) (by kernel_rfl) (by omega)) | (exact rn_rowIdx rfl h 1 rfl rfl _ _ rfl rfl (by kernel_rfl) (by kernel_rfl) (by omega)) | (go_simp; with_reducible rfl)))
      try simp only [Act.put, List.setIfInBounds_toArray, List.set_cons_succ, List.set_cons_zero]
      (refine takeE (i := 3) (oi := { dst := some 42, op := Op.load 62 (Operand.tmp 41), type := 62, pos := "law.go:34", after := #[{ on := 2, ground := Ground.data }], guard := none }) (N := some 42) #[true, true, true, true, true, true, false, false, false, false] rfl rfl (by kernel_rfl) (fun _ _ _ _ h => h) hS ?_; apply Exists.intro; refine ⟨Or.inl ⟨by rfl, ?_⟩, ?_⟩; · (intro w0 h; first | (exact rn_rowIdx rfl h 0 rfl rfl k (k * 5) rfl rfl (by kernel_rfl) (by kernel_rfl) (by omega)) | (exact rn_rowIdx rfl h 1 rfl rfl k (k * 5) rfl rfl (by kernel_rfl) (by kernel_rfl) (by omega)) | (exact rn_rowLdA rfl h 0 rfl rfl (tmN t) (by rw [tm_agg, tmN_size]) hc.out) | (exact rn_rowLdA rfl h 1 rfl rfl (tmN t) (by rw [tm_agg, tmN_size]) hc.out) | (exact rn_satLd1 rfl h 0 rfl rfl (by decide +kernel) (by simp only [List.getElem?_toArray, List.getElem?_cons_succ, List.getElem?_cons_zero]; exact rfl)) | (exact rn_satLd1 rfl h 1 rfl rfl (by decide +kernel) (by simp only [List.getElem?_toArray, List.getElem?_cons_succ, List.getElem?_cons_zero]; exact rfl)) | (exact rn_satLdA rfl h 0 rfl rfl (by kernel_rfl)) | (exact rn_satLdA rfl h 1 rfl rfl (by kernel_rfl)) | (exact rn_rowLd1 rfl h 0 rfl rfl (by decide +kernel) _ (by assumption)) | (exact rn_rowLd1 rfl h 1 rfl rfl (by decide +kernel) _ (by assumption)) | (go_simp; with_reducible rfl)))
      try simp only [Act.put, List.setIfInBounds_toArray, List.set_cons_succ, List.set_cons_zero]
      (refine takeE (i := 6) (oi := { dst := some 45, op := Op.indexAddr 52 (Operand.tmp 43) (Operand.tmp 44), type := 0, pos := "law.go:34", after := #[{ on := 4, ground := Ground.data }, { on := 5, ground := Ground.data }], guard := none }) (N := some 45) #[true, true, true, true, true, true, true, false, false, false] rfl rfl (by kernel_rfl) (fun _ _ _ _ h => h) hS ?_; apply Exists.intro; refine ⟨Or.inl ⟨by rfl, ?_⟩, ?_⟩; · (intro w0 h; first | (exact rn_rowIdx rfl h 0 rfl rfl k (k * 5) rfl rfl (by kernel_rfl) (by kernel_rfl) (by omega)) | (exact rn_rowIdx rfl h 1 rfl rfl k (k * 5) rfl rfl (by kernel_rfl) (by kernel_rfl) (by omega)) | (exact rn_rowLdA rfl h 0 rfl rfl (tmN t) (by rw [tm_agg, tmN_size]) hc.out) | (exact rn_rowLdA rfl h 1 rfl rfl (tmN t) (by rw [tm_agg, tmN_size]) hc.out) | (exact rn_rowIdx rfl h 0 rfl rfl _ _ (Nat.mul_one _) rfl (by kernel_rfl) (by kernel_rfl) (by omega)) | (exact rn_rowIdx rfl h 1 rfl rfl _ _ (Nat.mul_one _) rfl (by kernel_rfl) (by kernel_rfl) (by omega)) | (exact rn_rowIdx rfl h 0 rfl rfl _ _ rfl rfl (by kernel_rfl) (by kernel_rfl) (by omega)) | (exact rn_rowIdx rfl h 1 rfl rfl _ _ rfl rfl (by kernel_rfl) (by kernel_rfl) (by omega)) | (go_simp; with_reducible rfl)))
      try simp only [Act.put, List.setIfInBounds_toArray, List.set_cons_succ, List.set_cons_zero]
      (refine takeE (i := 7) (oi := { dst := some 46, op := Op.load 62 (Operand.tmp 45), type := 62, pos := "law.go:34", after := #[{ on := 6, ground := Ground.data }], guard := none }) (N := some 46) #[true, true, true, true, true, true, true, true, false, false] rfl rfl (by kernel_rfl) (fun _ _ _ _ h => h) hS ?_; apply Exists.intro; refine ⟨Or.inl ⟨by rfl, ?_⟩, ?_⟩; · (intro w0 h; first | (exact rn_rowIdx rfl h 0 rfl rfl k (k * 5) rfl rfl (by kernel_rfl) (by kernel_rfl) (by omega)) | (exact rn_rowIdx rfl h 1 rfl rfl k (k * 5) rfl rfl (by kernel_rfl) (by kernel_rfl) (by omega)) | (exact rn_rowLdA rfl h 0 rfl rfl (tmN t) (by rw [tm_agg, tmN_size]) hc.out) | (exact rn_rowLdA rfl h 1 rfl rfl (tmN t) (by rw [tm_agg, tmN_size]) hc.out) | (exact rn_satLd1 rfl h 0 rfl rfl (by decide +kernel) (by simp only [List.getElem?_toArray, List.getElem?_cons_succ, List.getElem?_cons_zero]; exact rfl)) | (exact rn_satLd1 rfl h 1 rfl rfl (by decide +kernel) (by simp only [List.getElem?_toArray, List.getElem?_cons_succ, List.getElem?_cons_zero]; exact rfl)) | (exact rn_satLdA rfl h 0 rfl rfl (by kernel_rfl)) | (exact rn_satLdA rfl h 1 rfl rfl (by kernel_rfl)) | (exact rn_rowLd1 rfl h 0 rfl rfl (by decide +kernel) _ (by assumption)) | (exact rn_rowLd1 rfl h 1 rfl rfl (by decide +kernel) _ (by assumption)) | (go_simp; with_reducible rfl)))
      try simp only [Act.put, List.setIfInBounds_toArray, List.set_cons_succ, List.set_cons_zero]
      (refine one_ (i := 8) (oi := { dst := some 47, op := Op.call { callee := Callee.value (Operand.func 13), args := #[Operand.tmp 42, Operand.tmp 46], argTypes := #[62, 62] }, type := 4, pos := "law.go:34", after := #[{ on := 3, ground := Ground.data }, { on := 7, ground := Ground.data }], guard := none }) (N := some 47) #[true, true, true, true, true, true, true, true, true, false] rfl rfl (by kernel_rfl) (by decide) (fun K hK => ?_); rw [if_pos (by rfl)]; first | (refine wk_call 13 rfl (by kernel_rfl) ?_; simp only [List.map_toArray, List.map_cons, List.map_nil, Act.eval, gd_s, gd_0]; go_must (refine (Calls.mono (prb_same hw) ?_)); clear hw; rintro e w ⟨rfl, hw⟩; (try simp only [List.set_cons_succ, List.set_cons_zero, List.setIfInBounds_toArray, Value.cells, List.eraseIdx_cons_succ, List.eraseIdx_cons_zero] at hw); refine ⟨_, rfl, ?_⟩))
      refine hK.out _ _ (Sat.gets hw (by repeat (first | exact Gets.nil | exact Gets.refl _ | refine Gets.get 0 rfl ?_ | refine Gets.get 1 rfl ?_ | refine Gets.get 2 rfl ?_ | refine Gets.get 3 rfl ?_ | refine Gets.get 4 rfl ?_ | refine Gets.get 5 rfl ?_ | refine Gets.get 6 rfl ?_ | refine Gets.get 7 rfl ?_ | refine Gets.get 8 rfl ?_ | refine Gets.get 9 rfl ?_ | refine Gets.drop ?_))) (fun hS => ?_); clear hK K; try simp only [Act.put, List.setIfInBounds_toArray, List.set_cons_succ, List.set_cons_zero]
      (refine pureE (i := 9) (oi := { dst := some 48, op := Op.unOp UnOp.not 4 (Operand.tmp 47), type := 4, pos := "law.go:34", after := #[{ on := 8, ground := Ground.data }], guard := none }) (N := some 48) #[true, true, true, true, true, true, true, true, true, true] rfl rfl (by kernel_rfl) (fun _ _ _ _ h => h) ?_; apply Exists.intro; refine ⟨Or.inl ⟨by rfl, ?_⟩, ?_⟩; · (intro w0; go_simp; try with_reducible rfl))
      try simp only [Act.put, List.setIfInBounds_toArray, List.set_cons_succ, List.set_cons_zero]
      refine done_ (by kernel_rfl) ?_; clear hS
      go_wp2_with (first | (refine wl_run (d := some 49) (rn_cadd rfl (by exact rfl) (by exact rfl) _ rfl (by omega)) ?_))
      go_roundw
      case rel => exact ⟨k + 1, by omega, by go_num, hw⟩
      case measure => simp [intOf]; omega
    · obtain rfl : n = k := by omega
      go_wp2_with (first | (refine wl_run (d := some 37) (rn_clss rfl (by exact rfl) (by exact rfl) true (decide_eq_true (by omega))) ?_) | (refine wl_run (d := some 37) (rn_clss rfl (by exact rfl) (by exact rfl) false (decide_eq_false (by omega))) ?_))
      go_ret
      exact ⟨rfl, (Sat.gets hw (by repeat (first | exact Gets.nil | exact Gets.refl _ | refine Gets.get 0 rfl ?_ | refine Gets.get 1 rfl ?_ | refine Gets.get 2 rfl ?_ | refine Gets.get 3 rfl ?_ | refine Gets.get 4 rfl ?_ | refine Gets.get 5 rfl ?_ | refine Gets.get 6 rfl ?_ | refine Gets.get 7 rfl ?_ | refine Gets.get 8 rfl ?_ | refine Gets.get 9 rfl ?_ | refine Gets.drop ?_)))⟩
end
end Go.Proofs.Ytklhmlplabkoeaa
