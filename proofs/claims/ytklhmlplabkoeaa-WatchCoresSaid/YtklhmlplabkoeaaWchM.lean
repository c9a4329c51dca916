/- watch: marks; what a bank knows. Conditions: none. -/
import Derived.Test.YtklhmlplabkoeaaEdg
import Derived.Test.YtklhmlplabkoeaaWchL
import Derived.Test.YtklhmlplabkoeaaClo
set_option linter.unusedVariables false
set_option linter.unusedSimpArgs false
namespace Go.Proofs.Ytklhmlplabkoeaa
open Go.RowKit Go.Bst Go.MapKept Go.Proofs.YtklhmlplabkoeaaW.PrintLast
section
variable {P : Program} {w : World} {o : Oper} {a : Act} {x y : Operand} {t yt : TypeId} {p q : Int}
theorem rn_ishr (ho : o.op = .binOp .shr t x y yt) (hx : a.eval x = .int .i64 p) (hy : a.eval y = .int .i64 q) (hq : 0 ≤ q) : (execOp a.eval o).run P w = .ok (.value (.int .i64 (p.fdiv (2 ^ (min q.toNat 64))))) w := by
  have e3 : (eqGuard .shr t x y (Value.int .i64 p) (Value.int .i64 q)).run P w = .ok () w := by simp [eqGuard]
  unfold execOp
  simp only [ho, hx, hy, Sem.run_bind, e3, Result.andThen_ok, Sem.run_pure]
  simp only [binOp, Op.shift, show ¬ (q < 0) from by omega, if_false, IntKind.bits, Sem.run_pure, Result.andThen_ok]
theorem rn_iand (ho : o.op = .binOp .and t x y yt) (hx : a.eval x = .int .i64 p) (hy : a.eval y = .int .i64 q) : (execOp a.eval o).run P w = .ok (.value (.int .i64 (andI p q))) w := by
  have e3 : (eqGuard .and t x y (Value.int .i64 p) (Value.int .i64 q)).run P w = .ok () w := by simp [eqGuard]
  unfold execOp
  simp only [ho, hx, hy, Sem.run_bind, e3, Result.andThen_ok, Sem.run_pure]
  simp only [binOp, Op.intBits, IntKind.bits]
  rfl
theorem tdiv_in {p q : Int} (hp : i64B p) (h1 : 0 < q) : i64B (Int.tdiv p q) := by
  unfold i64B at hp ⊢
  rcases Int.le_total 0 p with h | h
  · have h2 : p.tdiv q = p / q := Int.tdiv_eq_ediv_of_nonneg h
    have b1 : 0 ≤ p / q := Int.ediv_nonneg h (by omega)
    have b2 : p / q ≤ p := Int.ediv_le_self _ h
    omega
  · have h2 : Int.tdiv (-p) q = -p / q := Int.tdiv_eq_ediv_of_nonneg (by omega)
    have h3 : Int.tdiv (-p) q = -(Int.tdiv p q) := Int.neg_tdiv ..
    have b1 : 0 ≤ -p / q := Int.ediv_nonneg (by omega) (by omega)
    have b2 : -p / q ≤ -p := Int.ediv_le_self _ (by omega)
    omega
theorem rn_ctdiv (hp : i64B p) (ho : o.op = .binOp .quo t x y yt) (hx : a.eval x = .int .i64 p) (hy : a.eval y = .int .i64 q) (h1 : 0 < q) : (execOp a.eval o).run P w = .ok (.value (.int .i64 (Int.tdiv p q))) w := by
  have hb := tdiv_in hp h1
  unfold i64B at hb
  have e0 : ¬ q = 0 := by omega
  have e : (binOp .quo t (Value.int .i64 p) (Value.int .i64 q)).run P w = .ok (.int .i64 (Int.tdiv p q)) w := by
    unfold binOp
    simp [Op.intDiv, e0, IntWalk.i64_in _ hb]
  have e3 : (eqGuard .quo t x y (Value.int .i64 p) (Value.int .i64 q)).run P w = .ok () w := by simp [eqGuard]
  unfold execOp
  simp only [ho, hx, hy, Sem.run_bind, e3, Result.andThen_ok, e, Sem.run_pure]
theorem rn_arrJ {n sz b i el : Nat} {ix : Operand} (ho : o.op = .indexAddr t x ix) (hx : a.eval x = .pointer (some ⟨b, 0, none⟩)) (hix : a.eval ix = .int .i64 (i : Nat)) (hu : P.underlying t = some (.array n el)) (hs : (P.info? el).map (·.size) = some sz) (h1 : i < n) (j : Nat) (hj : i * sz = j) :
    (execOp a.eval o).run P w = .ok (.value (.pointer (some ⟨b, j, none⟩))) w := by
  rw [rn_arrIdx ho hx hix hu hs (by omega) (by omega), Int.toNat_natCast, Nat.zero_add, hj]
end
theorem u_faults : Try.prog.underlying 73 = some (.array 9 4) := by kernel_rfl
theorem bool_size : (Try.prog.info? 4).map (·.size) = some 1 := by kernel_rfl
section
variable {E : Env} {w : World} {F : List HP} {p : Pl}
attribute [local irreducible] andI wpList Calls Code.wp Code.wpN Oper.wp Go.Proofs.YtklhmlplabkoeaaW.PrintLast.wpAnyLast
set_option maxRecDepth 100000 in
theorem wch_right (hw : Sat E w F) : Calls Try.prog 17 #[.agg p.cs] w fun e w' => e = .returned (.bool (rightB p)) ∧ Sat E w' F := by
  have hc := Kp.mk (show chkN p = if rightB p then 0 else 4 from rfl)
  cases h : rightB p
  all_goals (
    rw [h] at hc
    have HC := hc
    clear hc
    go_enter Try.func17, Try.ntmps17
    go_wp2_with (first
      | (go_at_call 26; go_must (refine (Calls.mono (pl_check (p := p) hw) ?_)); clear hw; rintro e w ⟨rfl, hw⟩; rw [HC.out]; simp only [Bool.false_eq_true, if_false, if_true]; (try simp only [List.set_cons_succ, List.set_cons_zero, List.setIfInBounds_toArray, Value.cells, List.eraseIdx_cons_succ, List.eraseIdx_cons_zero] at hw))
      | (refine wl_box (d := some 1) hw _ (by simp only [Act.eval, Act.put, List.setIfInBounds_toArray, List.set_cons_succ, List.set_cons_zero, gd_s, gd_0, Value.cells]; exact rfl) ?_; clear hw; intro b1 w hw; (try simp only [List.set_cons_succ, List.set_cons_zero, List.setIfInBounds_toArray, Value.cells, List.eraseIdx_cons_succ, List.eraseIdx_cons_zero] at hw)) | (refine wb_loadA (d := some 3)  rfl (by first | exact hw.read 0 rfl | exact hw.read 1 rfl | exact hw.read 2 rfl | exact hw.read 3 rfl | exact hw.read 4 rfl) (by rw [plan_agg, Pl.size]) ?_) | (refine wl_run (d := some 5) (rn_ceql rfl (by exact rfl) (by exact rfl) true (decide_eq_true (by omega))) ?_) | (refine wl_run (d := some 5) (rn_ceql rfl (by exact rfl) (by exact rfl) false (decide_eq_false (by omega))) ?_))
    go_ret
    exact ⟨rfl, (Sat.gets hw (by repeat (first | exact Gets.nil | exact Gets.refl _ | refine Gets.get 0 rfl ?_ | refine Gets.get 1 rfl ?_ | refine Gets.get 2 rfl ?_ | refine Gets.get 3 rfl ?_ | refine Gets.get 4 rfl ?_ | refine Gets.get 5 rfl ?_ | refine Gets.drop ?_)))⟩)
set_option maxRecDepth 100000 in
theorem reg_Bank {n : Int} (hw : Sat E w F) : Calls Try.prog 48 #[.agg p.cs, .int .i64 n] w fun e w' => e = .returned (.tuple #[.int .i64 (if lineB p n then Int.tmod n p.banks else 0), .bool (lineB p n)]) ∧ Sat E w' F := by
  obtain ⟨r, hr⟩ : ∃ r, Kp (lineB p n = r) := ⟨_, Kp.mk rfl⟩
  rw [hr.out]
  cases r with
  | false =>
    go_enter Try.func48, Try.ntmps48
    go_wp2_with (first
      | (go_at_call 54; go_must (refine (Calls.mono (reg_line (p := p) (n := n) hw) ?_)); clear hw; rintro e w ⟨rfl, hw⟩; rw [hr.out]; (try simp only [List.set_cons_succ, List.set_cons_zero, List.setIfInBounds_toArray, Value.cells, List.eraseIdx_cons_succ, List.eraseIdx_cons_zero] at hw))
      | (refine wl_box (d := some 2) hw _ (by simp only [Act.eval, Act.put, List.setIfInBounds_toArray, List.set_cons_succ, List.set_cons_zero, gd_s, gd_0, Value.cells]; exact rfl) ?_; clear hw; intro b2 w hw; (try simp only [List.set_cons_succ, List.set_cons_zero, List.setIfInBounds_toArray, Value.cells, List.eraseIdx_cons_succ, List.eraseIdx_cons_zero] at hw)) | (refine wb_loadA (d := some 6)  rfl (by first | exact hw.read 0 rfl | exact hw.read 1 rfl | exact hw.read 2 rfl | exact hw.read 3 rfl | exact hw.read 4 rfl) (by rw [plan_agg, Pl.size]) ?_) | (refine wb_load1 (d := some 12)  rfl (by first | exact hw.read 0 rfl | exact hw.read 1 rfl | exact hw.read 2 rfl | exact hw.read 3 rfl | exact hw.read 4 rfl) (by decide +kernel) (by exact Pl.c1 _) ?_) | (refine wl_run (d := some 13) (rn_irem rfl (by exact rfl) (by exact rfl) (by omega) (by omega)) ?_))
    (refine ret_tmp2 rfl _ _ rfl rfl rfl ?_)
    exact ⟨rfl, (Sat.gets hw (by repeat (first | exact Gets.nil | exact Gets.refl _ | refine Gets.get 0 rfl ?_ | refine Gets.get 1 rfl ?_ | refine Gets.get 2 rfl ?_ | refine Gets.get 3 rfl ?_ | refine Gets.get 4 rfl ?_ | refine Gets.get 5 rfl ?_ | refine Gets.drop ?_)))⟩
  | true =>
    have hb : 0 < p.banks ∧ p.banks ≤ 9223372036854775807 := by
      have h1 := hr.out
      unfold lineB at h1
      simp only [Bool.and_eq_true] at h1
      have h2 := shB_iff.1 (rightB_iff.1 h1.1.1).1
      omega
    go_enter Try.func48, Try.ntmps48
    go_wp2_with (first
      | (go_at_call 54; go_must (refine (Calls.mono (reg_line (p := p) (n := n) hw) ?_)); clear hw; rintro e w ⟨rfl, hw⟩; rw [hr.out]; (try simp only [List.set_cons_succ, List.set_cons_zero, List.setIfInBounds_toArray, Value.cells, List.eraseIdx_cons_succ, List.eraseIdx_cons_zero] at hw))
      | (refine wl_run (d := some 13) (rn_ctmod rfl (by exact rfl) (by exact rfl) hb.1 hb.2) ?_)
      | (refine wl_box (d := some 2) hw _ (by simp only [Act.eval, Act.put, List.setIfInBounds_toArray, List.set_cons_succ, List.set_cons_zero, gd_s, gd_0, Value.cells]; exact rfl) ?_; clear hw; intro b2 w hw; (try simp only [List.set_cons_succ, List.set_cons_zero, List.setIfInBounds_toArray, Value.cells, List.eraseIdx_cons_succ, List.eraseIdx_cons_zero] at hw)) | (refine wb_loadA (d := some 6)  rfl (by first | exact hw.read 0 rfl | exact hw.read 1 rfl | exact hw.read 2 rfl | exact hw.read 3 rfl | exact hw.read 4 rfl) (by rw [plan_agg, Pl.size]) ?_) | (refine wb_load1 (d := some 12)  rfl (by first | exact hw.read 0 rfl | exact hw.read 1 rfl | exact hw.read 2 rfl | exact hw.read 3 rfl | exact hw.read 4 rfl) (by decide +kernel) (by exact Pl.c1 _) ?_) | (refine wl_run (d := some 13) (rn_irem rfl (by exact rfl) (by exact rfl) (by omega) (by omega)) ?_))
    (refine ret_tmp2 rfl _ _ rfl rfl rfl ?_)
    exact ⟨rfl, (Sat.gets hw (by repeat (first | exact Gets.nil | exact Gets.refl _ | refine Gets.get 0 rfl ?_ | refine Gets.get 1 rfl ?_ | refine Gets.get 2 rfl ?_ | refine Gets.get 3 rfl ?_ | refine Gets.get 4 rfl ?_ | refine Gets.get 5 rfl ?_ | refine Gets.drop ?_)))⟩
set_option maxRecDepth 100000 in
theorem wch_mark {b k : Nat} {cs : Array Value} {v fo : Bool} (hk : k < 9) (hs : cs.size = 9) (hv : cs[k]? = some (.bool v)) (hw : Sat E w (pt b (.cells cs 73 (0, 0)) :: F)) : Calls Try.prog 41 #[.pointer (some ⟨b, 0, none⟩), .int .i64 k, .bool fo] w fun e w' => e = .returned (.tuple #[]) ∧ Sat E w' (pt b (.cells (cs.setIfInBounds k (.bool (v || fo))) 73 (0, 0)) :: F) := by
  have HV := Kp.mk hv
  clear hv
  cases v
  all_goals (
    go_enter Try.func41, Try.ntmps41
    go_upto_region 0 with (fail)
    have hS0 := hw.gets (Gets.get 0 rfl Gets.nil)
    refine startS (ds := [12]) hS0 #[false, false, false, false, false, false, false, false, false, false, false, false, false] (by kernel_rfl) rfl (by rfl) ?_
    clear hS0; intro hS
    replace hw := hw.drew; generalize w.drew = w at hw hS ⊢
    (refine pureE (i := 0) (oi := { dst := some 6, op := Op.move (Operand.tmp 0), type := 102, pos := "watch.go:29", after := #[], guard := none }) (N := some 6) #[true, false, false, false, false, false, false, false, false, false, false, false, false] rfl rfl (by kernel_rfl) (fun _ _ _ _ h => h) ?_; apply Exists.intro; refine ⟨Or.inl ⟨by rfl, ?_⟩, ?_⟩; · (intro w0; go_simp; try with_reducible rfl))
    try simp only [Act.put, List.setIfInBounds_toArray, List.set_cons_succ, List.set_cons_zero]
    (refine pureE (i := 1) (oi := { dst := some 7, op := Op.move (Operand.tmp 1), type := 3, pos := "watch.go:29", after := #[], guard := none }) (N := some 7) #[true, true, false, false, false, false, false, false, false, false, false, false, false] rfl rfl (by kernel_rfl) (fun _ _ _ _ h => h) ?_; apply Exists.intro; refine ⟨Or.inl ⟨by rfl, ?_⟩, ?_⟩; · (intro w0; go_simp; try with_reducible rfl))
    try simp only [Act.put, List.setIfInBounds_toArray, List.set_cons_succ, List.set_cons_zero]
    (refine pureE (i := 2) (oi := { dst := some 8, op := Op.move (Operand.tmp 0), type := 102, pos := "watch.go:29", after := #[], guard := none }) (N := some 8) #[true, true, true, false, false, false, false, false, false, false, false, false, false] rfl rfl (by kernel_rfl) (fun _ _ _ _ h => h) ?_; apply Exists.intro; refine ⟨Or.inl ⟨by rfl, ?_⟩, ?_⟩; · (intro w0; go_simp; try with_reducible rfl))
    try simp only [Act.put, List.setIfInBounds_toArray, List.set_cons_succ, List.set_cons_zero]
    (refine pureE (i := 3) (oi := { dst := some 9, op := Op.move (Operand.tmp 1), type := 3, pos := "watch.go:29", after := #[], guard := none }) (N := some 9) #[true, true, true, true, false, false, false, false, false, false, false, false, false] rfl rfl (by kernel_rfl) (fun _ _ _ _ h => h) ?_; apply Exists.intro; refine ⟨Or.inl ⟨by rfl, ?_⟩, ?_⟩; · (intro w0; go_simp; try with_reducible rfl))
    try simp only [Act.put, List.setIfInBounds_toArray, List.set_cons_succ, List.set_cons_zero]
    (refine pureE (i := 4) (oi := { dst := some 10, op := Op.nilCheck (Operand.tmp 8), type := 0, pos := "watch.go:29", after := #[eD 2], guard := none }) (N := some 10) #[true, true, true, true, true, false, false, false, false, false, false, false, false] rfl rfl (by kernel_rfl) (fun _ _ _ _ h => h) ?_; apply Exists.intro; refine ⟨Or.inl ⟨by rfl, ?_⟩, ?_⟩; · (intro w0; go_simp; try with_reducible rfl))
    try simp only [Act.put, List.setIfInBounds_toArray, List.set_cons_succ, List.set_cons_zero]
    (refine pureE (i := 10) (oi := { dst := some 16, op := Op.nilCheck (Operand.tmp 6), type := 0, pos := "watch.go:29", after := #[eD 0], guard := none }) (N := some 16) #[true, true, true, true, true, false, false, false, false, false, true, false, false] rfl rfl (by kernel_rfl) (fun _ _ _ _ h => h) ?_; apply Exists.intro; refine ⟨Or.inl ⟨by rfl, ?_⟩, ?_⟩; · (intro w0; go_simp; try with_reducible rfl))
    try simp only [Act.put, List.setIfInBounds_toArray, List.set_cons_succ, List.set_cons_zero]
    (refine takeE (i := 5) (oi := { dst := some 11, op := Op.indexAddr 73 (Operand.tmp 10) (Operand.tmp 9), type := 0, pos := "watch.go:29", after := #[eD 4, eD 3], guard := none }) (N := some 11) #[true, true, true, true, true, true, false, false, false, false, true, false, false] rfl rfl (by kernel_rfl) (fun _ _ _ _ h => h) hS ?_; apply Exists.intro; refine ⟨Or.inl ⟨by rfl, ?_⟩, ?_⟩; · (intro w0 h; first | (exact rn_arrJ rfl rfl rfl u_faults bool_size hk k (by omega)) | (go_simp; with_reducible rfl)))
    try simp only [Act.put, List.setIfInBounds_toArray, List.set_cons_succ, List.set_cons_zero]
    (refine takeE (i := 6) (oi := { dst := some 12, op := Op.load 4 (Operand.tmp 11), type := 4, pos := "watch.go:29", after := #[eD 5], guard := none }) (N := some 12) #[true, true, true, true, true, true, true, false, false, false, true, false, false] rfl rfl (by kernel_rfl) (fun _ _ _ _ h => h) hS ?_; apply Exists.intro; refine ⟨Or.inl ⟨by rfl, ?_⟩, ?_⟩; · (intro w0 h; first | (exact rn_satLd1 rfl h 0 rfl rfl (by decide +kernel) HV.out) | (go_simp; with_reducible rfl)))
    try simp only [Act.put, List.setIfInBounds_toArray, List.set_cons_succ, List.set_cons_zero]
    (refine pureE (i := 7) (oi := { dst := some 13, op := Op.move (Operand.tmp 12), type := 4, pos := "watch.go:29", after := #[eD 6], guard := none }) (N := some 13) #[true, true, true, true, true, true, true, true, false, false, true, false, false] rfl rfl (by kernel_rfl) (fun _ _ _ _ h => h) ?_; apply Exists.intro; refine ⟨Or.inl ⟨by rfl, ?_⟩, ?_⟩; · (intro w0; go_simp; try with_reducible rfl))
    try simp only [Act.put, List.setIfInBounds_toArray, List.set_cons_succ, List.set_cons_zero]
    refine pureE (i := 8) (oi := { dst := some 14, op := Op.move (Operand.tmp 2), type := 4, pos := "watch.go:29", after := #[eG 7], guard := some (7, false) }) (N := some 14) #[true, true, true, true, true, true, true, true, true, false, true, false, false] rfl rfl (by kernel_rfl) (fun _ _ _ _ h => h) ?_; first | (apply Exists.intro; refine ⟨Or.inl ⟨by rfl, ?_⟩, ?_⟩; · (intro w0; go_simp; try with_reducible rfl)) | (refine ⟨undef, Or.inr ⟨by rfl, rfl⟩, ?_⟩)
    try simp only [Act.put, List.setIfInBounds_toArray, List.set_cons_succ, List.set_cons_zero]
    (refine pureE (i := 9) (oi := { dst := some 15, op := Op.pick (Operand.tmp 13) (Operand.const (Value.bool true)) (Operand.tmp 14), type := 4, pos := "watch.go:29", after := #[eD 7, eD 8], guard := none }) (N := some 15) #[true, true, true, true, true, true, true, true, true, true, true, false, false] rfl rfl (by kernel_rfl) (fun _ _ _ _ h => h) ?_; apply Exists.intro; refine ⟨Or.inl ⟨by rfl, ?_⟩, ?_⟩; · (intro w0; go_simp; try with_reducible rfl))
    try simp only [Act.put, List.setIfInBounds_toArray, List.set_cons_succ, List.set_cons_zero]
    (refine takeE (i := 11) (oi := { dst := some 17, op := Op.indexAddr 73 (Operand.tmp 16) (Operand.tmp 7), type := 0, pos := "watch.go:29", after := #[eD 10, eD 1, eP 0, eP 1, eP 2, eP 3, eP 4, eP 5, eP 6, eP 7, eP 8, eP 9], guard := none }) (N := some 17) #[true, true, true, true, true, true, true, true, true, true, true, true, false] rfl rfl (by kernel_rfl) (fun _ _ _ _ h => h) hS ?_; apply Exists.intro; refine ⟨Or.inl ⟨by rfl, ?_⟩, ?_⟩; · (intro w0 h; first | (exact rn_arrJ rfl rfl rfl u_faults bool_size hk k (by omega)) | (go_simp; with_reducible rfl)))
    try simp only [Act.put, List.setIfInBounds_toArray, List.set_cons_succ, List.set_cons_zero]
    (refine last_ (i := 12) (oi := { dst := none, op := Op.store 4 (Operand.tmp 17) (Operand.tmp 15), type := 0, pos := "watch.go:29", after := #[eD 11, eD 9, eC 7, eP 0, eP 1, eP 2, eP 3, eP 4, eP 5, eP 6, eP 7, eP 8, eP 9], guard := none }) (N := none) #[true, true, true, true, true, true, true, true, true, true, true, true, true] rfl rfl (by kernel_rfl) (by decide) (fun K hK => ?_); rw [if_pos (by rfl)]; first | (refine wk_store1 hw rfl 0 rfl (.bool _) rfl (by decide +kernel) (by rw [hs]; exact hk) rfl ?_; clear hw; intro w hw; (try simp only [List.set_cons_succ, List.set_cons_zero, List.setIfInBounds_toArray, Value.cells, List.eraseIdx_cons_succ, List.eraseIdx_cons_zero] at hw)))
    refine hK.out _ _ ?_; clear hK K; try simp only [Act.put, List.setIfInBounds_toArray, List.set_cons_succ, List.set_cons_zero]
    refine done_ (by kernel_rfl) ?_; clear hS
    go_wp2
    go_end0
    exact ⟨rfl, hw⟩)
end
end Go.Proofs.Ytklhmlplabkoeaa
