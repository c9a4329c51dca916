/- A right operation: bastionref16.Check; the example of bastionlaw21. Conditions: none. -/
import Derived.Test.YtmjbhpaefhnnnaaPlce
import Derived.Test.YtmjbhpaefhnnnaaActX
import Derived.Test.YtmjbhpaefhnnnaaMak
import Derived.Test.YtmjbhpaefhnnnaaPlF
set_option linter.unusedVariables false
set_option linter.unusedSimpArgs false
namespace Go.Proofs.Ytmjbhpaefhnnnaa
open Go.RowKit Go.Bst Go.MapKept Go.Proofs.YtmjbhpaefhnnnaaW.PrintLast
section
variable {E : Env} {w : World} {F : List HP} {p : Pl}
attribute [local irreducible] rd tb wpList Calls Code.wp Code.wpN Oper.wp Go.Proofs.YtmjbhpaefhnnnaaW.PrintLast.wpAnyLast
set_option maxRecDepth 100000 in
set_option maxHeartbeats 16000000 in
theorem ref_Check {o : Opv} (hw : Sat E w F) (hp : p.Ok) (hrt : rightB p = true) {m : Nat} (hm : m < 32 * allN p) (ho : o.loc = m) (hk : 1 ≤ o.kind ∧ o.kind ≤ 6) (hn : o.n = 1 ∨ o.n = 2 ∨ o.n = 4 ∨ o.n = 8) (hd : (m : Int) % o.n = 0) : Calls Try.prog 19 #[.agg p.cs, .agg o.cs] w fun e w' => e = .returned (.int .i64 0) ∧ Sat E w' F := by
  have HT := Kp.mk hrt
  have HM := Kp.mk hm
  have HO := Kp.mk ho
  have HN := Kp.mk hn
  have HD := Kp.mk hd
  have hd1 : (m : Int) % 1 = 0 := Int.emod_one _
  clear hrt hm ho hn hd
  have hks : o.kind = 5 ∨ o.kind = 6 ∨ (1 ≤ o.kind ∧ o.kind ≤ 4) := by omega
  rcases hks with h | h | ⟨h1, h2⟩
  all_goals (
    go_enter Try.func19, Try.ntmps19
    go_wp2_with (first
      | (go_at_call 34; go_must (refine (Calls.mono (ref_right (p := p) hw hp) ?_)); clear hw; rintro e w ⟨rfl, hw⟩; rw [HT.out]; (try simp only [List.set_cons_succ, List.set_cons_zero, List.setIfInBounds_toArray, Value.cells, List.eraseIdx_cons_succ, List.eraseIdx_cons_zero] at hw))
      | (go_at_call 41; simp only [HO.out]; refine (Calls.mono (ref_Line (p := p) hw hp HT.out HM.out (.inl rfl) hd1) ?_); clear hw; rintro e w ⟨rfl, hw⟩; (try simp only [List.set_cons_succ, List.set_cons_zero, List.setIfInBounds_toArray, Value.cells, List.eraseIdx_cons_succ, List.eraseIdx_cons_zero] at hw))
      | (go_at_call 41; simp only [HO.out]; refine (Calls.mono (ref_Line (p := p) hw hp HT.out HM.out HN.out HD.out) ?_); clear hw; rintro e w ⟨rfl, hw⟩; (try simp only [List.set_cons_succ, List.set_cons_zero, List.setIfInBounds_toArray, Value.cells, List.eraseIdx_cons_succ, List.eraseIdx_cons_zero] at hw))
      | (refine wl_box (d := some 2) hw _ (by simp only [Act.eval, Act.put, List.setIfInBounds_toArray, List.set_cons_succ, List.set_cons_zero, gd_s, gd_0, Value.cells]; exact rfl) ?_; clear hw; intro b2 w hw; (try simp only [List.set_cons_succ, List.set_cons_zero, List.setIfInBounds_toArray, Value.cells, List.eraseIdx_cons_succ, List.eraseIdx_cons_zero] at hw)) | (refine wl_box (d := some 3) hw _ (by simp only [Act.eval, Act.put, List.setIfInBounds_toArray, List.set_cons_succ, List.set_cons_zero, gd_s, gd_0, Value.cells]; exact rfl) ?_; clear hw; intro b3 w hw; (try simp only [List.set_cons_succ, List.set_cons_zero, List.setIfInBounds_toArray, Value.cells, List.eraseIdx_cons_succ, List.eraseIdx_cons_zero] at hw)) | (refine wb_loadA (d := some 9)  rfl (by first | exact hw.read 0 rfl | exact hw.read 1 rfl | exact hw.read 2 rfl | exact hw.read 3 rfl | exact hw.read 4 rfl | exact hw.read 5 rfl | exact hw.read 6 rfl | exact hw.read 7 rfl | exact hw.read 8 rfl) (by rw [plan_agg, Pl.size]) ?_) | (refine wb_load1 (d := some 13)  rfl (by first | exact hw.read 0 rfl | exact hw.read 1 rfl | exact hw.read 2 rfl | exact hw.read 3 rfl | exact hw.read 4 rfl | exact hw.read 5 rfl | exact hw.read 6 rfl | exact hw.read 7 rfl | exact hw.read 8 rfl) (by decide +kernel) (by exact Opv.c0 _) ?_) | (refine wl_run (d := some 14) (rn_clss rfl (by exact rfl) (by exact rfl) true (decide_eq_true (by omega))) ?_) | (refine wl_run (d := some 14) (rn_clss rfl (by exact rfl) (by exact rfl) false (decide_eq_false (by omega))) ?_) | (refine wg_load1 (d := some 17) (by rfl)  rfl (by first | exact hw.read 0 rfl | exact hw.read 1 rfl | exact hw.read 2 rfl | exact hw.read 3 rfl | exact hw.read 4 rfl | exact hw.read 5 rfl | exact hw.read 6 rfl | exact hw.read 7 rfl | exact hw.read 8 rfl) (by decide +kernel) (by exact Opv.c0 _) ?_) | (refine wg_run (d := some 18) (by rfl) (rn_cgtr rfl (by exact rfl) (by exact rfl) true (decide_eq_true (by omega))) ?_) | (refine wg_run (d := some 18) (by rfl) (rn_cgtr rfl (by exact rfl) (by exact rfl) false (decide_eq_false (by omega))) ?_) | (refine wb_load1 (d := some 21)  rfl (by first | exact hw.read 0 rfl | exact hw.read 1 rfl | exact hw.read 2 rfl | exact hw.read 3 rfl | exact hw.read 4 rfl | exact hw.read 5 rfl | exact hw.read 6 rfl | exact hw.read 7 rfl | exact hw.read 8 rfl) (by decide +kernel) (by exact Opv.c0 _) ?_) | (refine wl_run (d := some 22) (rn_ceql rfl (by exact rfl) (by exact rfl) true (decide_eq_true (by omega))) ?_) | (refine wl_run (d := some 22) (rn_ceql rfl (by exact rfl) (by exact rfl) false (decide_eq_false (by omega))) ?_) | (refine wb_load1 (d := some 24)  rfl (by first | exact hw.read 0 rfl | exact hw.read 1 rfl | exact hw.read 2 rfl | exact hw.read 3 rfl | exact hw.read 4 rfl | exact hw.read 5 rfl | exact hw.read 6 rfl | exact hw.read 7 rfl | exact hw.read 8 rfl) (by decide +kernel) (by exact Opv.c2 _) ?_) | (refine wb_load1 (d := some 26)  rfl (by first | exact hw.read 0 rfl | exact hw.read 1 rfl | exact hw.read 2 rfl | exact hw.read 3 rfl | exact hw.read 4 rfl | exact hw.read 5 rfl | exact hw.read 6 rfl | exact hw.read 7 rfl | exact hw.read 8 rfl) (by decide +kernel) (by exact Opv.c0 _) ?_) | (refine wl_run (d := some 27) (rn_ceql rfl (by exact rfl) (by exact rfl) true (decide_eq_true (by omega))) ?_) | (refine wl_run (d := some 27) (rn_ceql rfl (by exact rfl) (by exact rfl) false (decide_eq_false (by omega))) ?_) | (refine wb_loadA (d := some 29)  rfl (by first | exact hw.read 0 rfl | exact hw.read 1 rfl | exact hw.read 2 rfl | exact hw.read 3 rfl | exact hw.read 4 rfl | exact hw.read 5 rfl | exact hw.read 6 rfl | exact hw.read 7 rfl | exact hw.read 8 rfl) (by rw [plan_agg, Pl.size]) ?_) | (refine wb_load1 (d := some 31)  rfl (by first | exact hw.read 0 rfl | exact hw.read 1 rfl | exact hw.read 2 rfl | exact hw.read 3 rfl | exact hw.read 4 rfl | exact hw.read 5 rfl | exact hw.read 6 rfl | exact hw.read 7 rfl | exact hw.read 8 rfl) (by decide +kernel) (by exact Opv.c1 _) ?_))
    go_ret
    exact ⟨rfl, (Sat.gets hw (by repeat (first | exact Gets.nil | exact Gets.refl _ | refine Gets.get 0 rfl ?_ | refine Gets.get 1 rfl ?_ | refine Gets.get 2 rfl ?_ | refine Gets.get 3 rfl ?_ | refine Gets.get 4 rfl ?_ | refine Gets.get 5 rfl ?_ | refine Gets.get 6 rfl ?_ | refine Gets.get 7 rfl ?_ | refine Gets.get 8 rfl ?_ | refine Gets.get 9 rfl ?_ | refine Gets.drop ?_)))⟩)
theorem opF_check (hrt : rightB p = true) (b : List UInt8) : ∃ m : Nat, m < 32 * allN p ∧ (opF p b).loc = m ∧ (1 ≤ (opF p b).kind ∧ (opF p b).kind ≤ 6) ∧ ((opF p b).n = 1 ∨ (opF p b).n = 2 ∨ (opF p b).n = 4 ∨ (opF p b).n = 8) ∧ (m : Int) % (opF p b).n = 0 := by
  have ha := allI_in hrt
  have haN : (allN p : Int) = allI p := by unfold allN; omega
  have hq0 := Int.emod_nonneg (num2 b 3 : Int) (show allI p * 32 ≠ 0 by omega)
  have hq1 := Int.emod_lt_of_pos (num2 b 3 : Int) (show 0 < allI p * 32 by omega)
  obtain ⟨q, hq⟩ : ∃ q, (num2 b 3 : Int) % (allI p * 32) = q := ⟨_, rfl⟩
  obtain ⟨r, hr⟩ : ∃ r, (tb b 2).toNat % 4 = r := ⟨_, rfl⟩
  rw [opF_at hrt hq hr]
  rw [hq] at hq0 hq1
  have hr4 : r < 4 := by omega
  have k1 := (tb b 1).toNat_lt
  dsimp only
  have hd : ((2 ^ r : Nat) : Int) = 1 ∨ ((2 ^ r : Nat) : Int) = 2 ∨ ((2 ^ r : Nat) : Int) = 4 ∨ ((2 ^ r : Nat) : Int) = 8 := by
    rcases (by omega : r = 0 ∨ r = 1 ∨ r = 2 ∨ r = 3) with rfl | rfl | rfl | rfl <;> decide
  generalize ((2 ^ r : Nat) : Int) = D at hd ⊢
  have m0 := Int.emod_nonneg q (show D ≠ 0 by omega)
  have m1 := Int.emod_lt_of_pos q (show 0 < D by omega)
  have m2 : q % D ≤ q := by
    have h1 := Int.mul_ediv_add_emod q D
    have h2 : 0 ≤ D * (q / D) := Int.mul_nonneg (by omega) (Int.ediv_nonneg hq0 (by omega))
    omega
  refine ⟨(q - q % D).toNat, by omega, by omega, by omega, hd, ?_⟩
  rw [Int.toNat_of_nonneg (by omega)]
  rw [Int.sub_emod, Int.emod_emod_of_dvd q (Int.dvd_refl D)]
  simp
end
end Go.Proofs.Ytmjbhpaefhnnnaa
