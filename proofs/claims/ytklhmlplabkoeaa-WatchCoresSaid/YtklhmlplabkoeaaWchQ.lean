/- watch: two cores' lines (pairs). Conditions: none. -/
import Derived.Test.YtklhmlplabkoeaaEdg
import Derived.Test.YtklhmlplabkoeaaWchP
set_option linter.unusedVariables false
set_option linter.unusedSimpArgs false
namespace Go.Proofs.Ytklhmlplabkoeaa
open Go.RowKit Go.Bst Go.MapKept Go.Proofs.YtklhmlplabkoeaaW.PrintLast
noncomputable def rowA (x : Nev) (b : List Nev) : Bool := b.any fun y => decide (x.line = y.line) && !sharedB x y
noncomputable def rowU (x : Nev) (b : List Nev) : Bool := b.any fun y => decide (x.line = y.line) && (sharedB x y && unlikeB x y)
theorem pairA_cons (x : Nev) (a b : List Nev) : pairA (x :: a) b = (rowA x b || pairA a b) := by unfold pairA rowA; rfl
theorem pairU_cons (x : Nev) (a b : List Nev) : pairU (x :: a) b = (rowU x b || pairU a b) := by unfold pairU rowU; rfl
theorem rowA_cons (x y : Nev) (b : List Nev) : rowA x (y :: b) = (decide (x.line = y.line) && !sharedB x y || rowA x b) := by unfold rowA; rfl
theorem rowU_cons (x y : Nev) (b : List Nev) : rowU x (y :: b) = (decide (x.line = y.line) && (sharedB x y && unlikeB x y) || rowU x b) := by unfold rowU; rfl
theorem pairA_nil (b : List Nev) : pairA [] b = false := by unfold pairA; rfl
theorem pairU_nil (b : List Nev) : pairU [] b = false := by unfold pairU; rfl
theorem rowA_nil (x : Nev) : rowA x [] = false := by unfold rowA; rfl
theorem rowU_nil (x : Nev) : rowU x [] = false := by unfold rowU; rfl
theorem sharedB_eq (x y : Nev) : sharedB x y = (decide (x.state = 1) && decide (y.state = 1)) := by unfold sharedB; rfl
theorem unlikeB_eq (x y : Nev) : unlikeB x y = !same x.data.c y.data.c := by unfold unlikeB; rfl
theorem drop_get {α : Type} {l : List α} {j : Nat} {x : α} (h : l[j]? = some x) : l.drop j = x :: l.drop (j + 1) := by
  obtain ⟨hl, e⟩ := List.getElem?_eq_some_iff.1 h
  rw [List.drop_eq_getElem_cons hl, e]
section
variable {E : Env} {w : World} {F : List HP} {p : Pl}
attribute [local irreducible] andI hasF knowsB knownF sharedB unlikeB pairA pairU rowA rowU Mk.cs wpList Calls Code.wp Code.wpN Oper.wp Go.Proofs.YtklhmlplabkoeaaW.PrintLast.wpAnyLast
set_option maxRecDepth 100000 in
set_option maxHeartbeats 4000000 in
theorem wch_pairs {fb : Nat} {m : Mk} {a b : Cov} (hw : Sat E w (pt fb (.cells m.cs 73 (0, 0)) :: F)) (ha : NearsRd E F a) (hb : NearsRd E F b) :
    Calls Try.prog 43 #[.pointer (some ⟨fb, 0, none⟩), .agg a.cs, .agg b.cs] w fun e w' => e = .returned (.tuple #[]) ∧ Sat E w' (pt fb (.cells (Mk.mk (m.a || pairA a.ls b.ls) m.k (m.u || pairU a.ls b.ls) m.d).cs 73 (0, 0)) :: F) := by
  obtain ⟨hal, har⟩ := ha
  obtain ⟨hbl, hbr⟩ := hb
  have HA := Kp.mk har
  have HB := Kp.mk hbr
  clear har hbr
  obtain ⟨ma, mk, mu, md⟩ := m
  obtain ⟨M, hM⟩ : ∃ M, Kp (a.ls.length = M) := ⟨_, Kp.mk rfl⟩
  obtain ⟨N, hN⟩ : ∃ N, Kp (b.ls.length = N) := ⟨_, Kp.mk rfl⟩
  rw [hM.out] at hal
  rw [hN.out] at hbl
  have ca := Kp.mk (show a.cs[6]? = some (.slice a.A M a.cap) by rw [a.c6, hM.out])
  have cb := Kp.mk (show b.cs[6]? = some (.slice b.A N b.cap) by rw [b.c6, hN.out])
  obtain ⟨A, hA⟩ : ∃ A, Kp (a.A = A) := ⟨_, Kp.mk rfl⟩
  obtain ⟨B, hB⟩ : ∃ B, Kp (b.A = B) := ⟨_, Kp.mk rfl⟩
  rw [hA.out] at ca HA
  rw [hB.out] at cb HB
  dsimp only
  go_enter Try.func43, Try.ntmps43
  go_wp2_with (first
    | (refine wb_load1 (d := some 12) rfl (hw.read 1 rfl) (by decide +kernel) ca.out ?_)
    | (refine wl_box (d := some 4) hw _ (by simp only [Act.eval, Act.put, List.setIfInBounds_toArray, List.set_cons_succ, List.set_cons_zero, gd_s, gd_0, Value.cells]; exact rfl) ?_; clear hw; intro b4 w hw; (try simp only [List.set_cons_succ, List.set_cons_zero, List.setIfInBounds_toArray, Value.cells, List.eraseIdx_cons_succ, List.eraseIdx_cons_zero] at hw)) | (refine wl_box (d := some 5) hw _ (by simp only [Act.eval, Act.put, List.setIfInBounds_toArray, List.set_cons_succ, List.set_cons_zero, gd_s, gd_0, Value.cells]; exact rfl) ?_; clear hw; intro b5 w hw; (try simp only [List.set_cons_succ, List.set_cons_zero, List.setIfInBounds_toArray, Value.cells, List.eraseIdx_cons_succ, List.eraseIdx_cons_zero] at hw)))
  go_loopw [14] (fun i wr => ∃ (j : Nat) (a1 u1 : Bool), j ≤ M ∧ i = .int .i64 j ∧ Kp ((a1 || pairA (a.ls.drop j) b.ls) = (ma || pairA a.ls b.ls)) ∧ Kp ((u1 || pairU (a.ls.drop j) b.ls) = (mu || pairU a.ls b.ls)) ∧ Sat E wr (pt b5 (.cells b.cs 40 (0, 0)) :: pt b4 (.cells a.cs 40 (0, 0)) :: pt fb (.cells (Mk.mk a1 mk u1 md).cs 73 (0, 0)) :: F)) (fun i _ => M - (intOf i).toNat)
  case atStart => exact ⟨0, ma, mu, by omega, rfl, Kp.mk rfl, Kp.mk rfl, hw⟩
  case round =>
    clear hw
    obtain ⟨j, a1, u1, hj, rfl, hR1, hR2, hw⟩ := hrel
    by_cases hlt : j < M
    · obtain ⟨x, hx⟩ : ∃ x, a.ls[j]? = some x := ⟨_, List.getElem?_eq_getElem (by rw [hM.out]; exact hlt)⟩
      obtain ⟨ga, qa, hAA, hcell⟩ := rd_el (f := Nev.cs) Nev.size (by decide) HA.out (by first | exact hw | exact hw.tail | exact hw.tail.tail | exact hw.tail.tail.tail | exact hw.tail.tail.tail.tail | exact hw.tail.tail.tail.tail.tail | exact hw.tail.tail.tail.tail.tail.tail) hx
      subst hAA
      have HC := Kp.mk hcell
      have hR1 := hR1.out
      have hR2 := hR2.out
      rw [drop_get hx, pairA_cons] at hR1
      rw [drop_get hx, pairU_cons] at hR2
      clear hcell hx
      go_wp2_with (first
        | (refine wl_run (d := some 16) (rn_rdIdx rfl rfl rfl u_nears nev_info hlt) ?_)
        | (refine wl_run (d := some 17) (rn_rdLdA (m := x.cs) rfl rfl (by rw [nev_agg, Nev.size]) (HC.out _ (by first | exact hw | exact hw.tail | exact hw.tail.tail | exact hw.tail.tail.tail | exact hw.tail.tail.tail.tail | exact hw.tail.tail.tail.tail.tail | exact hw.tail.tail.tail.tail.tail.tail))) ?_)
        | (refine wb_load1 (d := some 19) rfl (hw.read 1 rfl) (by decide +kernel) cb.out ?_)
        | (refine wl_run (d := some 15) (rn_clss rfl (by exact rfl) (by exact rfl) true (decide_eq_true (by omega))) ?_) | (refine wl_run (d := some 15) (rn_clss rfl (by exact rfl) (by exact rfl) false (decide_eq_false (by omega))) ?_) | (refine wl_alloc (d := some 7) hw nev_zero ?_; clear hw; intro b7 w hw; (try simp only [List.set_cons_succ, List.set_cons_zero, List.setIfInBounds_toArray, Value.cells, List.eraseIdx_cons_succ, List.eraseIdx_cons_zero] at hw)) | (refine wb_storeA (x := Operand.tmp 7) hw rfl rfl (by first | exact Upd.mk 0 rfl | exact Upd.mk 1 rfl | exact Upd.mk 2 rfl | exact Upd.mk 3 rfl | exact Upd.mk 4 rfl | exact Upd.mk 5 rfl | exact Upd.mk 6 rfl | exact Upd.mk 7 rfl | exact Upd.mk 8 rfl) (by rw [nev_info, Nev.size]) (by rw [Nev.size, Nev.size]) (by exact Nev.one _) ?_; clear hw; intro w hw; (try simp only [List.set_cons_succ, List.set_cons_zero, List.setIfInBounds_toArray, Value.cells, List.eraseIdx_cons_succ, List.eraseIdx_cons_zero] at hw)) | (refine wb_load1 (d := some 19)  rfl (by first | exact hw.read 0 rfl | exact hw.read 1 rfl | exact hw.read 2 rfl | exact hw.read 3 rfl | exact hw.read 4 rfl) (by decide +kernel) (by exact Cov.c6 _) ?_))
      go_loopw [21] (fun i wr => ∃ (i2 : Nat) (a2 u2 : Bool), i2 ≤ N ∧ i = .int .i64 i2 ∧ Kp ((a2 || rowA x (b.ls.drop i2)) = (a1 || rowA x b.ls)) ∧ Kp ((u2 || rowU x (b.ls.drop i2)) = (u1 || rowU x b.ls)) ∧ Sat E wr (pt b7 (.cells x.cs 38 (0, 0)) :: pt b5 (.cells b.cs 40 (0, 0)) :: pt b4 (.cells a.cs 40 (0, 0)) :: pt fb (.cells (Mk.mk a2 mk u2 md).cs 73 (0, 0)) :: F)) (fun i _ => N - (intOf i).toNat)
      case atStart => exact ⟨0, a1, u1, by omega, rfl, Kp.mk rfl, Kp.mk rfl, hw⟩
      case round =>
        clear hw
        obtain ⟨i, a2, u2, hi, rfl, hS1, hS2, hw⟩ := hrel
        by_cases hlt2 : i < N
        · obtain ⟨y, hy⟩ : ∃ y, b.ls[i]? = some y := ⟨_, List.getElem?_eq_getElem (by rw [hN.out]; exact hlt2)⟩
          obtain ⟨gb, qb, hBB, hcell⟩ := rd_el (f := Nev.cs) Nev.size (by decide) HB.out (by first | exact hw | exact hw.tail | exact hw.tail.tail | exact hw.tail.tail.tail | exact hw.tail.tail.tail.tail | exact hw.tail.tail.tail.tail.tail | exact hw.tail.tail.tail.tail.tail.tail) hy
          subst hBB
          have HD := Kp.mk hcell
          have hS1 := hS1.out
          have hS2 := hS2.out
          rw [drop_get hy, rowA_cons, ← Bool.or_assoc] at hS1
          rw [drop_get hy, rowU_cons, ← Bool.or_assoc] at hS2
          have hsh := sharedB_eq x y
          obtain ⟨z, hz⟩ : ∃ z, Kp ((!same x.data.c y.data.c) = z) := ⟨_, Kp.mk rfl⟩
          have hun := unlikeB_eq x y
          rw [hz.out] at hun
          rw [hun] at hS2
          have HR1 := Kp.mk hR1
          have HR2 := Kp.mk hR2
          clear hcell hy hun
          have hc : (¬ x.line = y.line) ∨ (x.line = y.line ∧ ¬ x.state = 1) ∨ (x.line = y.line ∧ x.state = 1 ∧ ¬ y.state = 1) ∨ (x.line = y.line ∧ x.state = 1 ∧ y.state = 1) := by omega
          rcases hc with c1 | ⟨c1, c2⟩ | ⟨c1, c2, c3⟩ | ⟨c1, c2, c3⟩
          · have HS1 := Kp.mk (show (a2 || rowA x (b.ls.drop (i + 1))) = (a1 || rowA x b.ls) by rw [← hS1]; simp [c1])
            have HS2 := Kp.mk (show (u2 || rowU x (b.ls.drop (i + 1))) = (u1 || rowU x b.ls) by rw [← hS2]; simp [c1])
            clear hS1 hS2 hsh hR1 hR2
            go_wp2_with (first
              | (refine wl_run (d := some 23) (rn_rdIdx rfl rfl rfl u_nears nev_info hlt2) ?_)
              | (refine wl_run (d := some 24) (rn_rdLdA (m := y.cs) rfl rfl (by rw [nev_agg, Nev.size]) (HD.out _ (by first | exact hw | exact hw.tail | exact hw.tail.tail | exact hw.tail.tail.tail | exact hw.tail.tail.tail.tail | exact hw.tail.tail.tail.tail.tail | exact hw.tail.tail.tail.tail.tail.tail))) ?_)
              | (refine wl_run (d := some 22) (rn_clss rfl (by exact rfl) (by exact rfl) true (decide_eq_true (by omega))) ?_) | (refine wl_run (d := some 22) (rn_clss rfl (by exact rfl) (by exact rfl) false (decide_eq_false (by omega))) ?_) | (refine wl_alloc (d := some 9) hw nev_zero ?_; clear hw; intro b9 w hw; (try simp only [List.set_cons_succ, List.set_cons_zero, List.setIfInBounds_toArray, Value.cells, List.eraseIdx_cons_succ, List.eraseIdx_cons_zero] at hw)) | (refine wb_storeA (x := Operand.tmp 9) hw rfl rfl (by first | exact Upd.mk 0 rfl | exact Upd.mk 1 rfl | exact Upd.mk 2 rfl | exact Upd.mk 3 rfl | exact Upd.mk 4 rfl | exact Upd.mk 5 rfl | exact Upd.mk 6 rfl | exact Upd.mk 7 rfl | exact Upd.mk 8 rfl) (by rw [nev_info, Nev.size]) (by rw [Nev.size, Nev.size]) (by exact Nev.one _) ?_; clear hw; intro w hw; (try simp only [List.set_cons_succ, List.set_cons_zero, List.setIfInBounds_toArray, Value.cells, List.eraseIdx_cons_succ, List.eraseIdx_cons_zero] at hw)) | (refine wb_load1 (d := some 26)  rfl (by first | exact hw.read 0 rfl | exact hw.read 1 rfl | exact hw.read 2 rfl | exact hw.read 3 rfl | exact hw.read 4 rfl) (by decide +kernel) (by exact Nev.c0 _) ?_) | (refine wb_load1 (d := some 28)  rfl (by first | exact hw.read 0 rfl | exact hw.read 1 rfl | exact hw.read 2 rfl | exact hw.read 3 rfl | exact hw.read 4 rfl) (by decide +kernel) (by exact Nev.c0 _) ?_) | (refine wl_run (d := some 29) (rn_cneq rfl (by exact rfl) (by exact rfl) true (decide_eq_true (by omega))) ?_) | (refine wl_run (d := some 29) (rn_cneq rfl (by exact rfl) (by exact rfl) false (decide_eq_false (by omega))) ?_) | (refine wl_run (d := some 52) (rn_cadd rfl (by exact rfl) (by exact rfl) _ rfl (by omega)) ?_))
            go_roundw
            case rel => exact ⟨i + 1, a2, u2, by omega, by go_num, HS1, HS2, (Sat.gets hw (by repeat (first | exact Gets.nil | exact Gets.refl _ | refine Gets.get 0 rfl ?_ | refine Gets.get 1 rfl ?_ | refine Gets.get 2 rfl ?_ | refine Gets.get 3 rfl ?_ | refine Gets.get 4 rfl ?_ | refine Gets.get 5 rfl ?_ | refine Gets.drop ?_)))⟩
            case measure => simp [intOf]; omega
          all_goals (
            obtain ⟨s, hs⟩ : ∃ s, Kp (sharedB x y = s) := ⟨_, Kp.mk rfl⟩
            rw [hs.out] at hS1 hS2
            rw [hs.out] at hsh
            simp only [c1, decide_true, Bool.true_and] at hS1 hS2
            (try simp only [c3, eq_self, decide_true, decide_false, Bool.and_true, Bool.and_false] at hsh)
            (try simp only [c2, eq_self, decide_true, decide_false, Bool.and_true, Bool.and_false, Bool.false_and, Bool.true_and] at hsh)
            subst hsh
            have HS1 := Kp.mk hS1
            have HS2 := Kp.mk hS2
            clear hS1 hS2 hR1 hR2
            go_wp2_with (first
              | (refine wl_run (d := some 23) (rn_rdIdx rfl rfl rfl u_nears nev_info hlt2) ?_)
              | (refine wl_run (d := some 24) (rn_rdLdA (m := y.cs) rfl rfl (by rw [nev_agg, Nev.size]) (HD.out _ (by first | exact hw | exact hw.tail | exact hw.tail.tail | exact hw.tail.tail.tail | exact hw.tail.tail.tail.tail | exact hw.tail.tail.tail.tail.tail | exact hw.tail.tail.tail.tail.tail.tail))) ?_)
              | (go_at_call 41; (first
                  | (refine (Calls.mono (wch_mark1 (hw.front 4 rfl)) ?_); clear hw; rintro e w ⟨rfl, hw⟩; (try simp only [List.set_cons_succ, List.set_cons_zero, List.setIfInBounds_toArray, Value.cells, List.eraseIdx_cons_succ, List.eraseIdx_cons_zero] at hw))
                  | (refine (Calls.mono (wch_mark3 (hw.front 0 rfl)) ?_); clear hw; rintro e w ⟨rfl, hw⟩; (try simp only [List.set_cons_succ, List.set_cons_zero, List.setIfInBounds_toArray, Value.cells, List.eraseIdx_cons_succ, List.eraseIdx_cons_zero] at hw))))
              | (refine wg_run (by rfl) (rn_neqB rfl x.data.c y.data.c rfl rfl line_kinds (by omega) line_sm line_eqg x.data.hf y.data.hf _ hz.out) ?_)
              | (refine wl_run (d := some 22) (rn_clss rfl (by exact rfl) (by exact rfl) true (decide_eq_true (by omega))) ?_) | (refine wl_run (d := some 22) (rn_clss rfl (by exact rfl) (by exact rfl) false (decide_eq_false (by omega))) ?_) | (refine wl_alloc (d := some 9) hw nev_zero ?_; clear hw; intro b9 w hw; (try simp only [List.set_cons_succ, List.set_cons_zero, List.setIfInBounds_toArray, Value.cells, List.eraseIdx_cons_succ, List.eraseIdx_cons_zero] at hw)) | (refine wb_storeA (x := Operand.tmp 9) hw rfl rfl (by first | exact Upd.mk 0 rfl | exact Upd.mk 1 rfl | exact Upd.mk 2 rfl | exact Upd.mk 3 rfl | exact Upd.mk 4 rfl | exact Upd.mk 5 rfl | exact Upd.mk 6 rfl | exact Upd.mk 7 rfl | exact Upd.mk 8 rfl) (by rw [nev_info, Nev.size]) (by rw [Nev.size, Nev.size]) (by exact Nev.one _) ?_; clear hw; intro w hw; (try simp only [List.set_cons_succ, List.set_cons_zero, List.setIfInBounds_toArray, Value.cells, List.eraseIdx_cons_succ, List.eraseIdx_cons_zero] at hw)) | (refine wb_load1 (d := some 26)  rfl (by first | exact hw.read 0 rfl | exact hw.read 1 rfl | exact hw.read 2 rfl | exact hw.read 3 rfl | exact hw.read 4 rfl) (by decide +kernel) (by exact Nev.c0 _) ?_) | (refine wb_load1 (d := some 28)  rfl (by first | exact hw.read 0 rfl | exact hw.read 1 rfl | exact hw.read 2 rfl | exact hw.read 3 rfl | exact hw.read 4 rfl) (by decide +kernel) (by exact Nev.c0 _) ?_) | (refine wl_run (d := some 29) (rn_cneq rfl (by exact rfl) (by exact rfl) true (decide_eq_true (by omega))) ?_) | (refine wl_run (d := some 29) (rn_cneq rfl (by exact rfl) (by exact rfl) false (decide_eq_false (by omega))) ?_) | (refine wb_load1 (d := some 31)  rfl (by first | exact hw.read 0 rfl | exact hw.read 1 rfl | exact hw.read 2 rfl | exact hw.read 3 rfl | exact hw.read 4 rfl) (by decide +kernel) (by exact Nev.c1 _) ?_) | (refine wl_run (d := some 32) (rn_ceql rfl (by exact rfl) (by exact rfl) true (decide_eq_true (by omega))) ?_) | (refine wl_run (d := some 32) (rn_ceql rfl (by exact rfl) (by exact rfl) false (decide_eq_false (by omega))) ?_) | (refine wg_load1 (d := some 35) (by rfl)  rfl (by first | exact hw.read 0 rfl | exact hw.read 1 rfl | exact hw.read 2 rfl | exact hw.read 3 rfl | exact hw.read 4 rfl) (by decide +kernel) (by exact Nev.c1 _) ?_) | (refine wg_run (d := some 36) (by rfl) (rn_ceql rfl (by exact rfl) (by exact rfl) true (decide_eq_true (by omega))) ?_) | (refine wg_run (d := some 36) (by rfl) (rn_ceql rfl (by exact rfl) (by exact rfl) false (decide_eq_false (by omega))) ?_) | (refine wg_loadP (d := some 46) (by rfl)  rfl (by first | exact hw.read 0 rfl | exact hw.read 1 rfl | exact hw.read 2 rfl | exact hw.read 3 rfl | exact hw.read 4 rfl) (by kernel_rfl) (by exact Nev.x2 _) (by rw [Nev.size]; decide) ?_) | (refine wg_loadP (d := some 48) (by rfl)  rfl (by first | exact hw.read 0 rfl | exact hw.read 1 rfl | exact hw.read 2 rfl | exact hw.read 3 rfl | exact hw.read 4 rfl) (by kernel_rfl) (by exact Nev.x2 _) (by rw [Nev.size]; decide) ?_) | (refine wl_run (d := some 52) (rn_cadd rfl (by exact rfl) (by exact rfl) _ rfl (by omega)) ?_))
            go_roundw
            case rel => exact ⟨i + 1, _, _, by omega, by go_num, HS1, HS2, (Sat.gets hw (by repeat (first | exact Gets.nil | exact Gets.refl _ | refine Gets.get 0 rfl ?_ | refine Gets.get 1 rfl ?_ | refine Gets.get 2 rfl ?_ | refine Gets.get 3 rfl ?_ | refine Gets.get 4 rfl ?_ | refine Gets.get 5 rfl ?_ | refine Gets.drop ?_)))⟩
            case measure => simp [intOf]; omega)
        · obtain rfl : N = i := by omega
          have hS1 := hS1.out
          have hS2 := hS2.out
          rw [List.drop_of_length_le (by rw [hN.out]; exact Nat.le_refl _), rowA_nil, Bool.or_false] at hS1
          rw [List.drop_of_length_le (by rw [hN.out]; exact Nat.le_refl _), rowU_nil, Bool.or_false] at hS2
          rw [← Bool.or_assoc, ← hS1] at hR1
          rw [← Bool.or_assoc, ← hS2] at hR2
          have HR1 := Kp.mk hR1
          have HR2 := Kp.mk hR2
          clear hS1 hS2 hR1 hR2
          go_wp2_with (first | (refine wl_run (d := some 22) (rn_clss rfl (by exact rfl) (by exact rfl) true (decide_eq_true (by omega))) ?_) | (refine wl_run (d := some 22) (rn_clss rfl (by exact rfl) (by exact rfl) false (decide_eq_false (by omega))) ?_) | (refine wl_run (d := some 53) (rn_cadd rfl (by exact rfl) (by exact rfl) _ rfl (by omega)) ?_))
          go_roundw
          case rel => exact ⟨j + 1, _, _, by omega, by go_num, HR1, HR2, (Sat.gets hw (by repeat (first | exact Gets.nil | exact Gets.refl _ | refine Gets.get 0 rfl ?_ | refine Gets.get 1 rfl ?_ | refine Gets.get 2 rfl ?_ | refine Gets.get 3 rfl ?_ | refine Gets.get 4 rfl ?_ | refine Gets.get 5 rfl ?_ | refine Gets.drop ?_)))⟩
          case measure => simp [intOf]; omega
    · obtain rfl : M = j := by omega
      have hR1 := hR1.out
      have hR2 := hR2.out
      rw [List.drop_of_length_le (by rw [hM.out]; exact Nat.le_refl _), pairA_nil, Bool.or_false] at hR1
      rw [List.drop_of_length_le (by rw [hM.out]; exact Nat.le_refl _), pairU_nil, Bool.or_false] at hR2
      subst hR1
      subst hR2
      go_wp2_with (first | (refine wl_run (d := some 15) (rn_clss rfl (by exact rfl) (by exact rfl) true (decide_eq_true (by omega))) ?_) | (refine wl_run (d := some 15) (rn_clss rfl (by exact rfl) (by exact rfl) false (decide_eq_false (by omega))) ?_))
      go_end0
      exact ⟨rfl, (Sat.gets hw (by repeat (first | exact Gets.nil | exact Gets.refl _ | refine Gets.get 0 rfl ?_ | refine Gets.get 1 rfl ?_ | refine Gets.get 2 rfl ?_ | refine Gets.get 3 rfl ?_ | refine Gets.get 4 rfl ?_ | refine Gets.get 5 rfl ?_ | refine Gets.drop ?_)))⟩
end
end Go.Proofs.Ytklhmlplabkoeaa
