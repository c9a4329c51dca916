/- watch: what a bank knows of a line. Conditions: none. -/
import Derived.Test.YtklhmlplabkoeaaEdg
import Derived.Test.YtklhmlplabkoeaaWchM
import Derived.Test.YtklhmlplabkoeaaWchE
set_option linter.unusedVariables false
set_option linter.unusedSimpArgs false
namespace Go.Proofs.Ytklhmlplabkoeaa
open Go.RowKit Go.Bst Go.MapKept Go.Proofs.YtklhmlplabkoeaaW.PrintLast
theorem u_fars : Try.prog.underlying 43 = some (.slice 81) := by kernel_rfl
theorem u_nears : Try.prog.underlying 34 = some (.slice 38) := by kernel_rfl
theorem u_cores : Try.prog.underlying 29 = some (.slice 40) := by kernel_rfl
theorem u_banks : Try.prog.underlying 30 = some (.slice 45) := by kernel_rfl
section
variable {E : Env} {w : World} {F : List HP} {p : Pl}
attribute [local irreducible] andI hasF knowsB wpList Calls Code.wp Code.wpN Oper.wp Go.Proofs.YtklhmlplabkoeaaW.PrintLast.wpAnyLast
theorem hasF_eq (x : Fav) (c : Int) : hasF x c = (decide (x.owner = c) || decide (andI (x.sharers.fdiv (2 ^ (min c.toNat 64))) 1 = 1)) := by unfold hasF; rfl
set_option maxRecDepth 100000 in
theorem wch_has {x : Fav} {c : Int} (hc : 0 ≤ c) (hw : Sat E w F) : Calls Try.prog 67 #[.agg x.cs, .int .i64 c] w fun e w' => e = .returned (.bool (hasF x c)) ∧ Sat E w' F := by
  obtain ⟨z, hz⟩ : ∃ z, Kp (andI (x.sharers.fdiv (2 ^ (min c.toNat 64))) 1 = z) := ⟨_, Kp.mk rfl⟩
  have e := Kp.mk (hasF_eq x c)
  rw [hz.out] at e
  rw [e.out]
  by_cases h1 : x.owner = c
  · go_enter Try.func67, Try.ntmps67
    go_wp2_with (first | (refine wl_box (d := some 2) hw _ (by simp only [Act.eval, Act.put, List.setIfInBounds_toArray, List.set_cons_succ, List.set_cons_zero, gd_s, gd_0, Value.cells]; exact rfl) ?_; clear hw; intro b2 w hw; (try simp only [List.set_cons_succ, List.set_cons_zero, List.setIfInBounds_toArray, Value.cells, List.eraseIdx_cons_succ, List.eraseIdx_cons_zero] at hw)) | (refine wb_load1 (d := some 6)  rfl (by first | exact hw.read 0 rfl | exact hw.read 1 rfl | exact hw.read 2 rfl | exact hw.read 3 rfl | exact hw.read 4 rfl) (by decide +kernel) (by exact Fav.c1 _) ?_) | (refine wl_run (d := some 8) (rn_ceql rfl (by exact rfl) (by exact rfl) true (decide_eq_true (by omega))) ?_) | (refine wl_run (d := some 8) (rn_ceql rfl (by exact rfl) (by exact rfl) false (decide_eq_false (by omega))) ?_) | (refine wg_load1 (d := some 11) (by rfl)  rfl (by first | exact hw.read 0 rfl | exact hw.read 1 rfl | exact hw.read 2 rfl | exact hw.read 3 rfl | exact hw.read 4 rfl) (by decide +kernel) (by exact Fav.c2 _) ?_) | (refine wg_run (d := some 15) (by rfl) (rn_ceql rfl (by exact rfl) (by exact rfl) true (decide_eq_true (by omega))) ?_) | (refine wg_run (d := some 15) (by rfl) (rn_ceql rfl (by exact rfl) (by exact rfl) false (decide_eq_false (by omega))) ?_))
    go_ret
    exact ⟨by simp [h1], (Sat.gets hw (by repeat (first | exact Gets.nil | exact Gets.refl _ | refine Gets.get 0 rfl ?_ | refine Gets.get 1 rfl ?_ | refine Gets.get 2 rfl ?_ | refine Gets.get 3 rfl ?_ | refine Gets.get 4 rfl ?_ | refine Gets.get 5 rfl ?_ | refine Gets.drop ?_)))⟩
  · by_cases h2 : z = 1
    all_goals (
      go_enter Try.func67, Try.ntmps67
      go_wp2_with (first
        | (refine wg_run (by rfl) (rn_ishr rfl (by exact rfl) (by exact rfl) hc) ?_)
        | (refine wg_run (by rfl) (rn_iand rfl (by exact rfl) (by exact rfl)) ?_; rw [hz.out])
        | (refine wl_box (d := some 2) hw _ (by simp only [Act.eval, Act.put, List.setIfInBounds_toArray, List.set_cons_succ, List.set_cons_zero, gd_s, gd_0, Value.cells]; exact rfl) ?_; clear hw; intro b2 w hw; (try simp only [List.set_cons_succ, List.set_cons_zero, List.setIfInBounds_toArray, Value.cells, List.eraseIdx_cons_succ, List.eraseIdx_cons_zero] at hw)) | (refine wb_load1 (d := some 6)  rfl (by first | exact hw.read 0 rfl | exact hw.read 1 rfl | exact hw.read 2 rfl | exact hw.read 3 rfl | exact hw.read 4 rfl) (by decide +kernel) (by exact Fav.c1 _) ?_) | (refine wl_run (d := some 8) (rn_ceql rfl (by exact rfl) (by exact rfl) true (decide_eq_true (by omega))) ?_) | (refine wl_run (d := some 8) (rn_ceql rfl (by exact rfl) (by exact rfl) false (decide_eq_false (by omega))) ?_) | (refine wg_load1 (d := some 11) (by rfl)  rfl (by first | exact hw.read 0 rfl | exact hw.read 1 rfl | exact hw.read 2 rfl | exact hw.read 3 rfl | exact hw.read 4 rfl) (by decide +kernel) (by exact Fav.c2 _) ?_) | (refine wg_run (d := some 15) (by rfl) (rn_ceql rfl (by exact rfl) (by exact rfl) true (decide_eq_true (by omega))) ?_) | (refine wg_run (d := some 15) (by rfl) (rn_ceql rfl (by exact rfl) (by exact rfl) false (decide_eq_false (by omega))) ?_))
      go_ret
      exact ⟨by simp [h1, h2], (Sat.gets hw (by repeat (first | exact Gets.nil | exact Gets.refl _ | refine Gets.get 0 rfl ?_ | refine Gets.get 1 rfl ?_ | refine Gets.get 2 rfl ?_ | refine Gets.get 3 rfl ?_ | refine Gets.get 4 rfl ?_ | refine Gets.get 5 rfl ?_ | refine Gets.drop ?_)))⟩)
set_option maxRecDepth 100000 in
theorem wch_known1 {x : Fav} {l c : Int} {b1 b2 : Nat} (hc : 0 ≤ c) (h1 : ∀ w', Sat E w' F → w'.heap[b1]? = some (.cells #[.int .i64 l] 3 (0, 0))) (h2 : ∀ w', Sat E w' F → w'.heap[b2]? = some (.cells #[.int .i64 c] 3 (0, 0))) (hw : Sat E w F) :
    Calls Try.prog 66 #[.agg x.cs, .pointer (some ⟨b1, 0, none⟩), .pointer (some ⟨b2, 0, none⟩)] w fun e w' => e = .returned (.bool (decide (x.line = l) && hasF x c)) ∧ Sat E w' F := by
  obtain ⟨z, hz⟩ : ∃ z, Kp (hasF x c = z) := ⟨_, Kp.mk rfl⟩
  have H1 := Kp.mk h1
  have H2 := Kp.mk h2
  clear h1 h2
  rw [hz.out]
  by_cases h0 : x.line = l
  all_goals (
    go_enter Try.func66, Try.ntmps66
    go_wp2_with (first
      | (refine wl_run (d := some 7) (rn_blk1 rfl rfl (by decide +kernel) (H1.out _ (by first | exact hw | exact hw.tail | exact hw.tail.tail | exact hw.tail.tail.tail | exact hw.tail.tail.tail.tail | exact hw.tail.tail.tail.tail.tail | exact hw.tail.tail.tail.tail.tail.tail)) (v := .int .i64 l) rfl) ?_)
      | (refine wg_run (d := some 11) (by rfl) (rn_blk1 rfl rfl (by decide +kernel) (H2.out _ (by first | exact hw | exact hw.tail | exact hw.tail.tail | exact hw.tail.tail.tail | exact hw.tail.tail.tail.tail | exact hw.tail.tail.tail.tail.tail | exact hw.tail.tail.tail.tail.tail.tail)) (v := .int .i64 c) rfl) ?_)
      | (refine wl_want (by rfl) (fun K hK => ?_); refine wk_call 67 rfl (by kernel_rfl) ?_; simp only [List.map_toArray, List.map_cons, List.map_nil, Act.eval, gd_s, gd_0]; go_must (refine (Calls.mono (wch_has (x := x) hc hw) ?_)); clear hw; rintro e w ⟨rfl, hw⟩; rw [hz.out]; (try simp only [List.set_cons_succ, List.set_cons_zero, List.setIfInBounds_toArray, Value.cells, List.eraseIdx_cons_succ, List.eraseIdx_cons_zero] at hw); refine ⟨_, rfl, ?_⟩; refine hK _ _ ?_; clear hK K)
      | (refine wl_box (d := some 3) hw _ (by simp only [Act.eval, Act.put, List.setIfInBounds_toArray, List.set_cons_succ, List.set_cons_zero, gd_s, gd_0, Value.cells]; exact rfl) ?_; clear hw; intro b3 w hw; (try simp only [List.set_cons_succ, List.set_cons_zero, List.setIfInBounds_toArray, Value.cells, List.eraseIdx_cons_succ, List.eraseIdx_cons_zero] at hw)) | (refine wb_load1 (d := some 6)  rfl (by first | exact hw.read 0 rfl | exact hw.read 1 rfl | exact hw.read 2 rfl | exact hw.read 3 rfl | exact hw.read 4 rfl) (by decide +kernel) (by exact Fav.c0 _) ?_) | (refine wl_run (d := some 8) (rn_ceql rfl (by exact rfl) (by exact rfl) true (decide_eq_true (by omega))) ?_) | (refine wl_run (d := some 8) (rn_ceql rfl (by exact rfl) (by exact rfl) false (decide_eq_false (by omega))) ?_) | (refine wg_loadA (d := some 10) (by rfl)  rfl (by first | exact hw.read 0 rfl | exact hw.read 1 rfl | exact hw.read 2 rfl | exact hw.read 3 rfl | exact hw.read 4 rfl) (by rw [fav_agg, Fav.size]) ?_))
    go_ret
    exact ⟨by simp [h0], (Sat.gets hw (by repeat (first | exact Gets.nil | exact Gets.refl _ | refine Gets.get 0 rfl ?_ | refine Gets.get 1 rfl ?_ | refine Gets.get 2 rfl ?_ | refine Gets.get 3 rfl ?_ | refine Gets.get 4 rfl ?_ | refine Gets.get 5 rfl ?_ | refine Gets.drop ?_)))⟩)
theorem knows_cons (l n : Int) (x : Fav) (ls : List Fav) : knowsB l n (x :: ls) = (decide (x.line = l) && hasF x n || knowsB l n ls) := by unfold knowsB; rfl
theorem knows_nil (l n : Int) : knowsB l n [] = false := by unfold knowsB; rfl
set_option maxRecDepth 100000 in
theorem wch_index {ls : List Fav} {A : Option Addr} {l c : Int} {b1 b2 n cap : Nat} (hc : 0 ≤ c) (h1 : ∀ w', Sat E w' F → w'.heap[b1]? = some (.cells #[.int .i64 l] 3 (0, 0))) (h2 : ∀ w', Sat E w' F → w'.heap[b2]? = some (.cells #[.int .i64 c] 3 (0, 0))) (hw : Sat E w F)
    (hn : ls.length = n) (hn2 : n ≤ 1000) (hr : ∀ w', Sat E w' F → Rd w' 36 (.slice A ls.length cap) ls.length (flat (ls.map Fav.cs))) :
    Calls Try.prog 71 #[.slice A n cap, .func (.func 66) #[] #[.pointer (some ⟨b1, 0, none⟩), .pointer (some ⟨b2, 0, none⟩)]] w fun e w' => (∃ i : Nat, i < 1000 ∧ knowsB l c ls = true ∧ e = .returned (.int .i64 i) ∧ Sat E w' F) ∨ (knowsB l c ls = false ∧ e = .returned (.int .i64 (-1)) ∧ Sat E w' F) := by
  have HR := Kp.mk hr
  have H1 := Kp.mk h1
  have H2 := Kp.mk h2
  have HN := Kp.mk hn
  have HW := Kp.mk hw
  clear hr h1 h2 hn
  go_enter Try.func71, Try.ntmps71
  go_wp2_with (first | (fail))
  go_loopw [8] (fun i wr => ∃ j : Nat, j ≤ n ∧ i = .int .i64 j ∧ Kp (knowsB l c (ls.drop j) = knowsB l c ls) ∧ Sat E wr F) (fun i _ => n - (intOf i).toNat)
  case atStart => exact ⟨0, by omega, rfl, Kp.mk rfl, hw⟩
  case round =>
    clear hw
    obtain ⟨j, hj, rfl, hR, hw⟩ := hrel
    by_cases hlt : j < n
    · obtain ⟨x, hx⟩ : ∃ x, ls[j]? = some x := ⟨_, List.getElem?_eq_getElem (by rw [HN.out]; exact hlt)⟩
      obtain ⟨b, q, rfl, hcell⟩ := rd_el (f := Fav.cs) Fav.size (by decide) HR.out hw hx
      have HC := Kp.mk hcell
      have hdrop : ls.drop j = x :: ls.drop (j + 1) := by
        obtain ⟨hl, e⟩ := List.getElem?_eq_some_iff.1 hx
        rw [List.drop_eq_getElem_cons hl, e]
      have hR2 := hR.out
      rw [hdrop, knows_cons] at hR2
      obtain ⟨z, hz⟩ : ∃ z, Kp ((decide (x.line = l) && hasF x c) = z) := ⟨_, Kp.mk rfl⟩
      rw [hz.out] at hR2
      clear hcell hx hdrop hR
      cases z with
      | true =>
        have HT := Kp.mk (show knowsB l c ls = true by rw [← hR2]; rfl)
        clear hR2
        go_wp2_with (first
          | (refine wl_run (d := some 14) (rn_rdIdx rfl rfl rfl u_fars fav_info hlt) ?_)
          | (refine wl_run (d := some 15) (rn_rdLdA (m := x.cs) rfl rfl (by rw [fav_agg, Fav.size]) (HC.out _ hw)) ?_)
          | (refine wl_callV 66 rfl (by kernel_rfl) ?_; simp only [List.map_toArray, List.map_cons, List.map_nil, Act.eval, gd_s, gd_0, List.append_toArray, List.cons_append, List.nil_append]; go_must (refine (Calls.mono (wch_known1 (x := x) hc H1.out H2.out hw) ?_)); clear hw; rintro e w ⟨rfl, hw⟩; rw [hz.out]; refine ⟨_, rfl, ?_⟩)
          | (refine wl_run (d := some 9) (rn_clss rfl (by exact rfl) (by exact rfl) true (decide_eq_true (by omega))) ?_) | (refine wl_run (d := some 9) (rn_clss rfl (by exact rfl) (by exact rfl) false (decide_eq_false (by omega))) ?_))
        go_ret
        exact .inl ⟨j, by omega, HT.out, rfl, hw⟩
      | false =>
        have HR2 := Kp.mk (show knowsB l c (ls.drop (j + 1)) = knowsB l c ls by rw [← hR2]; rfl)
        clear hR2
        go_wp2_with (first
          | (refine wl_run (d := some 14) (rn_rdIdx rfl rfl rfl u_fars fav_info hlt) ?_)
          | (refine wl_run (d := some 15) (rn_rdLdA (m := x.cs) rfl rfl (by rw [fav_agg, Fav.size]) (HC.out _ hw)) ?_)
          | (refine wl_callV 66 rfl (by kernel_rfl) ?_; simp only [List.map_toArray, List.map_cons, List.map_nil, Act.eval, gd_s, gd_0, List.append_toArray, List.cons_append, List.nil_append]; go_must (refine (Calls.mono (wch_known1 (x := x) hc H1.out H2.out hw) ?_)); clear hw; rintro e w ⟨rfl, hw⟩; rw [hz.out]; refine ⟨_, rfl, ?_⟩)
          | (refine wl_run (d := some 9) (rn_clss rfl (by exact rfl) (by exact rfl) true (decide_eq_true (by omega))) ?_) | (refine wl_run (d := some 9) (rn_clss rfl (by exact rfl) (by exact rfl) false (decide_eq_false (by omega))) ?_) | (refine wl_run (d := some 18) (rn_cadd rfl (by exact rfl) (by exact rfl) _ rfl (by omega)) ?_))
        go_roundw
        case rel => exact ⟨j + 1, by omega, by go_num, HR2, hw⟩
        case measure => simp [intOf]; omega
    · obtain rfl : n = j := by omega
      have h := hR.out
      rw [List.drop_of_length_le (by rw [HN.out]; exact Nat.le_refl _), knows_nil] at h
      have HT := Kp.mk h.symm
      clear h
      go_wp2_with (first | (refine wl_run (d := some 9) (rn_clss rfl (by exact rfl) (by exact rfl) true (decide_eq_true (by omega))) ?_) | (refine wl_run (d := some 9) (rn_clss rfl (by exact rfl) (by exact rfl) false (decide_eq_false (by omega))) ?_))
      go_ret
      exact .inr ⟨HT.out, rfl, hw⟩
end
end Go.Proofs.Ytklhmlplabkoeaa
