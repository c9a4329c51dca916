/- bastionref06.Size: how many bytes all parts have. Conditions: none. -/
import Derived.Test.YtklhmlplabkoeaaTouP
set_option linter.unusedVariables false
set_option linter.unusedSimpArgs false
namespace Go.Proofs.Ytklhmlplabkoeaa
open Go.RowKit Go.Bst Go.MapKept Go.Proofs.YtklhmlplabkoeaaW.PrintLast
theorem row_gz {E : Env} {w : World} {H : List HP} {e : TypeId} {sz n c : Nat} {A : Option Addr} {xs : List Value} (s : Sat E w H) (k : Nat) (hk : H[k]? = some (Row e sz (.slice A n c) n xs)) (h : 0 < n) : ∃ gb, A = some ⟨gb, 0, none⟩ := by
  obtain ⟨B, cap, e, _, h2⟩ := Row_val s k hk
  injection e with e1 e2 e3
  subst e1
  exact h2 h
theorem parts_long (p : Pl) : (partsL p).length ≤ 1000 := by
  by_cases h : rightB p = true
  · exact parts_len h
  · have : partsL p = [] := by unfold partsL; rw [if_neg h]
    rw [this]; simp
theorem size_le (p : Pl) : sizeN p ≤ 1000000 := by
  unfold sizeN
  split
  · rename_i h
    have h1 := totN_le h
    have h2 := allI_in h
    have h6 : allN p ≤ 128 := by unfold allN; omega
    omega
  · decide
section
variable {E : Env} {w : World} {F : List HP} {p : Pl}
attribute [local irreducible] wpList Calls Code.wp Code.wpN Oper.wp Go.Proofs.YtklhmlplabkoeaaW.PrintLast.wpAnyLast
set_option maxRecDepth 100000 in
set_option maxHeartbeats 4000000 in
theorem ref_Size (hw : Sat E w F) (hp : p.Ok) : Calls Try.prog 37 #[.agg p.cs] w fun e w' => e = .returned (.int .i64 (sizeN p)) ∧ Sat E w' F := by
  have hlong := parts_long p
  have hz := size_le p
  obtain ⟨Z, hZ⟩ : ∃ Z, Kp (sizeN p = Z) := ⟨_, Kp.mk rfl⟩
  have hsum := sumP_parts p
  rw [hZ.out] at hz hsum ⊢
  have hns := Kp.mk (show ∀ x ∈ partsL p, x.n = 8 ∨ x.n = 32 from fun x hx => parts_n hx)
  obtain ⟨ps, hps⟩ : ∃ ps, Kp (partsL p = ps) := ⟨_, Kp.mk rfl⟩
  obtain ⟨M, hM⟩ : ∃ M, Kp (ps.length = M) := ⟨_, Kp.mk rfl⟩
  obtain ⟨xs, hxs⟩ : ∃ xs, Kp (flat (ps.map Prt.cs) = xs) := ⟨_, Kp.mk rfl⟩
  rw [hps.out] at hlong hsum hns
  rw [hM.out] at hlong
  have HSUM := Kp.mk (show 0 + sumP (ps.drop 0) = (Z : Int) by rw [List.drop_zero, hsum]; omega)
  clear hsum
  go_enter Try.func37, Try.ntmps37
  go_wp2_with (first
    | (go_at_call 38; go_must (refine (Calls.mono (ref_Parts (p := p) hw hp) ?_)); clear hw; rintro e w ⟨A, c, rfl, hw⟩; (try simp only [List.set_cons_succ, List.set_cons_zero, List.setIfInBounds_toArray, Value.cells, List.eraseIdx_cons_succ, List.eraseIdx_cons_zero] at hw))
    | (refine wl_box (d := some 1) hw _ (by simp only [Act.eval, Act.put, List.setIfInBounds_toArray, List.set_cons_succ, List.set_cons_zero, gd_s, gd_0, Value.cells]; exact rfl) ?_; clear hw; intro b1 w hw; (try simp only [List.set_cons_succ, List.set_cons_zero, List.setIfInBounds_toArray, Value.cells, List.eraseIdx_cons_succ, List.eraseIdx_cons_zero] at hw)) | (refine wb_loadA (d := some 6)  rfl (by first | exact hw.read 0 rfl | exact hw.read 1 rfl | exact hw.read 2 rfl | exact hw.read 3 rfl | exact hw.read 4 rfl) (by rw [plan_agg, Pl.size]) ?_))
  rw [hps.out, hM.out, show RowN 100 7 (.slice A M c) M Prt.cs ps = Row 100 7 (.slice A M c) M xs by unfold RowN; rw [hxs.out]] at hw
  rw [hps.out, hM.out]
  go_loopw [3, 5] (fun q i wr => ∃ (j : Nat) (m : Int), j ≤ M ∧ i = .int .i64 j ∧ q = .int .i64 m ∧ 0 ≤ m ∧ m ≤ 1000000 ∧ Kp (m + sumP (ps.drop j) = (Z : Int)) ∧ Sat E wr (Row 100 7 (.slice A M c) M xs :: pt b1 (.cells p.cs 28 (0, 0)) :: F)) (fun _ i _ => M - (intOf i).toNat)
  case atStart => exact ⟨0, 0, by omega, rfl, rfl, by omega, by omega, HSUM, hw⟩
  case round =>
    clear hw
    obtain ⟨j, m, hj, rfl, rfl, hm, hm2, hR, hw⟩ := hrel
    by_cases hlt : j < M
    · obtain ⟨gb, rfl⟩ := row_gz (n := M) hw 0 rfl (by omega)
      obtain ⟨x, hx⟩ : ∃ x, ps[j]? = some x := ⟨_, List.getElem?_eq_getElem (by rw [hM.out]; exact hlt)⟩
      have hc := rowN_cells (f := Prt.cs) Prt.size hx
      rw [hxs.out] at hc
      have hc6 := Kp.mk (show xs[j * 7 + 6]? = some (.int .i64 x.n) from hc 6 _ (prt_c (Prt.c6 _)))
      have hxn := hns.out x (List.mem_of_getElem? hx)
      have hdrop : ps.drop j = x :: ps.drop (j + 1) := by
        obtain ⟨hl, e⟩ := List.getElem?_eq_some_iff.1 hx
        rw [List.drop_eq_getElem_cons hl, e]
      have hpos : 0 ≤ sumP (ps.drop (j + 1)) := sumP_pos fun y hy => hns.out y (List.mem_of_mem_drop hy)
      have hR2 := hR.out
      rw [hdrop, sumP_cons] at hR2
      have HR := Kp.mk (show (m + x.n) + sumP (ps.drop (j + 1)) = (Z : Int) by omega)
      have hmx : m + x.n ≤ 1000000 := by omega
      clear hx hc hdrop hR hR2 hpos
      go_wp2_with (first
        | (refine wl_run (rn_rowIdx rfl hw 0 rfl rfl j (j * 7) rfl rfl (by kernel_rfl) (by kernel_rfl) (by omega)) ?_)
        | (refine wl_run (d := some 19) (rn_rowLd1 rfl hw 0 rfl rfl (by decide +kernel) _ hc6.out) ?_)
        | (refine wl_run (d := some 11) (rn_clss rfl (by exact rfl) (by exact rfl) true (decide_eq_true (by omega))) ?_) | (refine wl_run (d := some 11) (rn_clss rfl (by exact rfl) (by exact rfl) false (decide_eq_false (by omega))) ?_) | (refine wl_run (d := some 13) (rn_cadd rfl (by exact rfl) (by exact rfl) _ rfl (by omega)) ?_) | (refine wl_run (d := some 20) (rn_cadd rfl (by exact rfl) (by exact rfl) _ rfl (by omega)) ?_))
      go_roundw
      case rel => exact ⟨j + 1, m + x.n, by omega, by go_num, rfl, by omega, hmx, HR, hw⟩
      case measure => simp [intOf]; omega
    · obtain rfl : M = j := by omega
      have h1 := hR.out
      rw [List.drop_of_length_le (by rw [hM.out]; exact Nat.le_refl _)] at h1
      have hmZ := Kp.mk (show m = (Z : Int) by rw [← h1]; show _ = m + 0; omega)
      clear h1 hR
      go_wp2_with (first | (refine wl_run (d := some 11) (rn_clss rfl (by exact rfl) (by exact rfl) true (decide_eq_true (by omega))) ?_) | (refine wl_run (d := some 11) (rn_clss rfl (by exact rfl) (by exact rfl) false (decide_eq_false (by omega))) ?_))
      go_ret
      exact ⟨by rw [hmZ.out]; rfl, (Sat.gets hw (by repeat (first | exact Gets.nil | exact Gets.refl _ | refine Gets.get 0 rfl ?_ | refine Gets.get 1 rfl ?_ | refine Gets.get 2 rfl ?_ | refine Gets.get 3 rfl ?_ | refine Gets.get 4 rfl ?_ | refine Gets.get 5 rfl ?_ | refine Gets.drop ?_)))⟩
end
end Go.Proofs.Ytklhmlplabkoeaa
