/- A turn's bytes: act.turn, act.number, bastionref21.at. Conditions: none. -/
import Derived.Test.YtmjbhpaefhnnnaaActL
import Derived.Test.YtmjbhpaefhnnnaaBits
import Derived.Test.YtmjbhpaefhnnnaaCopy
import Derived.Test.YtmjbhpaefhnnnaaCvt
import Derived.Test.YtmjbhpaefhnnnaaCmp
import Derived.Test.YtmjbhpaefhnnnaaProg
import Derived.Test.YtmjbhpaefhnnnaaRows
import Derived.Deep.Cut
set_option linter.unusedVariables false
set_option linter.unusedSimpArgs false
namespace Go.Proofs.Ytmjbhpaefhnnnaa
open Go.RowKit Go.Bst Go.MapKept Go.Proofs.YtmjbhpaefhnnnaaW.PrintLast
attribute [local irreducible] wpList Calls Code.wp Code.wpN Oper.wp Go.Proofs.YtmjbhpaefhnnnaaW.PrintLast.wpAnyLast
section
variable {E : Env} {w : World} {F : List HP} {b : List UInt8}
theorem u_arr : Try.prog.underlying 25 = some (.array 16 5) := by kernel_rfl
theorem arr_zero : zeroOf Try.prog 25 = some (.agg #[.int .u8 0, .int .u8 0, .int .u8 0, .int .u8 0, .int .u8 0, .int .u8 0, .int .u8 0, .int .u8 0, .int .u8 0, .int .u8 0, .int .u8 0, .int .u8 0, .int .u8 0, .int .u8 0, .int .u8 0, .int .u8 0]) := by kernel_rfl
theorem arr_agg : aggSize Try.prog 25 = some 16 := by kernel_rfl
theorem arr_info : (Try.prog.info? 25).map (·.size) = some 16 := by kernel_rfl
set_option maxRecDepth 100000 in
set_option maxHeartbeats 1000000 in
theorem act_turn {v : Value} (hw : Sat E w F) (hR : ∀ w', Sat E w' F → Rd w' 1 v b.length (ybs b)) : Calls Try.prog 31 #[v] w fun e w' => e = .returned (.agg (tcs b)) ∧ Sat E w' F := by
  have HR := Kp.mk hR
  clear hR
  go_enter Try.func31, Try.ntmps31
  go_wp2_with (first
    | (refine wl_alloc hw arr_zero ?_; clear hw; intro b2 w hw; (try simp only [List.set_cons_succ, List.set_cons_zero, List.setIfInBounds_toArray, Value.cells, List.eraseIdx_cons_succ, List.eraseIdx_cons_zero] at hw))
    | (refine wl_run (rn_sliceArr 0 16 rfl rfl u_arr byte_size (.inl ⟨rfl, rfl⟩) (.inl ⟨rfl, rfl⟩) (by omega) (by omega)) ?_)
    | ((refine wl_copy1 (off := 0) (dl := 16) (dcap := 16) (src := v) hw 0 rfl rfl rfl (HR.out _ hw.tail) u_bytes byte_size ybs_one (by decide) ?_); clear hw; intro w hw; (try simp only [List.set_cons_succ, List.set_cons_zero, List.setIfInBounds_toArray, Value.cells, List.eraseIdx_cons_succ, List.eraseIdx_cons_zero] at hw); rw [tcs_fill] at hw)
    | (refine wl_load_all hw rfl 0 rfl (by rw [arr_agg, tcs_size]) ?_)
    | (refine wl_store_all (vs := (tcs b)) hw rfl 0 rfl rfl (by rw [arr_info, tcs_size]) rfl (tcs_one _) ?_; clear hw; intro w hw; (try simp only [List.set_cons_succ, List.set_cons_zero, List.setIfInBounds_toArray, Value.cells, List.eraseIdx_cons_succ, List.eraseIdx_cons_zero] at hw)))
  refine ret_cell rfl hw rfl 0 rfl (by rw [arr_agg, tcs_size]) rfl ?_
  exact ⟨rfl, hw.tail⟩
theorem tl_two (b : List UInt8) (i : Nat) (h : i + 2 ≤ 16) : ((ybs (tl b)).drop i).take (2 * 1) = ybs [tb b i, tb b (i + 1)] := by
  apply List.ext_getElem?
  intro j
  rw [List.getElem?_take, List.getElem?_drop]
  by_cases hj : j < 2
  · rw [if_pos (by omega)]
    have e : (ybs (tl b))[i + j]? = some (Y (tb b (i + j))) := by
      unfold ybs; rw [List.getElem?_map, tl_at b (by omega)]; rfl
    rw [e]
    rcases (by omega : j = 0 ∨ j = 1) with rfl | rfl <;> rfl
  · rw [if_neg (by omega)]
    rw [List.getElem?_eq_none]; simp [ybs]; omega
set_option maxRecDepth 100000 in
set_option maxHeartbeats 1000000 in
theorem act_number (i : Nat) (hi : i + 2 ≤ 15) {j : Int} (hj : j = (i : Int) + 2) (hw : Sat E w F) : Calls Try.prog 32 #[.agg (tcs b), .int .i64 i, .int .i64 j] w fun e w' => e = .returned (.int .i64 (num2 b i)) ∧ Sat E w' F := by
  have hn := num2_lt b i
  have e2 : Kp ((rd [tb b i, tb b (i + 1)]).toNat = num2 b i) := Kp.mk (rd_two _ _)
  obtain rfl : j = ((i + 2 : Nat) : Int) := by omega
  have hne : ¬ (16 = i) := by omega
  go_enter Try.func32, Try.ntmps32
  go_wp2_with (first
    | (refine wl_box hw _ (by simp only [Act.eval, Act.put, List.setIfInBounds_toArray, List.set_cons_succ, List.set_cons_zero, gd_s, gd_0, Value.cells]; exact rfl) ?_; clear hw; intro b3 w hw; (try simp only [List.set_cons_succ, List.set_cons_zero, List.setIfInBounds_toArray, Value.cells, List.eraseIdx_cons_succ, List.eraseIdx_cons_zero] at hw))
    | (refine wl_run (rn_sliceArr i (i + 2) rfl rfl u_arr byte_size (.inr rfl) (.inr rfl) (by omega) (by omega)) ?_; rw [if_neg hne, show i + 2 - i = 2 by omega])
    | (go_at_call 38; go_must (refine (clone_bytes (l := [tb b i, tb b (i + 1)]) hw (fun w' hs => Rd_arr (n := 2) (cap := 16 - i) (off := i) hs 0 rfl (show 2 ≤ 16 - i by omega) (ybs [tb b i, tb b (i + 1)]) rfl (tl_two b i (by omega)).symm) (by simp)).mono ?_); clear hw; rintro e w ⟨vc, rfl, hw⟩; (try simp only [List.set_cons_succ, List.set_cons_zero, List.setIfInBounds_toArray, Value.cells, List.eraseIdx_cons_succ, List.eraseIdx_cons_zero] at hw))
    | (go_at_call 33; go_must (refine (bits_read (l := [tb b i, tb b (i + 1)]) (Rd_row hw 0 rfl) (by simp)).mono ?_); rintro e w1 ⟨rfl, rfl⟩)
    | (refine wl_run (rn_u2i (num2 b i) (by rw [e2.out]) (by omega) rfl rfl u_u64 u_int) ?_))
  go_ret
  exact ⟨rfl, (Sat.gets hw (by repeat (first | exact Gets.nil | exact Gets.refl _ | refine Gets.get 0 rfl ?_ | refine Gets.get 1 rfl ?_ | refine Gets.get 2 rfl ?_ | refine Gets.get 3 rfl ?_ | refine Gets.get 4 rfl ?_ | refine Gets.get 5 rfl ?_ | refine Gets.get 6 rfl ?_ | refine Gets.get 7 rfl ?_ | refine Gets.get 8 rfl ?_ | refine Gets.get 9 rfl ?_ | refine Gets.drop ?_)))⟩
set_option maxRecDepth 100000 in
theorem ref_at {v : Value} {i : Nat} (hw : Sat E w F) (hR : ∀ w', Sat E w' F → Rd w' 1 v b.length (ybs b)) (hb : b.length ≤ 1000) : Calls Try.prog 35 #[v, .int .i64 i] w fun e w' => e = .returned (.int .i64 ((tb b i).toNat : Int)) ∧ Sat E w' F := by
  have hr := hR w hw
  obtain ⟨A, cap, rfl, hcap⟩ := hr.form
  by_cases hlt : i < b.length
  · have hlt' : (i : Int) < (b.length : Int) := by omega
    have hcell : Kp ((ybs b)[i]? = some (Y (tb b i))) := Kp.mk (by
      unfold ybs tb; rw [List.getElem?_map, List.getD_eq_getElem?_getD, List.getElem?_eq_getElem hlt]; rfl)
    go_enter Try.func35, Try.ntmps35
    go_wp2_with (first
      | (refine wl_index (i : Int) hr rfl rfl u_bytes byte_size (by omega) (by omega) ?_; intro ad hA hca; have ca := Kp.mk (hca i _ hcell.out); clear hca hA)
      | (refine wl_ld1 (v := Y (tb b i)) rfl (by decide +kernel) (by rw [Int.toNat_natCast, Nat.mul_one]; exact ca.out) ?_)
      | (refine wl_run (rn_y2i rfl rfl u_u8 u_int) ?_))
    go_ret
    exact ⟨rfl, hw⟩
  · have hge : ¬ ((i : Int) < (b.length : Int)) := by omega
    have e0 : Kp (tb b i = 0) := Kp.mk (by unfold tb; rw [List.getD_eq_getElem?_getD, List.getElem?_eq_none (by omega)]; rfl)
    go_enter Try.func35, Try.ntmps35
    go_wp2
    go_ret
    exact ⟨by rw [e0.out]; rfl, hw⟩
end
end Go.Proofs.Ytmjbhpaefhnnnaa
