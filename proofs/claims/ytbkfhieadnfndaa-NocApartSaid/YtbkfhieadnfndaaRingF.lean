/- What First of package ring does; the example of the document. Conditions: none. -/
import Derived.Test.YtbkfhieadnfndaaRingR
set_option linter.unusedVariables false
set_option linter.unusedSimpArgs false
namespace Go.Proofs.Ytbkfhieadnfndaa
open Go.RowKit Go.Bst
attribute [local irreducible] wpList Calls Code.wp Code.wpN Oper.wp Go.Proofs.YtbkfhieadnfndaaW.PrintLast.wpAnyLast

set_option maxRecDepth 100000 in
set_option maxHeartbeats 1000000 in
theorem ring_first_none {E : Env} {w : World} {q room : Nat} {F : List HP} (hw : Sat E w (Queue q room [] :: F)) :
    Calls Try.prog 23 #[.pointer (some ⟨q, 0, none⟩)] w fun e w' =>
      e = .returned (.tuple #[.agg msg0, .int .i64 6]) ∧ Sat E w' (Queue q room [] :: F) := by
  go_enter Try.func23, Try.ntmps23
  go_wp2_with (first
    | (refine wl_alloc hw msg_zero ?_; clear hw; intro b w hw; (try simp only [List.set_cons_succ, List.set_cons_zero, List.setIfInBounds_toArray, Value.cells, List.eraseIdx_cons_succ, List.eraseIdx_cons_zero] at hw))
    | (go_at_call 19; refine (ring_all (hw.front 1 rfl)).mono ?_; clear hw; rintro e w ⟨v, rfl, hw⟩; (try simp only [List.set_cons_succ, List.set_cons_zero, List.setIfInBounds_toArray, Value.cells, List.eraseIdx_cons_succ, List.eraseIdx_cons_zero] at hw); obtain ⟨A, cap, rfl, hc, hg⟩ := Row_val hw 0 rfl; clear hg))
  refine wp_loop_once ?_
  go_wp2_with (refine wl_store_all (vs := msg0) hw rfl 2 rfl rfl msg_size rfl (Msg.one msg0_ok) ?_; clear hw; intro w hw; (try simp only [List.set_cons_succ, List.set_cons_zero, List.setIfInBounds_toArray, Value.cells, List.eraseIdx_cons_succ, List.eraseIdx_cons_zero] at hw))
  refine ret_cell_tmp rfl hw rfl 2 rfl msg_agg _ rfl rfl ?_
  have hw := (hw.del 0 rfl).del 1 rfl
  (try simp only [List.set_cons_succ, List.set_cons_zero, List.setIfInBounds_toArray, Value.cells, List.eraseIdx_cons_succ, List.eraseIdx_cons_zero] at hw)
  exact ⟨rfl, hw⟩

set_option maxRecDepth 100000 in
set_option maxHeartbeats 1000000 in
theorem ring_first {E : Env} {w : World} {q room : Nat} {l : List (Array Value)} {m : Array Value} {F : List HP} (hw : Sat E w (Queue q room (m :: l) :: F)) :
    Calls Try.prog 23 #[.pointer (some ⟨q, 0, none⟩)] w fun e w' =>
      e = .returned (.tuple #[.agg m, .int .i64 0]) ∧ Sat E w' (Queue q room (m :: l) :: F) := by
  have hq := (Queue_open hw).1
  have hms := (hq.2.2 m (by simp)).size
  have hmo := (hq.2.2 m (by simp)).one
  have hlt : (0 : Int) < ((m :: l).length : Int) := by simp
  go_enter Try.func23, Try.ntmps23
  go_wp2_with (first
    | (refine wl_alloc hw msg_zero ?_; clear hw; intro b w hw; (try simp only [List.set_cons_succ, List.set_cons_zero, List.setIfInBounds_toArray, Value.cells, List.eraseIdx_cons_succ, List.eraseIdx_cons_zero] at hw))
    | (go_at_call 19; refine (ring_all (hw.front 1 rfl)).mono ?_; clear hw; rintro e w ⟨v, rfl, hw⟩; (try simp only [List.set_cons_succ, List.set_cons_zero, List.setIfInBounds_toArray, Value.cells, List.eraseIdx_cons_succ, List.eraseIdx_cons_zero] at hw); obtain ⟨A, cap, rfl, hc, hg⟩ := Row_val hw 0 rfl; clear hg))
  refine wp_loop_once ?_
  go_wp2_with (first
    | (refine wl_index 0 (Rd_row hw 0 rfl) rfl rfl u_msgs msg_size (by omega) (by simp) ?_; intro ad hA hca; have ca := Kp.mk (cells_at (k := 0) hca (fun x hx => (hq.2.2 x hx).size) rfl); clear hca)
    | (refine wl_ldA (m := m) rfl (by rw [msg_agg, hms]) ca.out ?_)
    | (refine wl_alloc hw msg_zero ?_; clear hw; intro b2 w hw; (try simp only [List.set_cons_succ, List.set_cons_zero, List.setIfInBounds_toArray, Value.cells, List.eraseIdx_cons_succ, List.eraseIdx_cons_zero] at hw))
    | (refine wl_store_all (vs := m) hw rfl 0 rfl rfl (by rw [msg_size, hms]) (by simp only [hms, msg0_size]) hmo ?_; clear hw; intro w hw; (try simp only [List.set_cons_succ, List.set_cons_zero, List.setIfInBounds_toArray, Value.cells, List.eraseIdx_cons_succ, List.eraseIdx_cons_zero] at hw))
    | (refine wl_load_all hw rfl 0 rfl (by rw [msg_agg, hms]) ?_)
    | (refine wl_store_all (vs := m) hw rfl 3 rfl rfl (by rw [msg_size, hms]) (by simp only [hms, msg0_size]) hmo ?_; clear hw; intro w hw; (try simp only [List.set_cons_succ, List.set_cons_zero, List.setIfInBounds_toArray, Value.cells, List.eraseIdx_cons_succ, List.eraseIdx_cons_zero] at hw)))
  refine ret_cell_tmp rfl hw rfl 3 rfl (by rw [msg_agg, hms]) _ rfl rfl ?_
  have hw := ((hw.del 0 rfl).del 0 rfl).del 1 rfl
  (try simp only [List.set_cons_succ, List.set_cons_zero, List.setIfInBounds_toArray, Value.cells, List.eraseIdx_cons_succ, List.eraseIdx_cons_zero] at hw)
  exact ⟨rfl, hw⟩

theorem m1_ok (k : Int) (h0 : 0 ≤ k) (h1 : k ≤ 3) : Msg (msg0.setIfInBounds 0 (.int .i64 k)) := by
  unfold Msg msgK msg0
  simp [fitAll, SK.fits, List.replicate, IntKind.min, IntKind.max, IntKind.signed, IntKind.bits]
  omega

set_option maxRecDepth 100000 in
set_option maxHeartbeats 1000000 in
theorem ring_speaks {E : Env} {w : World} {F : List HP} (hw : Sat E w F) :
    Calls Try.prog 12 #[] w fun e w' => e = .returned (.bool true) ∧ Sat E w' F := by
  go_enter Try.func12, Try.ntmps12
  go_wp2_with (first
    | (go_at_call 13; refine (ring_new hw).mono ?_; clear hw; rintro e w ⟨q, rfl, hw⟩; rw [show (min (max (2 : Int) 0) 4096).toNat = 2 from rfl] at hw))
  refine (ring_put hw (by simp [Msg, msgK, fitAll, SK.fits, List.replicate, IntKind.min, IntKind.max, IntKind.signed, IntKind.bits]) (by simp)).mono ?_
  clear hw; rintro e w ⟨rfl, hw⟩
  go_wp2_with (fail)
  refine (ring_put hw (by simp [Msg, msgK, fitAll, SK.fits, List.replicate, IntKind.min, IntKind.max, IntKind.signed, IntKind.bits]) (by simp)).mono ?_
  clear hw; rintro e w ⟨rfl, hw⟩
  go_wp2_with (fail)
  refine (ring_put_full hw (by simp [Msg, msgK, fitAll, SK.fits, List.replicate, IntKind.min, IntKind.max, IntKind.signed, IntKind.bits]) (by simp)).mono ?_
  clear hw; rintro e w ⟨rfl, hw⟩
  go_wp2_with (fail)
  refine (ring_take hw).mono ?_
  clear hw; rintro e w ⟨rfl, hw⟩
  go_wp2_with (first
    | (refine wl_alloc hw msg_zero ?_; clear hw; intro b w hw; (try simp only [List.set_cons_succ, List.set_cons_zero, List.setIfInBounds_toArray, Value.cells, List.eraseIdx_cons_succ, List.eraseIdx_cons_zero] at hw))
    | (refine wl_store_all hw rfl 0 rfl rfl (by rw [msg_size]; rfl) (by rfl) (by simp [Value.oneCell']) ?_; clear hw; intro w hw; (try simp only [List.set_cons_succ, List.set_cons_zero, List.setIfInBounds_toArray, Value.cells, List.eraseIdx_cons_succ, List.eraseIdx_cons_zero] at hw))
    | (refine wl_want (by rfl) (fun K hK => ?_); refine wk_load1 hw rfl 0 rfl (by decide +kernel) (by simp only [List.getElem?_toArray, List.getElem?_cons_succ, List.getElem?_cons_zero]; exact rfl) ?_; refine hK _ _ ?_; clear hK K))
  go_ret
  exact ⟨rfl, hw.tail.tail⟩
end Go.Proofs.Ytbkfhieadnfndaa
