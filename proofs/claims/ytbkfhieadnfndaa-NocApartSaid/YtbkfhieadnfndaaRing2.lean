/- What the queues of package ring do, continued: All, First. Conditions: none. -/
import Derived.Test.YtbkfhieadnfndaaRing
set_option linter.unusedVariables false
set_option linter.unusedSimpArgs false
namespace Go.Proofs.Ytbkfhieadnfndaa
open Go.RowKit Go.Bst
attribute [local irreducible] wpList Calls Code.wp Code.wpN

theorem rot_head {α : Type} {l : List α} {k : Nat} (h : k < l.length) : l.drop k ++ l.take k = l[k] :: (l.drop (k + 1) ++ l.take k) := by
  rw [List.drop_eq_getElem_cons h]; rfl
theorem rot_tail {α : Type} {l : List α} {k : Nat} (h : k < l.length) : (l.drop (k + 1) ++ l.take k) ++ [l[k]] = l.drop (k + 1) ++ l.take (k + 1) := by
  rw [List.append_assoc, List.take_succ_eq_append_getElem h]
theorem msg_info : (Try.prog.info? 31).map (fun i => (i.zero, i.size, i.bytes)) = some (some (.agg msg0), 38, 72) := by kernel_rfl
theorem u_msgs : Try.prog.underlying 22 = some (.slice 31) := by kernel_rfl

theorem ring_room_d {E : Env} {w : World} {q room : Nat} {l : List (Array Value)} {F : List HP} (hw : Sat E w (Queue q room l :: F)) (d : Int) (hd : d = room - l.length) :
    Calls Try.prog 17 #[.pointer (some ⟨q, 0, none⟩)] w fun e w' => e = .returned (.int .i64 d) ∧ ∃ n, w' = w.drewN n := by
  subst hd; exact ring_room hw
theorem ring_len_d {E : Env} {w : World} {q room : Nat} {l : List (Array Value)} {F : List HP} (hw : Sat E w (Queue q room l :: F)) (d : Int) (hd : d = l.length) :
    Calls Try.prog 15 #[.pointer (some ⟨q, 0, none⟩)] w fun e w' => e = .returned (.int .i64 d) ∧ w' = w := by
  subst hd; exact ring_len hw
set_option maxRecDepth 100000 in
set_option maxHeartbeats 1000000 in
theorem ring_all {E : Env} {w : World} {q room : Nat} {l : List (Array Value)} {F : List HP} (hw : Sat E w (Queue q room l :: F)) :
    Calls Try.prog 19 #[.pointer (some ⟨q, 0, none⟩)] w fun e w' => ∃ v, e = .returned v ∧ Sat E w' (Row 31 38 v l.length (flat l) :: Queue q room l :: F) := by
  have hw0 := hw
  obtain ⟨hq, c, s, r, hw⟩ := Queue_open hw
  have hlen := fun ty => Conc.run_len_chan (P := Try.prog) 104 ty u_chan (hw.read 1 rfl)
  have b1 : l.length ≤ 4096 := by omega
  have hroom : l.length ≤ room := hq.1
  have HM := Kp.mk hq.2.2
  clear hq
  go_enter Try.func19, Try.ntmps19
  go_wp2_with (refine wl_load1 hw rfl 0 rfl (by decide +kernel) (by simp only [List.getElem?_toArray, List.getElem?_cons_succ, List.getElem?_cons_zero]; exact rfl) ?_)
  clear hw hlen
  have hw := hw0
  clear hw0
  go_loopw [2, 10] (fun out i wr => ∃ k : Nat, k ≤ l.length ∧ i = .int .i64 k ∧ Sat E wr (Row 31 38 out k (flat (l.take k)) :: Queue q room (l.drop k ++ l.take k) :: F)) (fun _ i _ => l.length - (intOf i).toNat)
  case atStart => exact ⟨0, Nat.zero_le _, rfl, Row_nil (by simpa using hw)⟩
  case round =>
    clear hw
    obtain ⟨k, hk, rfl, hw⟩ := hrel
    by_cases hlt : k < l.length
    · rw [rot_head hlt] at hw
      have hm := HM.out l[k] (by simp)
      have hms := hm.size
      have hmo := hm.one
      go_wp2_with (first
        | (go_at_call 16; refine (Calls.mono (ring_take (hw.front 1 rfl)) ?_); clear hw; rintro e w ⟨rfl, hw⟩; (try simp only [List.set_cons_succ, List.set_cons_zero, List.setIfInBounds_toArray, Value.cells, List.eraseIdx_cons_succ, List.eraseIdx_cons_zero] at hw))
        | (go_at_call 14; refine (Calls.mono (ring_put (hw.front 2 rfl) hm (by simp; omega)) ?_); clear hw; rintro e w ⟨rfl, hw⟩; (try simp only [List.set_cons_succ, List.set_cons_zero, List.setIfInBounds_toArray, Value.cells, List.eraseIdx_cons_succ, List.eraseIdx_cons_zero] at hw))
        | (refine wl_alloc hw msg_zero ?_; clear hw; intro b w hw; (try simp only [List.set_cons_succ, List.set_cons_zero, List.setIfInBounds_toArray, Value.cells, List.eraseIdx_cons_succ, List.eraseIdx_cons_zero] at hw))
        | (refine wl_store_all (vs := l[k]) hw rfl 0 rfl rfl (by rw [msg_size, hms]) (by simp only [hms, msg0_size]) hmo ?_; clear hw; intro w hw; (try simp only [List.set_cons_succ, List.set_cons_zero, List.setIfInBounds_toArray, Value.cells, List.eraseIdx_cons_succ, List.eraseIdx_cons_zero] at hw))
        | (refine wl_load_all hw rfl 0 rfl (by rw [msg_agg, hms]) ?_)
        | (refine wl_load_all hw rfl 1 rfl (by rw [msg_agg, hms]) ?_)
        | (refine wl_lit1 (el := 31) (sz := 38) hw (by simp only [Act.eval, Act.put, List.setIfInBounds_toArray, List.set_cons_succ, List.set_cons_zero, gd_s, gd_0, Value.cells]; exact rfl) (by kernel_rfl) (by kernel_rfl) (by kernel_rfl) (by simp only [Value.cells]; exact hms) (by omega) (by omega) ?_; clear hw; intro b2 w hw; (try simp only [List.set_cons_succ, List.set_cons_zero, List.setIfInBounds_toArray, Value.cells, List.eraseIdx_cons_succ, List.eraseIdx_cons_zero] at hw))
        | (at_builtin; go_must (refine wl_append hw 3 rfl rfl rfl (Rd_blk hw 0 rfl (n := 1) (Nat.le_refl _) l[k].toList (by simp [hms]) (by simp [hms, List.take_of_length_le])) u_msgs msg_info rfl (by omega) hm.mem (by simp only [maxLen]; omega) (by omega) ?_); clear hw; intro v w hw hv; clear hv; (try simp only [List.set_cons_succ, List.set_cons_zero, List.setIfInBounds_toArray, Value.cells, List.eraseIdx_cons_succ, List.eraseIdx_cons_zero] at hw)))
      rw [rot_tail hlt] at hw
      have hw := hw.front 3 rfl
      (try simp only [List.set_cons_succ, List.set_cons_zero, List.setIfInBounds_toArray, Value.cells, List.eraseIdx_cons_succ, List.eraseIdx_cons_zero] at hw)
      have hw := (hw.del 2 rfl).del 2 rfl
      (try simp only [List.set_cons_succ, List.set_cons_zero, List.setIfInBounds_toArray, Value.cells, List.eraseIdx_cons_succ, List.eraseIdx_cons_zero] at hw)
      rw [← flat_one, ← flat_app, ← List.take_succ_eq_append_getElem hlt] at hw
      go_roundw
      case rel => exact ⟨k + 1, by omega, by go_num, hw⟩
      case measure => simp [intOf]; omega
    · have hkl : k = l.length := by omega
      subst hkl
      go_wp2
      go_ret
      refine ⟨_, rfl, ?_⟩
      simpa using hw
end Go.Proofs.Ytbkfhieadnfndaa
