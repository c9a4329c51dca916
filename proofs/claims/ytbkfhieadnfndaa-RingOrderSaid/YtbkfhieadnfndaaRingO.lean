/- The law RingOrder: what is put into a queue comes out in its order. Conditions: none. -/
import Derived.Test.YtbkfhieadnfndaaRingF
set_option linter.unusedVariables false
set_option linter.unusedSimpArgs false
namespace Go.Proofs.Ytbkfhieadnfndaa
open Go.RowKit Go.Bst
attribute [local irreducible] wpList Calls Code.wp Code.wpN Oper.wp Go.Proofs.YtbkfhieadnfndaaW.PrintLast.wpAnyLast

set_option maxRecDepth 1000000 in
set_option maxHeartbeats 2000000 in
theorem ring_order {W : World} {room : Int} {v : Value} {l : List (Array Value)} (hr : Rd W 38 v l.length (flat l)) (hm : ∀ m ∈ l, Msg m) :
    Calls Try.prog 3 #[.int .i64 room, v] W fun e w' => e = .returned (.bool true) ∧ Sat (World.env W) w' [Old W] := by
  obtain ⟨A, cap, rfl, hcap⟩ := hr.form
  have hw : Sat (World.env W) W [Old W] := Sat.init W
  by_cases hlen : 100 < l.length
  · go_enter Try.func3, Try.ntmps3
    go_wp2_with (go_at_call 12; refine (ring_speaks hw).mono ?_; clear hw; rintro e w ⟨rfl, hw⟩)
    go_ret
    exact ⟨rfl, hw⟩
  · obtain ⟨R, hR⟩ : ∃ R, R = (min (max room 0) 4096).toNat := ⟨_, rfl⟩
    have HR := Kp.mk hR
    clear hR
    have HM := Kp.mk hm
    clear hm
    have hR0 : R ≤ 4096 := by have := HR.out; omega
    go_enter Try.func3, Try.ntmps3
    go_wp2_with (first
      | (go_at_call 12; refine (ring_speaks hw).mono ?_; clear hw; rintro e w ⟨rfl, hw⟩)
      | (go_at_call 13; refine (ring_new hw).mono ?_; clear hw; rintro e w ⟨q, rfl, hw⟩; rw [← HR.out] at hw))
    have hll : l.length ≤ 100 := by omega
    go_loopw [6] (fun n wr => ∃ k : Nat, k ≤ l.length ∧ k ≤ R ∧ n = .int .i64 k ∧ Sat (World.env W) wr [Queue q R (l.take k), Old W]) (fun n _ => l.length - (intOf n).toNat)
    case atStart => exact ⟨0, by omega, by omega, rfl, by simpa using hw⟩
    case round =>
      clear hw
      obtain ⟨k, hk, hkR, rfl, hw⟩ := hrel
      by_cases hgo : k < l.length ∧ k < R
      · obtain ⟨hlt, hroom⟩ := hgo
        have hmk := HM.out l[k] (by simp)
        have hms := hmk.size
        obtain ⟨ad, rfl, hca⟩ := (hr.sub (hw.subOld 1 rfl)).addr (by omega)
        have ca := Kp.mk (cells_at hca (fun x hx => (HM.out x hx).size) (List.getElem?_eq_getElem hlt))
        clear hca
        have hlt' : (k : Int) < (l.length : Int) := by omega
        have hk0 : (k : Int) + 1 ≤ 9223372036854775807 := by omega
        go_wp2_with (first
          | (refine wl_want (by rfl) (fun K hK => ?_); refine wk_ldA (m := l[k]) (ad := ad.add (k * 38)) rfl (by rw [msg_agg, hms]) ca.out ?_; refine hK _ _ ?_; clear hK K)
          | (go_at_call 14; go_must (refine (ring_put hw hmk (by simp; omega)).mono ?_); clear hw; rintro e w ⟨rfl, hw⟩))
        rw [← List.take_succ_eq_append_getElem hlt] at hw
        go_roundw
        case rel => exact ⟨k + 1, by omega, by omega, by go_num, hw⟩
        case measure => simp [intOf]; omega
      · have hexit : (k = l.length) ∨ (k < l.length ∧ R = k ∧ room < 0 ∧ k = 0) ∨ (k < l.length ∧ R = k ∧ 0 ≤ room ∧ room = (k : Int)) := by
          have := HR.out; omega
        have Hlenq : Kp ((l.take k).length = k) := Kp.mk (by simp; omega)
        have Hk := Kp.mk hk
        clear hgo HR
        rcases hexit with hke | ⟨hlt, hRk, hneg, hkz⟩ | ⟨hlt, hRk, hpos, rfl⟩
        · have hd : ¬ ((k : Int) < (l.length : Int)) := by omega
          clear hke
          go_wp2_with (go_at_call 15; go_must (refine (ring_len hw).mono ?_); rintro e w1 ⟨rfl, rfl⟩; rw [Hlenq.out])
          go_loopw [7] (fun i wr => ∃ j : Nat, j ≤ k ∧ i = .int .i64 j ∧ Sat (World.env W) wr [Queue q R ((l.take k).drop j), Old W]) (fun i _ => k - (intOf i).toNat)
          case atStart => exact ⟨0, by omega, rfl, by simpa using hw⟩
          case round =>
            clear hw
            obtain ⟨j, hj, rfl, hw⟩ := hrel
            by_cases hlt2 : j < k
            · have hjl : j < l.length := by have := Hk.out; omega
              have hmj := HM.out l[j] (by simp)
              have hmsj := hmj.size
              have hmoj := hmj.one
              have hdr : (l.take k).drop j = l[j] :: (l.take k).drop (j + 1) := by
                rw [List.drop_eq_getElem_cons (by rw [Hlenq.out]; exact hlt2)]; simp
              rw [hdr] at hw
              clear hdr
              have hlt2' : (j : Int) < (k : Int) := by omega
              have hj0 : (j : Int) + 1 ≤ 9223372036854775807 := by have := Hk.out; omega
              have hjl' : (j : Int) < (l.length : Int) := by omega
              go_wp2_with (first
                | (go_at_call 16; go_must (refine (ring_take hw).mono ?_); clear hw; rintro e w ⟨rfl, hw⟩)
                | (refine wl_alloc hw msg_zero ?_; clear hw; intro b w hw; (try simp only [List.set_cons_succ, List.set_cons_zero, List.setIfInBounds_toArray, Value.cells, List.eraseIdx_cons_succ, List.eraseIdx_cons_zero] at hw))
                | (refine wl_store_all (vs := l[j]) hw rfl 0 rfl rfl (by rw [msg_size, hmsj]) (by simp only [hmsj, msg0_size]) hmoj ?_; clear hw; intro w hw; (try simp only [List.set_cons_succ, List.set_cons_zero, List.setIfInBounds_toArray, Value.cells, List.eraseIdx_cons_succ, List.eraseIdx_cons_zero] at hw)))
              obtain ⟨ad2, hA2, hca2⟩ := (hr.sub (hw.subOld 2 rfl)).addr (by omega)
              have ca2 := Kp.mk (cells_at hca2 (fun x hx => (HM.out x hx).size) (List.getElem?_eq_getElem hjl))
              have cb2 := Kp.mk (blk_cells hw 0 rfl)
              have HA2 := Kp.mk hA2
              clear hca2 hA2
              have hs := Kp.mk (show (!same l[j] l[j]) = false by rw [same_self]; rfl)
              (refine wp_region_quiet_lit (by kernel_rfl) (by kernel_rfl) ?_; (repeat (first | go_big_quiet_skip | (go_big_quiet_want; (first | (refine qk_index rfl rfl rfl u_msgs msg_size HA2.out (by omega) (by omega) ?_; simp only [Act.put, List.setIfInBounds_toArray, List.set_cons_succ, List.set_cons_zero]) | (refine qk_ldA (m := l[j]) (ad := ad2.add (j * 38)) rfl rfl (by rw [msg_agg, hmsj]) ca2.out ?_; simp only [Act.put, List.setIfInBounds_toArray, List.set_cons_succ, List.set_cons_zero]) | (refine qk_ldA (m := l[j]) (ad := ⟨b, 0, none⟩) rfl rfl (by rw [msg_agg, hmsj]) cb2.out ?_; simp only [Act.put, List.setIfInBounds_toArray, List.set_cons_succ, List.set_cons_zero]) | (refine qk_neq rfl l[j] l[j] rfl rfl msg_kinds (by omega) (by rw [msg_agg]; simp) (by kernel_rfl) hmj hmj _ hs.out ?_; simp only [Act.put, List.setIfInBounds_toArray, List.set_cons_succ, List.set_cons_zero]) | go_big_quiet_op); go_big_quiet_on))); refine wpQuiet_nil ?_; rintro _ ⟨nq, rfl⟩)
              have hw := hw.drewN nq
              clear ca2 cb2
              generalize w.drewN nq = w at hw ⊢
              go_wp2
              go_roundw
              case rel => exact ⟨j + 1, by omega, by go_num, hw.tail⟩
              case measure => simp [intOf]; omega
            · rw [List.drop_of_length_le (by rw [Hlenq.out]; omega)] at hw
              go_wp2_with (first
                | (go_at_call 16; go_must (refine (ring_take_none hw).mono ?_); clear hw; rintro e w ⟨rfl, hw⟩)
                | (refine wl_alloc hw msg_zero ?_; clear hw; intro b w hw; (try simp only [List.set_cons_succ, List.set_cons_zero, List.setIfInBounds_toArray, Value.cells, List.eraseIdx_cons_succ, List.eraseIdx_cons_zero] at hw))
                | (refine wl_store_all (vs := msg0) hw rfl 0 rfl rfl msg_size rfl (Msg.one msg0_ok) ?_; clear hw; intro w hw; (try simp only [List.set_cons_succ, List.set_cons_zero, List.setIfInBounds_toArray, Value.cells, List.eraseIdx_cons_succ, List.eraseIdx_cons_zero] at hw))
                | (go_at_call 15; go_must (refine (ring_len (hw.front 1 rfl)).mono ?_); rintro e w1 ⟨rfl, rfl⟩))
              go_ret
              exact ⟨rfl, hw.tail.tail⟩
        · have hmk := HM.out l[k] (by simp)
          have hms := hmk.size
          obtain ⟨ad, rfl, hca⟩ := (hr.sub (hw.subOld 1 rfl)).addr (by omega)
          have ca := Kp.mk (cells_at hca (fun x hx => (HM.out x hx).size) (List.getElem?_eq_getElem hlt))
          clear hca
          have hlt' : (k : Int) < (l.length : Int) := by omega
          have hk0 : ((k : Int) != 0) = false := by rw [bne_eq_false_iff_eq]; omega
          have HRk := Kp.mk hRk
          clear hRk hkz
          go_wp2_with (first
            | (refine wl_want (by rfl) (fun K hK => ?_); refine wk_ldA (m := l[k]) (ad := ad.add (k * 38)) rfl (by rw [msg_agg, hms]) ca.out ?_; refine hK _ _ ?_; clear hK K)
            | (go_at_call 14; go_must (refine (ring_put_full hw hmk (by rw [Hlenq.out, HRk.out]; exact Nat.le_refl _)).mono ?_); clear hw; rintro e w ⟨rfl, hw⟩)
            | (go_at_call 15; go_must (refine (ring_len hw).mono ?_); rintro e w1 ⟨rfl, rfl⟩; rw [Hlenq.out]))
          go_loopw [7] (fun i wr => ∃ j : Nat, j ≤ k ∧ i = .int .i64 j ∧ Sat (World.env W) wr [Queue q R ((l.take k).drop j), Old W]) (fun i _ => k - (intOf i).toNat)
          case atStart => exact ⟨0, by omega, rfl, by simpa using hw⟩
          case round =>
            clear hw
            obtain ⟨j, hj, rfl, hw⟩ := hrel
            by_cases hlt2 : j < k
            · have hjl : j < l.length := by have := Hk.out; omega
              have hmj := HM.out l[j] (by simp)
              have hmsj := hmj.size
              have hmoj := hmj.one
              have hdr : (l.take k).drop j = l[j] :: (l.take k).drop (j + 1) := by
                rw [List.drop_eq_getElem_cons (by rw [Hlenq.out]; exact hlt2)]; simp
              rw [hdr] at hw
              clear hdr
              have hlt2' : (j : Int) < (k : Int) := by omega
              have hj0 : (j : Int) + 1 ≤ 9223372036854775807 := by have := Hk.out; omega
              have hjl' : (j : Int) < (l.length : Int) := by omega
              go_wp2_with (first
                | (go_at_call 16; go_must (refine (ring_take hw).mono ?_); clear hw; rintro e w ⟨rfl, hw⟩)
                | (refine wl_alloc hw msg_zero ?_; clear hw; intro b w hw; (try simp only [List.set_cons_succ, List.set_cons_zero, List.setIfInBounds_toArray, Value.cells, List.eraseIdx_cons_succ, List.eraseIdx_cons_zero] at hw))
                | (refine wl_store_all (vs := l[j]) hw rfl 0 rfl rfl (by rw [msg_size, hmsj]) (by simp only [hmsj, msg0_size]) hmoj ?_; clear hw; intro w hw; (try simp only [List.set_cons_succ, List.set_cons_zero, List.setIfInBounds_toArray, Value.cells, List.eraseIdx_cons_succ, List.eraseIdx_cons_zero] at hw)))
              obtain ⟨ad2, hA2, hca2⟩ := (hr.sub (hw.subOld 2 rfl)).addr (by omega)
              have ca2 := Kp.mk (cells_at hca2 (fun x hx => (HM.out x hx).size) (List.getElem?_eq_getElem hjl))
              have cb2 := Kp.mk (blk_cells hw 0 rfl)
              have HA2 := Kp.mk hA2
              clear hca2 hA2
              have hs := Kp.mk (show (!same l[j] l[j]) = false by rw [same_self]; rfl)
              (refine wp_region_quiet_lit (by kernel_rfl) (by kernel_rfl) ?_; (repeat (first | go_big_quiet_skip | (go_big_quiet_want; (first | (refine qk_index rfl rfl rfl u_msgs msg_size HA2.out (by omega) (by omega) ?_; simp only [Act.put, List.setIfInBounds_toArray, List.set_cons_succ, List.set_cons_zero]) | (refine qk_ldA (m := l[j]) (ad := ad2.add (j * 38)) rfl rfl (by rw [msg_agg, hmsj]) ca2.out ?_; simp only [Act.put, List.setIfInBounds_toArray, List.set_cons_succ, List.set_cons_zero]) | (refine qk_ldA (m := l[j]) (ad := ⟨b, 0, none⟩) rfl rfl (by rw [msg_agg, hmsj]) cb2.out ?_; simp only [Act.put, List.setIfInBounds_toArray, List.set_cons_succ, List.set_cons_zero]) | (refine qk_neq rfl l[j] l[j] rfl rfl msg_kinds (by omega) (by rw [msg_agg]; simp) (by kernel_rfl) hmj hmj _ hs.out ?_; simp only [Act.put, List.setIfInBounds_toArray, List.set_cons_succ, List.set_cons_zero]) | go_big_quiet_op); go_big_quiet_on))); refine wpQuiet_nil ?_; rintro _ ⟨nq, rfl⟩)
              have hw := hw.drewN nq
              clear ca2 cb2
              generalize w.drewN nq = w at hw ⊢
              go_wp2
              go_roundw
              case rel => exact ⟨j + 1, by omega, by go_num, hw.tail⟩
              case measure => simp [intOf]; omega
            · rw [List.drop_of_length_le (by rw [Hlenq.out]; omega)] at hw
              go_wp2_with (first
                | (go_at_call 16; go_must (refine (ring_take_none hw).mono ?_); clear hw; rintro e w ⟨rfl, hw⟩)
                | (refine wl_alloc hw msg_zero ?_; clear hw; intro b w hw; (try simp only [List.set_cons_succ, List.set_cons_zero, List.setIfInBounds_toArray, Value.cells, List.eraseIdx_cons_succ, List.eraseIdx_cons_zero] at hw))
                | (refine wl_store_all (vs := msg0) hw rfl 0 rfl rfl msg_size rfl (Msg.one msg0_ok) ?_; clear hw; intro w hw; (try simp only [List.set_cons_succ, List.set_cons_zero, List.setIfInBounds_toArray, Value.cells, List.eraseIdx_cons_succ, List.eraseIdx_cons_zero] at hw))
                | (go_at_call 15; go_must (refine (ring_len (hw.front 1 rfl)).mono ?_); rintro e w1 ⟨rfl, rfl⟩))
              go_ret
              exact ⟨rfl, hw.tail.tail⟩
        · have hmk := HM.out l[k] (by simp)
          have hms := hmk.size
          obtain ⟨ad, rfl, hca⟩ := (hr.sub (hw.subOld 1 rfl)).addr (by omega)
          have ca := Kp.mk (cells_at hca (fun x hx => (HM.out x hx).size) (List.getElem?_eq_getElem hlt))
          clear hca
          have hlt' : (k : Int) < (l.length : Int) := by omega
          have HRk := Kp.mk hRk
          clear hRk
          go_wp2_with (first
            | (refine wl_want (by rfl) (fun K hK => ?_); refine wk_ldA (m := l[k]) (ad := ad.add (k * 38)) rfl (by rw [msg_agg, hms]) ca.out ?_; refine hK _ _ ?_; clear hK K)
            | (go_at_call 14; go_must (refine (ring_put_full hw hmk (by rw [Hlenq.out, HRk.out]; exact Nat.le_refl _)).mono ?_); clear hw; rintro e w ⟨rfl, hw⟩)
            | (go_at_call 15; go_must (refine (ring_len hw).mono ?_); rintro e w1 ⟨rfl, rfl⟩; rw [Hlenq.out]))
          go_loopw [7] (fun i wr => ∃ j : Nat, j ≤ k ∧ i = .int .i64 j ∧ Sat (World.env W) wr [Queue q R ((l.take k).drop j), Old W]) (fun i _ => k - (intOf i).toNat)
          case atStart => exact ⟨0, by omega, rfl, by simpa using hw⟩
          case round =>
            clear hw
            obtain ⟨j, hj, rfl, hw⟩ := hrel
            by_cases hlt2 : j < k
            · have hjl : j < l.length := by have := Hk.out; omega
              have hmj := HM.out l[j] (by simp)
              have hmsj := hmj.size
              have hmoj := hmj.one
              have hdr : (l.take k).drop j = l[j] :: (l.take k).drop (j + 1) := by
                rw [List.drop_eq_getElem_cons (by rw [Hlenq.out]; exact hlt2)]; simp
              rw [hdr] at hw
              clear hdr
              have hlt2' : (j : Int) < (k : Int) := by omega
              have hj0 : (j : Int) + 1 ≤ 9223372036854775807 := by have := Hk.out; omega
              have hjl' : (j : Int) < (l.length : Int) := by omega
              go_wp2_with (first
                | (go_at_call 16; go_must (refine (ring_take hw).mono ?_); clear hw; rintro e w ⟨rfl, hw⟩)
                | (refine wl_alloc hw msg_zero ?_; clear hw; intro b w hw; (try simp only [List.set_cons_succ, List.set_cons_zero, List.setIfInBounds_toArray, Value.cells, List.eraseIdx_cons_succ, List.eraseIdx_cons_zero] at hw))
                | (refine wl_store_all (vs := l[j]) hw rfl 0 rfl rfl (by rw [msg_size, hmsj]) (by simp only [hmsj, msg0_size]) hmoj ?_; clear hw; intro w hw; (try simp only [List.set_cons_succ, List.set_cons_zero, List.setIfInBounds_toArray, Value.cells, List.eraseIdx_cons_succ, List.eraseIdx_cons_zero] at hw)))
              obtain ⟨ad2, hA2, hca2⟩ := (hr.sub (hw.subOld 2 rfl)).addr (by omega)
              have ca2 := Kp.mk (cells_at hca2 (fun x hx => (HM.out x hx).size) (List.getElem?_eq_getElem hjl))
              have cb2 := Kp.mk (blk_cells hw 0 rfl)
              have HA2 := Kp.mk hA2
              clear hca2 hA2
              have hs := Kp.mk (show (!same l[j] l[j]) = false by rw [same_self]; rfl)
              (refine wp_region_quiet_lit (by kernel_rfl) (by kernel_rfl) ?_; (repeat (first | go_big_quiet_skip | (go_big_quiet_want; (first | (refine qk_index rfl rfl rfl u_msgs msg_size HA2.out (by omega) (by omega) ?_; simp only [Act.put, List.setIfInBounds_toArray, List.set_cons_succ, List.set_cons_zero]) | (refine qk_ldA (m := l[j]) (ad := ad2.add (j * 38)) rfl rfl (by rw [msg_agg, hmsj]) ca2.out ?_; simp only [Act.put, List.setIfInBounds_toArray, List.set_cons_succ, List.set_cons_zero]) | (refine qk_ldA (m := l[j]) (ad := ⟨b, 0, none⟩) rfl rfl (by rw [msg_agg, hmsj]) cb2.out ?_; simp only [Act.put, List.setIfInBounds_toArray, List.set_cons_succ, List.set_cons_zero]) | (refine qk_neq rfl l[j] l[j] rfl rfl msg_kinds (by omega) (by rw [msg_agg]; simp) (by kernel_rfl) hmj hmj _ hs.out ?_; simp only [Act.put, List.setIfInBounds_toArray, List.set_cons_succ, List.set_cons_zero]) | go_big_quiet_op); go_big_quiet_on))); refine wpQuiet_nil ?_; rintro _ ⟨nq, rfl⟩)
              have hw := hw.drewN nq
              clear ca2 cb2
              generalize w.drewN nq = w at hw ⊢
              go_wp2
              go_roundw
              case rel => exact ⟨j + 1, by omega, by go_num, hw.tail⟩
              case measure => simp [intOf]; omega
            · rw [List.drop_of_length_le (by rw [Hlenq.out]; omega)] at hw
              go_wp2_with (first
                | (go_at_call 16; go_must (refine (ring_take_none hw).mono ?_); clear hw; rintro e w ⟨rfl, hw⟩)
                | (refine wl_alloc hw msg_zero ?_; clear hw; intro b w hw; (try simp only [List.set_cons_succ, List.set_cons_zero, List.setIfInBounds_toArray, Value.cells, List.eraseIdx_cons_succ, List.eraseIdx_cons_zero] at hw))
                | (refine wl_store_all (vs := msg0) hw rfl 0 rfl rfl msg_size rfl (Msg.one msg0_ok) ?_; clear hw; intro w hw; (try simp only [List.set_cons_succ, List.set_cons_zero, List.setIfInBounds_toArray, Value.cells, List.eraseIdx_cons_succ, List.eraseIdx_cons_zero] at hw))
                | (go_at_call 15; go_must (refine (ring_len (hw.front 1 rfl)).mono ?_); rintro e w1 ⟨rfl, rfl⟩))
              go_ret
              exact ⟨rfl, hw.tail.tail⟩
end Go.Proofs.Ytbkfhieadnfndaa
