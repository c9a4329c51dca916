/- The law RingTurns: a queue takes messages on and on, each comes out in its turn. Conditions: none. -/
import Derived.Test.YtbkfhieadnfndaaRingF
set_option linter.unusedVariables false
set_option linter.unusedSimpArgs false
namespace Go.Proofs.Ytbkfhieadnfndaa
open Go.RowKit Go.Bst
attribute [local irreducible] wpList Calls Code.wp Code.wpN Oper.wp Go.Proofs.YtbkfhieadnfndaaW.PrintLast.wpAnyLast

set_option maxRecDepth 1000000 in
set_option maxHeartbeats 1000000 in
theorem ring_turns_early {W : World} {room : Int} {A : Option Addr} {n cap : Nat} (h : 200 < n ∨ room < 1 ∨ 50 < room) :
    Calls Try.prog 4 #[.int .i64 room, .slice A n cap] W fun e w' => e = .returned (.bool true) ∧ Sat (World.env W) w' [Old W] := by
  have hw : Sat (World.env W) W [Old W] := Sat.init W
  by_cases h1 : 200 < n
  · have h1' : (200 : Int) < (n : Int) := by omega
    go_enter Try.func4, Try.ntmps4
    go_wp2_with (go_at_call 12; refine (ring_speaks hw).mono ?_; clear hw; rintro e w ⟨rfl, hw⟩)
    go_ret
    exact ⟨rfl, hw⟩
  · have h1' : ¬ (200 : Int) < (n : Int) := by omega
    by_cases h2 : room < 1
    · clear h h1
      go_enter Try.func4, Try.ntmps4
      go_wp2_with (go_at_call 12; refine (ring_speaks hw).mono ?_; clear hw; rintro e w ⟨rfl, hw⟩)
      go_ret
      exact ⟨rfl, hw⟩
    · have h3 : 50 < room := by omega
      clear h h1
      go_enter Try.func4, Try.ntmps4
      go_wp2_with (go_at_call 12; refine (ring_speaks hw).mono ?_; clear hw; rintro e w ⟨rfl, hw⟩)
      go_ret
      exact ⟨rfl, hw⟩

set_option maxRecDepth 1000000 in
set_option maxHeartbeats 2000000 in
theorem ring_turns {W : World} {room : Int} {v : Value} {l : List (Array Value)} (hr : Rd W 38 v l.length (flat l)) (hm : ∀ m ∈ l, Msg m) :
    Calls Try.prog 4 #[.int .i64 room, v] W fun e w' => e = .returned (.bool true) ∧ Sat (World.env W) w' [Old W] := by
  obtain ⟨A, cap, rfl, hcap⟩ := hr.form
  by_cases hearly : 200 < l.length ∨ room < 1 ∨ 50 < room
  · exact ring_turns_early hearly
  · have hw : Sat (World.env W) W [Old W] := Sat.init W
    have hlen : (l.length : Int) ≤ 200 := by omega
    have hr1 : 1 ≤ room := by omega
    have hr2 : room ≤ 50 := by omega
    obtain ⟨R, rfl⟩ : ∃ R : Nat, room = R := ⟨room.toNat, by omega⟩
    have HM := Kp.mk hm
    clear hm hearly
    go_enter Try.func4, Try.ntmps4
    go_wp2_with (first
      | (go_at_call 12; refine (ring_speaks hw).mono ?_; clear hw; rintro e w ⟨rfl, hw⟩)
      | (go_at_call 13; refine (ring_new hw).mono ?_; clear hw; rintro e w ⟨q, rfl, hw⟩; rw [show (min (max (R : Int) 0) 4096).toNat = R from by omega] at hw))
    go_loopw [6, 28] (fun o i wr => ∃ k j : Nat, k ≤ l.length ∧ j ≤ k ∧ k - j ≤ R ∧ i = .int .i64 k ∧ o = .int .i64 j ∧ Sat (World.env W) wr [Queue q R ((l.take k).drop j), Old W]) (fun _ i _ => l.length - (intOf i).toNat)
    case atStart => exact ⟨0, 0, by omega, by omega, by omega, rfl, rfl, by simpa using hw⟩
    case round =>
      clear hw
      obtain ⟨k, j, hk, hj, hkj, rfl, rfl, hw⟩ := hrel
      by_cases hlt : k < l.length
      · have hlt' : (k : Int) < (l.length : Int) := by omega
        have hmk := HM.out l[k] (by simp)
        have hms := hmk.size
        have hmo := hmk.one
        obtain ⟨ad, hA, hca⟩ := (hr.sub (hw.subOld 1 rfl)).addr (by omega)
        subst hA
        have ca := Kp.mk (cells_at hca (fun x hx => (HM.out x hx).size) (List.getElem?_eq_getElem hlt))
        clear hca
        have hk0 : (k : Int) + 1 ≤ 9223372036854775807 := by omega
        obtain ⟨c, hc⟩ : ∃ c : Nat, c = k - j := ⟨_, rfl⟩
        have hci : (c : Int) = (k : Int) - j := by omega
        have hlenq : Kp (((l.take k).drop j).length = c) := Kp.mk (by simp; omega)
        have hcr : c ≤ R := by omega
        have hnew : Kp ((l.take k).drop j ++ [l[k]] = (l.take (k + 1)).drop j) := Kp.mk (by
          rw [List.take_succ_eq_append_getElem hlt, List.drop_append_of_le_length (by simp; omega)])
        have hlenq2 : Kp (((l.take (k + 1)).drop j).length = c + 1) := Kp.mk (by simp; omega)
        obtain ⟨d1, hd1⟩ : ∃ d : Int, d = R - c := ⟨_, rfl⟩
        obtain ⟨d2, hd2⟩ : ∃ d : Int, d = R - (c + 1) := ⟨_, rfl⟩
        obtain ⟨n2, hn2⟩ : ∃ d : Int, d = c + 1 := ⟨_, rfl⟩
        have b1 : 0 ≤ n2 ∧ n2 ≤ 1000 ∧ -1000 ≤ d2 ∧ d2 ≤ 1000 := by omega
        obtain ⟨b1, b2, b3, b4⟩ := b1
        have D1 := Kp.mk hd1
        have D2 := Kp.mk hd2
        have N2 := Kp.mk hn2
        have HCI := Kp.mk hci
        clear hd1 hd2 hn2
        by_cases hfull : c = R
        · have hjk : j < k := by omega
          have hjl : j < l.length := by omega
          have hmj := HM.out l[j] (by simp)
          have hmsj := hmj.size
          have hmoj := hmj.one
          have hdr : Kp ((l.take k).drop j = l[j] :: (l.take k).drop (j + 1)) := Kp.mk (by
            rw [List.drop_eq_getElem_cons (by simp; omega)]; simp)
          have hnew : Kp ((l.take k).drop (j + 1) ++ [l[k]] = (l.take (k + 1)).drop (j + 1)) := Kp.mk (by
            rw [List.take_succ_eq_append_getElem hlt, List.drop_append_of_le_length (by simp; omega)])
          have hlenr : Kp (((l.take k).drop (j + 1)).length + 1 = R) := Kp.mk (by simp; omega)
          have hlenq2 : Kp (((l.take (k + 1)).drop (j + 1)).length = R) := Kp.mk (by simp; omega)
          obtain ⟨n3, hn3⟩ : ∃ d : Int, d = R := ⟨_, rfl⟩
          have N3 := Kp.mk hn3
          obtain ⟨d3, hd3⟩ : ∃ d : Int, d = 0 := ⟨_, rfl⟩
          have D3 := Kp.mk hd3
          have e1 : 0 ≤ n3 ∧ n3 ≤ 1000 ∧ -1000 ≤ d3 ∧ d3 ≤ 1000 := by omega
          obtain ⟨e1, e2, e3, e4⟩ := e1
          have hne : (d1 == 0) = true := by rw [beq_iff_eq]; have := D1.out; omega
          have hne2 : (n3 + d3 != (R : Int)) = false := by rw [bne_eq_false_iff_eq]; have := D3.out; have := N3.out; omega
          have hne3 : (n3 != (k : Int) + 1 - ((j : Int) + 1)) = false := by rw [bne_eq_false_iff_eq]; have := N3.out; have := HCI.out; omega
          have hj0 : (j : Int) + 1 ≤ 9223372036854775807 := by omega
          have hjl' : (j : Int) < (l.length : Int) := by omega
          have hjk' : (j : Int) < (k : Int) := by omega
          have hs := Kp.mk (show (!same l[j] l[j]) = false by rw [same_self]; rfl)
          clear hci hc hn3 hd3 b1 b2 b3 b4
          have Hful := Kp.mk hfull
          clear hfull
          go_wp2_with (first
            | (refine wl_ldA (m := l[k]) (ad := ad.add (k * 38)) rfl (by rw [msg_agg, hms]) ca.out ?_)
            | (refine wl_alloc hw msg_zero ?_; clear hw; intro b w hw; (try simp only [List.set_cons_succ, List.set_cons_zero, List.setIfInBounds_toArray, Value.cells, List.eraseIdx_cons_succ, List.eraseIdx_cons_zero] at hw))
            | (refine wl_store_all (vs := l[k]) hw rfl 0 rfl rfl (by rw [msg_size, hms]) (by simp only [hms, msg0_size]) hmo ?_; clear hw; intro w hw; (try simp only [List.set_cons_succ, List.set_cons_zero, List.setIfInBounds_toArray, Value.cells, List.eraseIdx_cons_succ, List.eraseIdx_cons_zero] at hw))
            | (go_at_call 17; refine (ring_room_d (hw.front 1 rfl) d1 (by rw [hlenq.out]; exact D1.out)).mono ?_; rintro e w1 ⟨rfl, nq, rfl⟩; have hw1 := hw.drewN nq; clear hw; have hw := hw1; clear hw1; generalize World.drewN _ nq = w at hw ⊢))
          rw [hdr.out] at hw
          go_wp2_with (first
            | (go_at_call 16; go_must (refine (ring_take (hw.front 1 rfl)).mono ?_); clear hw; rintro e w ⟨rfl, hw⟩; (try simp only [List.set_cons_succ, List.set_cons_zero, List.setIfInBounds_toArray, Value.cells, List.eraseIdx_cons_succ, List.eraseIdx_cons_zero] at hw))
            | (refine wl_alloc hw msg_zero ?_; clear hw; intro b2 w hw; (try simp only [List.set_cons_succ, List.set_cons_zero, List.setIfInBounds_toArray, Value.cells, List.eraseIdx_cons_succ, List.eraseIdx_cons_zero] at hw))
            | (refine wl_store_all (vs := l[j]) hw rfl 0 rfl rfl (by rw [msg_size, hmsj]) (by simp only [hmsj, msg0_size]) hmoj ?_; clear hw; intro w hw; (try simp only [List.set_cons_succ, List.set_cons_zero, List.setIfInBounds_toArray, Value.cells, List.eraseIdx_cons_succ, List.eraseIdx_cons_zero] at hw)))
          obtain ⟨ad2, hA2, hca2⟩ := (hr.sub (hw.subOld 3 rfl)).addr (by omega)
          have ca2 := Kp.mk (cells_at hca2 (fun x hx => (HM.out x hx).size) (List.getElem?_eq_getElem hjl))
          have cb2 := Kp.mk (blk_cells hw 0 rfl)
          have HA2 := Kp.mk hA2
          clear hca2 hA2
          (refine wp_region_quiet_lit (by kernel_rfl) (by kernel_rfl) ?_; (repeat (first | go_big_quiet_skip | (go_big_quiet_want; (first | (refine qk_index rfl rfl rfl u_msgs msg_size HA2.out (by omega) (by omega) ?_; simp only [Act.put, List.setIfInBounds_toArray, List.set_cons_succ, List.set_cons_zero]) | (refine qk_ldA (m := l[j]) (ad := ad2.add (j * 38)) rfl rfl (by rw [msg_agg, hmsj]) ca2.out ?_; simp only [Act.put, List.setIfInBounds_toArray, List.set_cons_succ, List.set_cons_zero]) | (refine qk_ldA (m := l[j]) (ad := ⟨b2, 0, none⟩) rfl rfl (by rw [msg_agg, hmsj]) cb2.out ?_; simp only [Act.put, List.setIfInBounds_toArray, List.set_cons_succ, List.set_cons_zero]) | (refine qk_neq rfl l[j] l[j] rfl rfl msg_kinds (by omega) (by rw [msg_agg]; simp) (by kernel_rfl) hmj hmj _ hs.out ?_; simp only [Act.put, List.setIfInBounds_toArray, List.set_cons_succ, List.set_cons_zero]) | go_big_quiet_op); go_big_quiet_on))); refine wpQuiet_nil ?_; rintro _ ⟨nq, rfl⟩)
          have hw := hw.drewN nq
          clear ca2 cb2
          generalize w.drewN nq = w at hw ⊢
          go_wp2_with (first
            | (go_at_call 17; refine (ring_room_d hw d3 (by rw [hlenq2.out, D3.out]; simp)).mono ?_; rintro e w1 ⟨rfl, nq, rfl⟩; have hw1 := hw.drewN nq; clear hw; have hw := hw1; clear hw1; generalize World.drewN _ nq = w at hw ⊢)
            | (refine wl_load_all hw rfl 2 rfl (by rw [msg_agg, hms]) ?_)
            | (go_at_call 14; go_must (refine (ring_put (hw.front 1 rfl) hmk (by have := hlenr.out; omega)).mono ?_); clear hw; rintro e w ⟨rfl, hw⟩; (try simp only [List.set_cons_succ, List.set_cons_zero, List.setIfInBounds_toArray, Value.cells, List.eraseIdx_cons_succ, List.eraseIdx_cons_zero] at hw); rw [hnew.out] at hw)
            | (go_at_call 15; go_must (refine (ring_len_d hw n3 (by rw [hlenq2.out, N3.out])).mono ?_); rintro e w1 ⟨rfl, rfl⟩))
          exact ⟨⟨k + 1, j + 1, by omega, by omega, (by have := Hful.out; have := HCI.out; omega), by go_num, by go_num, (hw.del 1 rfl).del 1 rfl⟩, by simp [intOf]; omega⟩
        · have hfl : c < R := by omega
          have hne : (d1 == 0) = false := by rw [beq_eq_false_iff_ne]; have := D1.out; omega
          have hne2 : (n2 + d2 != (R : Int)) = false := by rw [bne_eq_false_iff_eq]; have := D2.out; have := N2.out; omega
          have hne3 : (n2 != (k : Int) + 1 - j) = false := by rw [bne_eq_false_iff_eq]; have := N2.out; omega
          clear hfull hci hc
          go_wp2_with (first
            | (refine wl_ldA (m := l[k]) (ad := ad.add (k * 38)) rfl (by rw [msg_agg, hms]) ca.out ?_)
            | (refine wl_alloc hw msg_zero ?_; clear hw; intro b w hw; (try simp only [List.set_cons_succ, List.set_cons_zero, List.setIfInBounds_toArray, Value.cells, List.eraseIdx_cons_succ, List.eraseIdx_cons_zero] at hw))
            | (refine wl_store_all (vs := l[k]) hw rfl 0 rfl rfl (by rw [msg_size, hms]) (by simp only [hms, msg0_size]) hmo ?_; clear hw; intro w hw; (try simp only [List.set_cons_succ, List.set_cons_zero, List.setIfInBounds_toArray, Value.cells, List.eraseIdx_cons_succ, List.eraseIdx_cons_zero] at hw))
            | (go_at_call 17; refine (ring_room_d (hw.front 1 rfl) d1 (by rw [hlenq.out]; exact D1.out)).mono ?_; rintro e w1 ⟨rfl, nq, rfl⟩; have hw1 := hw.drewN nq; clear hw; have hw := hw1; clear hw1; generalize World.drewN _ nq = w at hw ⊢)
            | (go_at_call 17; refine (ring_room_d hw d2 (by rw [hlenq2.out, D2.out]; simp)).mono ?_; rintro e w1 ⟨rfl, nq, rfl⟩; have hw1 := hw.drewN nq; clear hw; have hw := hw1; clear hw1; generalize World.drewN _ nq = w at hw ⊢)
            | (refine wl_load_all hw rfl 0 rfl (by rw [msg_agg, hms]) ?_)
            | (go_at_call 14; go_must (refine (ring_put (hw.front 1 rfl) hmk (by rw [hlenq.out]; omega)).mono ?_); clear hw; rintro e w ⟨rfl, hw⟩; (try simp only [List.set_cons_succ, List.set_cons_zero, List.setIfInBounds_toArray, Value.cells, List.eraseIdx_cons_succ, List.eraseIdx_cons_zero] at hw); rw [hnew.out] at hw)
            | (go_at_call 15; go_must (refine (ring_len_d hw n2 (by rw [hlenq2.out, N2.out]; simp)).mono ?_); rintro e w1 ⟨rfl, rfl⟩))
          exact ⟨⟨k + 1, j, by omega, by omega, (by have := HCI.out; omega), by go_num, rfl, hw.del 1 rfl⟩, by simp [intOf]; omega⟩
      · have hkl : k = l.length := by omega
        subst hkl
        rw [List.take_length] at hw
        go_wp2
        have HR := Kp.mk hr
        refine Go.Proofs.YtbkfhieadnfndaaW.PrintLast.start_ (S := (fun w' => True)) (ds := []) #[false, false, false, false, false, false, false] (by kernel_rfl) rfl (by rfl) ?_ (fun hS => ?_)
        · exact trivial
        replace hw := hw.drew; generalize w.drew = w at hw hS ⊢
        refine pureE (i := 0) (oi := { dst := some 76, op := Op.move (Operand.tmp 5), type := 24, pos := "law.go:103", after := #[], guard := none }) (N := some 76) #[true, false, false, false, false, false, false] rfl rfl (by kernel_rfl) (fun _ _ _ _ h => h) ?_
        apply Exists.intro
        refine ⟨Or.inl ⟨by rfl, ?_⟩, ?_⟩
        · intro w0; go_simp; try with_reducible rfl
        try simp only [Act.put, List.setIfInBounds_toArray, List.set_cons_succ, List.set_cons_zero]
        refine pureE (i := 2) (oi := { dst := some 78, op := Op.move (Operand.tmp 1), type := 22, pos := "law.go:103", after := #[], guard := none }) (N := some 78) #[true, false, true, false, false, false, false] rfl rfl (by kernel_rfl) (fun _ _ _ _ h => h) ?_
        apply Exists.intro
        refine ⟨Or.inl ⟨by rfl, ?_⟩, ?_⟩
        · intro w0; go_simp; try with_reducible rfl
        try simp only [Act.put, List.setIfInBounds_toArray, List.set_cons_succ, List.set_cons_zero]
        refine pureE (i := 3) (oi := { dst := some 79, op := Op.move (Operand.tmp 6), type := 3, pos := "law.go:103", after := #[], guard := none }) (N := some 79) #[true, false, true, true, false, false, false] rfl rfl (by kernel_rfl) (fun _ _ _ _ h => h) ?_
        apply Exists.intro
        refine ⟨Or.inl ⟨by rfl, ?_⟩, ?_⟩
        · intro w0; go_simp; try with_reducible rfl
        try simp only [Act.put, List.setIfInBounds_toArray, List.set_cons_succ, List.set_cons_zero]
        refine takeE (i := 4) (oi := { dst := some 80, op := Op.slice 22 (Operand.tmp 78) (some (Operand.tmp 79)) none none, type := 22, pos := "law.go:103", after := #[{ on := 2, ground := Ground.data }, { on := 3, ground := Ground.data }], guard := none }) (N := some 80) #[true, false, true, true, true, false, false] rfl rfl (by kernel_rfl) (fun _ _ _ _ h => h) hS ?_
        apply Exists.intro
        refine ⟨Or.inl ⟨by rfl, fun w0 h => rn_slice (l := j) (h := l.length) rfl rfl u_msgs msg_size (.inr rfl) (.inl ⟨rfl, rfl⟩) (by omega) hcap⟩, ?_⟩
        try simp only [Act.put, List.setIfInBounds_toArray, List.set_cons_succ, List.set_cons_zero]
        refine Go.Proofs.YtbkfhieadnfndaaW.PrintLast.one_ (i := 1) (oi := { dst := some 77, op := Op.call { callee := Callee.value (Operand.func 19), args := #[Operand.tmp 76], argTypes := #[24] }, type := 22, pos := "law.go:103", after := #[{ on := 0, ground := Ground.data }], guard := none }) (N := some 77) #[true, true, true, true, true, false, false] rfl rfl (by kernel_rfl) (by decide) (fun K hK => ?_)
        rw [if_pos (by rfl)]
        refine wk_enter 19 #[.pointer (some ⟨q, 0, none⟩)] ?_ ?_
        · go_simp
        refine (ring_all hw).mono ?_
        clear hw; rintro e w ⟨v, rfl, hw⟩
        refine ⟨_, rfl, ?_⟩
        refine hK.out _ _ trivial (fun hS => ?_); clear hK K; try simp only [Act.put, List.setIfInBounds_toArray, List.set_cons_succ, List.set_cons_zero]
        refine Go.Proofs.YtbkfhieadnfndaaW.PrintLast.one_ (i := 5) (oi := { dst := some 81, op := Op.call { callee := Callee.value (Operand.func 18), args := #[Operand.tmp 77, Operand.tmp 80], argTypes := #[22, 22] }, type := 4, pos := "law.go:103", after := #[{ on := 1, ground := Ground.data }, { on := 4, ground := Ground.data }, { on := 1, ground := Ground.chain }], guard := none }) (N := some 81) #[true, true, true, true, true, true, false] rfl rfl (by kernel_rfl) (by decide) (fun K hK => ?_)
        rw [if_pos (by rfl)]
        have rb : Rd w 38 (.slice (if cap = j then A else A.map (·.add (j * 38))) (l.length - j) (cap - j)) (l.drop j).length (flat (l.drop j)) := (by rw [List.length_drop, ← flat_drop j (fun x hx => (HM.out x hx).size)]; exact (hr.sub (hw.subOld 2 rfl)).cut hj)
        refine wk_enter 18 #[v, .slice (if cap = j then A else A.map (·.add (j * 38))) (l.length - j) (cap - j)] ?_ ?_
        · go_simp
        refine (ref_same (Rd_row hw 0 rfl) rb (fun x hx => HM.out x (List.mem_of_mem_drop hx)) (fun x hx => HM.out x (List.mem_of_mem_drop hx)) (by rw [List.length_drop]; omega)).mono ?_
        clear rb
        rintro e w1 ⟨rfl, nq, rfl⟩
        have hw := hw.drewN nq
        generalize w.drewN nq = w at hw ⊢
        rw [sameL_iff.2 rfl]
        refine ⟨_, rfl, ?_⟩
        refine hK.out _ _ trivial (fun hS => ?_); clear hK K; try simp only [Act.put, List.setIfInBounds_toArray, List.set_cons_succ, List.set_cons_zero]
        refine pureE (i := 6) (oi := { dst := some 4, op := Op.assign (Operand.tmp 81), type := 4, pos := "law.go:103", after := #[{ on := 5, ground := Ground.data }, { on := 5, ground := Ground.chain }, { on := 0, ground := Ground.phase }, { on := 1, ground := Ground.phase }, { on := 2, ground := Ground.phase }, { on := 3, ground := Ground.phase }, { on := 4, ground := Ground.phase }, { on := 5, ground := Ground.phase }], guard := none }) (N := some 4) #[true, true, true, true, true, true, true] rfl rfl (by kernel_rfl) (fun _ _ _ _ h => h) ?_
        apply Exists.intro
        refine ⟨Or.inl ⟨by rfl, ?_⟩, ?_⟩
        · intro w0; go_simp; try with_reducible rfl
        try simp only [Act.put, List.setIfInBounds_toArray, List.set_cons_succ, List.set_cons_zero]
        refine Go.Proofs.YtbkfhieadnfndaaW.PrintLast.done_ (by kernel_rfl) ?_; clear hS
        go_wp2
        all_goals (go_ret; exact ⟨rfl, hw.tail.tail⟩)
end Go.Proofs.Ytbkfhieadnfndaa
