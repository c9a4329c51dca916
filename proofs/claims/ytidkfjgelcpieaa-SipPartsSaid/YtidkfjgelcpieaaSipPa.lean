/- The law SipParts: bytes that are taken in any parts have the number that they have at once. Conditions: none. -/
import Derived.Test.YtidkfjgelcpieaaSipW
import Derived.Deep.Cut
set_option linter.unusedVariables false
set_option linter.unusedSimpArgs false
namespace Go.Proofs.Ytidkfjgelcpieaa
open Go.RowKit Go.Bst Go.MapKept Go.Proofs.YtidkfjgelcpieaaW.PrintLast
attribute [local irreducible] Q4.round wpList Calls Code.wp Code.wpN Oper.wp Go.Proofs.YtidkfjgelcpieaaW.PrintLast.wpAnyLast

theorem u_parts : Try.prog.underlying 31 = some (.slice 24) := by kernel_rfl
theorem slice_size : (Try.prog.info? 24).map (·.size) = some 1 := by kernel_rfl
set_option maxRecDepth 100000 in
set_option maxHeartbeats 4000000 in
theorem sip_parts {W : World} {key : List UInt8} {ps : List (Value × List UInt8)} {v : Value} (hk : key.length = 16) (hr : Rd W 1 v ps.length (ps.map (·.1))) (hp : ∀ p ∈ ps, Rd W 1 p.1 p.2.length (ybs p.2)) :
    Calls Try.prog 4 #[.agg (ybs key).toArray, v] W fun e w' => e = .returned (.bool true) ∧ Sat (World.env W) w' [Old W] := by
  obtain ⟨A, cap, rfl, hcap⟩ := hr.form
  have hw : Sat (World.env W) W [Old W] := Sat.init W
  have hkb : (ybs key).toArray.size = 16 := by simp [ybs, hk]
  have HP := Kp.mk hp
  clear hp
  by_cases hlen : 60 < ps.length
  · have hlen' : (60 : Int) < (ps.length : Int) := by omega
    go_enter Try.func4, Try.ntmps4
    go_wp2_with (first
      | (refine wl_box hw _ (by simp only [Act.eval, Act.put, List.setIfInBounds_toArray, List.set_cons_succ, List.set_cons_zero, gd_s, gd_0, Value.cells]; exact rfl) ?_; clear hw; intro b w hw; (try simp only [List.set_cons_succ, List.set_cons_zero, List.setIfInBounds_toArray, Value.cells, List.eraseIdx_cons_succ, List.eraseIdx_cons_zero] at hw))
      | (go_at_call 12; refine (sip_speaks hw).mono ?_; clear hw; rintro e w ⟨rfl, hw⟩))
    go_ret
    exact ⟨rfl, hw.tail⟩
  · have hlen' : ¬ ((60 : Int) < (ps.length : Int)) := by omega
    have hl : ps.length ≤ 60 := by omega
    go_enter Try.func4, Try.ntmps4
    go_wp2_with (first
      | (refine wl_box hw _ (by simp only [Act.eval, Act.put, List.setIfInBounds_toArray, List.set_cons_succ, List.set_cons_zero, gd_s, gd_0, Value.cells]; exact rfl) ?_; clear hw; intro kb w hw; (try simp only [List.set_cons_succ, List.set_cons_zero, List.setIfInBounds_toArray, Value.cells, List.eraseIdx_cons_succ, List.eraseIdx_cons_zero] at hw))
      | (go_at_call 12; refine (sip_speaks hw).mono ?_; clear hw; rintro e w ⟨rfl, hw⟩)
      | (refine wl_load_all hw rfl 0 rfl (by rw [key_agg, hkb]) ?_)
      | (go_at_call 17; refine (sip_new hw hk).mono ?_; clear hw; rintro e w ⟨h, rfl, hw⟩)
      | (refine wl_lit0 (el := 5) (sz := 1) hw (by kernel_rfl) (by kernel_rfl) ?_; clear hw; intro b0 w hw))
    go_loopw [6, 21] (fun all i wr => ∃ (j : Nat) (cc : List UInt8), j ≤ ps.length ∧ i = .int .i64 j ∧ cc.length ≤ 200 * j ∧ Sat (World.env W) wr [Hash h ((Hst.mk (key0 key) []).take cc) cc.length, Row 5 1 all cc.length (ybs cc), pt kb (.cells (ybs key).toArray 23 (0, 0)), Old W]) (fun _ i _ => ps.length - (intOf i).toNat)
    case atStart => exact ⟨0, [], by omega, rfl, by simp, hw.front 1 rfl⟩
    case round =>
      clear hw
      obtain ⟨j, cc, hj, rfl, hcc, hw⟩ := hrel
      obtain ⟨n, hn⟩ : ∃ n, n = cc.length := ⟨_, rfl⟩
      rw [← hn] at hw hcc
      have HN := Kp.mk hn
      clear hn
      obtain ⟨A0, c0, rfl, _, _⟩ := Row_val hw 1 rfl
      by_cases hlt : j < ps.length
      · have hlt' : (j : Int) < (ps.length : Int) := by omega
        obtain ⟨⟨v2, q⟩, hq⟩ : ∃ p, ps[j]? = some p := ⟨_, List.getElem?_eq_getElem hlt⟩
        have hrq : Rd W 1 v2 q.length (ybs q) := HP.out (v2, q) (List.mem_of_getElem? hq)
        obtain ⟨A2, c2, rfl, hc2⟩ := hrq.form
        obtain ⟨ad, rfl, hca⟩ := (hr.sub (hw.subOld 3 rfl)).addr (by omega)
        have ca := Kp.mk (hca j (.slice A2 q.length c2) (by rw [List.getElem?_map, hq]; rfl))
        clear hca hq
        by_cases h200 : 200 < q.length
        · have h200' : (200 : Int) < (q.length : Int) := by omega
          go_wp2_with (first
            | (refine wl_ld1 (v := .slice A2 q.length c2) (ad := ad.add j) rfl (by decide +kernel) ca.out ?_))
          go_ret
          exact ⟨rfl, hw.tail.tail.tail⟩
        · have h200' : ¬ ((200 : Int) < (q.length : Int)) := by omega
          obtain ⟨wo, ewo⟩ : ∃ wo : World, wo = wr := ⟨_, rfl⟩
          subst ewo
          obtain ⟨m, hm⟩ : ∃ m, m = q.length := ⟨_, rfl⟩
          rw [← hm] at hrq ca h200' hc2 h200
          have HM := Kp.mk hm
          clear hm
          go_wp2_with (first
            | (refine wl_ld1 (v := .slice A2 m c2) (ad := ad.add j) rfl (by decide +kernel) ca.out ?_)
            | (refine wl_lit0 (el := 5) (sz := 1) hw (by kernel_rfl) (by kernel_rfl) ?_; clear hw; intro b1 w hw)
            | (at_builtin; go_must (refine wl_append hw 0 rfl rfl rfl (hrq.sub (hw.subOld 4 rfl)) u_bytes byte_info rfl (by omega) ybs_one (by simp only [maxLen]; omega) (by omega) ?_); clear hw; intro v w hw hv; clear hv; rw [Nat.zero_add, List.nil_append] at hw; (try simp only [List.set_cons_succ, List.set_cons_zero, List.setIfInBounds_toArray, Value.cells, List.eraseIdx_cons_succ, List.eraseIdx_cons_zero] at hw); obtain ⟨A3, c3, rfl, _, hg3⟩ := Row_val hw 0 rfl)
            | (go_at_call 18; go_must (refine (sip_write (l := q) (hw.front 1 rfl) (by rw [← HM.out]; exact fun w' hs => Rd_row hs 0 rfl) (by rw [← HM.out]; omega) (by omega)).mono ?_); clear hw; rintro e w ⟨rfl, hw⟩; rw [← HM.out, ← Hst.take_app] at hw; (try simp only [List.set_cons_succ, List.set_cons_zero, List.setIfInBounds_toArray, Value.cells, List.eraseIdx_cons_succ, List.eraseIdx_cons_zero] at hw)))
          go_loopw [36] (fun i wr => ∃ (r : Nat) (xs : List UInt8), r ≤ m ∧ i = .int .i64 r ∧ xs.length = m ∧ Sat (World.env W) wr [Hash h ((Hst.mk (key0 key) []).take (cc ++ q)) (n + m), Row 5 1 (.slice A3 m c3) m (ybs xs), Row 5 1 (.slice A0 n c0) n (ybs cc), pt kb (.cells (ybs key).toArray 23 (0, 0)), Old W]) (fun i _ => m - (intOf i).toNat)
          case atStart => exact ⟨0, q, by omega, rfl, HM.out.symm, hw⟩
          case round =>
            clear hw
            obtain ⟨r, xs, hr', rfl, hxs, hw⟩ := hrel
            have HX := Kp.mk hxs
            by_cases hrm : r < m
            · have hrm' : (r : Int) < (m : Int) := by omega
              obtain ⟨g, rfl⟩ := hg3 (by omega)
              have hset := Kp.mk (show (ybs xs).set r (Y (UInt8.ofNat 238)) = ybs (xs.set r (UInt8.ofNat 238)) by unfold ybs; rw [List.map_set])
              clear hxs
              go_wp2_with (first
                | (refine wl_rowIdx r r (Nat.mul_one r) hw rfl rfl 1 rfl u_bytes byte_size hrm ?_)
                | (refine wl_rowStore1 (j := r) hw rfl rfl 1 rfl (by omega) (Y (UInt8.ofNat 238)) (Y_lit 238 (by decide)) (by decide +kernel) (Y_one _) ?_; clear hw; intro w hw; (try simp only [List.set_cons_succ, List.set_cons_zero, List.setIfInBounds_toArray, Value.cells, List.eraseIdx_cons_succ, List.eraseIdx_cons_zero] at hw); rw [hset.out] at hw))
              go_roundw
              case rel => exact ⟨r + 1, _, by omega, by go_num, by rw [List.length_set]; exact HX.out, hw⟩
              case measure => simp [intOf]; omega
            · obtain rfl : r = m := by omega
              clear hg3 hxs
              have hnm : (cc ++ q).length = n + r := by rw [List.length_append, ← HN.out, ← HM.out]
              have hne := Kp.mk (show (((Hst.mk (key0 key) []).take (cc ++ q)).sum (n + r) != sumOf key (cc ++ q)) = false by simp [sumOf, HN.out, HM.out])
              have HNM := Kp.mk hnm
              clear hnm
              go_wp2_with (first
                | (at_builtin; go_must (refine wl_append hw 2 rfl rfl rfl (hrq.sub (hw.subOld 4 rfl)) u_bytes byte_info rfl (by omega) ybs_one (by simp only [maxLen]; omega) (by omega) ?_); clear hw; intro v w hw hv; clear hv; (try simp only [List.set_cons_succ, List.set_cons_zero, List.setIfInBounds_toArray, Value.cells, List.eraseIdx_cons_succ, List.eraseIdx_cons_zero] at hw)))
              rw [← ybs_app] at hw
              have hS0 := hw.gets (Gets.get 3 rfl Gets.nil)
              refine startS (ds := []) hS0 #[false, false, false, false, false, false] (by kernel_rfl) rfl (by rfl) ?_
              clear hS0; intro hS
              replace hw := hw.drew; generalize w.drew = w at hw hS ⊢
              (refine pureE (i := 0) (oi := { dst := some 46, op := Op.move (Operand.tmp 5), type := 32, pos := "law.go:53", after := #[], guard := none }) (N := some 46) #[true, false, false, false, false, false] rfl rfl (by kernel_rfl) (fun _ _ _ _ h => h) ?_; apply Exists.intro; refine ⟨Or.inl ⟨by rfl, ?_⟩, ?_⟩; · (intro w0; first | (exact rn_uneq rfl rfl rfl false hne.out) | (go_simp; try with_reducible rfl)))
              try simp only [Act.put, List.setIfInBounds_toArray, List.set_cons_succ, List.set_cons_zero]
              (refine pureE (i := 3) (oi := { dst := some 49, op := Op.move (Operand.tmp 6), type := 24, pos := "law.go:53", after := #[], guard := none }) (N := some 49) #[true, false, false, true, false, false] rfl rfl (by kernel_rfl) (fun _ _ _ _ h => h) ?_; apply Exists.intro; refine ⟨Or.inl ⟨by rfl, ?_⟩, ?_⟩; · (intro w0; first | (exact rn_uneq rfl rfl rfl false hne.out) | (go_simp; try with_reducible rfl)))
              try simp only [Act.put, List.setIfInBounds_toArray, List.set_cons_succ, List.set_cons_zero]
              (refine takeE (i := 2) (oi := { dst := some 48, op := Op.load 23 (Operand.tmp 2), type := 23, pos := "law.go:53", after := #[], guard := none }) (N := some 48) #[true, false, true, true, false, false] rfl rfl (by kernel_rfl) (fun _ _ _ _ h => h) hS ?_; apply Exists.intro; refine ⟨Or.inl ⟨by rfl, ?_⟩, ?_⟩; · (intro w0 h; first | (exact rn_satLdA rfl h 0 rfl rfl (by rw [key_agg, hkb])) | (exact rn_satLd1 rfl h 0 rfl rfl (by decide +kernel) (by simp only [List.getElem?_toArray, List.getElem?_cons_succ, List.getElem?_cons_zero]; exact rfl)) | (exact rn_satLdA rfl h 0 rfl rfl (by kernel_rfl)) | (exact rn_rowLd1 rfl h 0 rfl rfl (by decide +kernel) _ (by assumption)) | (go_simp; with_reducible rfl)))
              try simp only [Act.put, List.setIfInBounds_toArray, List.set_cons_succ, List.set_cons_zero]
              (refine one_ (i := 1) (oi := { dst := some 47, op := Op.call { callee := Callee.value (Operand.func 19), args := #[Operand.tmp 46], argTypes := #[32] }, type := 25, pos := "law.go:53", after := #[{ on := 0, ground := Ground.data }], guard := none }) (N := some 47) #[true, true, true, true, false, false] rfl rfl (by kernel_rfl) (by decide) (fun K hK => ?_); rw [if_pos (by rfl)]; first | (refine wk_call 14 rfl (by kernel_rfl) ?_; simp only [List.map_toArray, List.map_cons, List.map_nil, Act.eval, gd_s, gd_0]; go_must (refine (Calls.mono (ref_Sum (l := cc ++ q) hw hk (by rw [HNM.out]; exact fun w' hs => Rd_row hs 2 rfl) (by rw [HNM.out]; omega)) ?_)); clear hw; rintro e w ⟨rfl, hw⟩; (try simp only [List.set_cons_succ, List.set_cons_zero, List.setIfInBounds_toArray, Value.cells, List.eraseIdx_cons_succ, List.eraseIdx_cons_zero] at hw); refine ⟨_, rfl, ?_⟩) | (refine wk_call 19 rfl (by kernel_rfl) ?_; simp only [List.map_toArray, List.map_cons, List.map_nil, Act.eval, gd_s, gd_0]; go_must (refine (Calls.mono (sip_sum_at hw (by omega)) ?_)); clear hw; rintro e w ⟨rfl, hw⟩; (try simp only [List.set_cons_succ, List.set_cons_zero, List.setIfInBounds_toArray, Value.cells, List.eraseIdx_cons_succ, List.eraseIdx_cons_zero] at hw); refine ⟨_, rfl, ?_⟩))
              refine hK.out _ _ (Sat.gets hw (by repeat (first | exact Gets.nil | exact Gets.refl _ | refine Gets.get 0 rfl ?_ | refine Gets.get 1 rfl ?_ | refine Gets.get 2 rfl ?_ | refine Gets.get 3 rfl ?_ | refine Gets.get 4 rfl ?_ | refine Gets.get 5 rfl ?_ | refine Gets.get 6 rfl ?_ | refine Gets.get 7 rfl ?_ | refine Gets.get 8 rfl ?_ | refine Gets.get 9 rfl ?_ | refine Gets.drop ?_))) (fun hS => ?_); clear hK K; try simp only [Act.put, List.setIfInBounds_toArray, List.set_cons_succ, List.set_cons_zero]
              (refine one_ (i := 4) (oi := { dst := some 50, op := Op.call { callee := Callee.value (Operand.func 14), args := #[Operand.tmp 48, Operand.tmp 49], argTypes := #[23, 24] }, type := 25, pos := "law.go:53", after := #[{ on := 2, ground := Ground.data }, { on := 3, ground := Ground.data }, { on := 1, ground := Ground.chain }], guard := none }) (N := some 50) #[true, true, true, true, true, false] rfl rfl (by kernel_rfl) (by decide) (fun K hK => ?_); rw [if_pos (by rfl)]; first | (refine wk_call 14 rfl (by kernel_rfl) ?_; simp only [List.map_toArray, List.map_cons, List.map_nil, Act.eval, gd_s, gd_0]; go_must (refine (Calls.mono (ref_Sum (l := cc ++ q) hw hk (by rw [HNM.out]; exact fun w' hs => Rd_row hs 2 rfl) (by rw [HNM.out]; omega)) ?_)); clear hw; rintro e w ⟨rfl, hw⟩; (try simp only [List.set_cons_succ, List.set_cons_zero, List.setIfInBounds_toArray, Value.cells, List.eraseIdx_cons_succ, List.eraseIdx_cons_zero] at hw); refine ⟨_, rfl, ?_⟩) | (refine wk_call 19 rfl (by kernel_rfl) ?_; simp only [List.map_toArray, List.map_cons, List.map_nil, Act.eval, gd_s, gd_0]; go_must (refine (Calls.mono (sip_sum_at hw (by omega)) ?_)); clear hw; rintro e w ⟨rfl, hw⟩; (try simp only [List.set_cons_succ, List.set_cons_zero, List.setIfInBounds_toArray, Value.cells, List.eraseIdx_cons_succ, List.eraseIdx_cons_zero] at hw); refine ⟨_, rfl, ?_⟩))
              refine hK.out _ _ (Sat.gets hw (by repeat (first | exact Gets.nil | exact Gets.refl _ | refine Gets.get 0 rfl ?_ | refine Gets.get 1 rfl ?_ | refine Gets.get 2 rfl ?_ | refine Gets.get 3 rfl ?_ | refine Gets.get 4 rfl ?_ | refine Gets.get 5 rfl ?_ | refine Gets.get 6 rfl ?_ | refine Gets.get 7 rfl ?_ | refine Gets.get 8 rfl ?_ | refine Gets.get 9 rfl ?_ | refine Gets.drop ?_))) (fun hS => ?_); clear hK K; try simp only [Act.put, List.setIfInBounds_toArray, List.set_cons_succ, List.set_cons_zero]
              (refine pureE (i := 5) (oi := { dst := some 51, op := Op.binOp BinOp.neq 25 (Operand.tmp 47) (Operand.tmp 50) 25, type := 4, pos := "law.go:53", after := #[{ on := 1, ground := Ground.data }, { on := 4, ground := Ground.data }], guard := none }) (N := some 51) #[true, true, true, true, true, true] rfl rfl (by kernel_rfl) (fun _ _ _ _ h => h) ?_; apply Exists.intro; refine ⟨Or.inl ⟨by rfl, ?_⟩, ?_⟩; · (intro w0; first | (exact rn_uneq rfl rfl rfl false hne.out) | (go_simp; try with_reducible rfl)))
              try simp only [Act.put, List.setIfInBounds_toArray, List.set_cons_succ, List.set_cons_zero]
              refine done_ (by kernel_rfl) ?_; clear hS
              go_wp2
              go_roundw
              case rel => exact ⟨j + 1, cc ++ q, by omega, by go_num, by rw [HNM.out]; omega, by rw [HNM.out]; exact hw.del 1 rfl⟩
              case measure => simp [intOf]; omega
      · obtain rfl : j = ps.length := by omega
        have heq := Kp.mk (show (((Hst.mk (key0 key) []).take cc).sum n == sumOf key cc) = true by simp [sumOf, HN.out])
        go_wp2
        have hS0 := hw.gets (Gets.get 2 rfl Gets.nil)
        refine startS (ds := []) hS0 #[false, false, false, false, false, false, false] (by kernel_rfl) rfl (by rfl) ?_
        clear hS0; intro hS
        replace hw := hw.drew; generalize w.drew = w at hw hS ⊢
        (refine pureE (i := 0) (oi := { dst := some 53, op := Op.move (Operand.tmp 5), type := 32, pos := "law.go:57", after := #[], guard := none }) (N := some 53) #[true, false, false, false, false, false, false] rfl rfl (by kernel_rfl) (fun _ _ _ _ h => h) ?_; apply Exists.intro; refine ⟨Or.inl ⟨by rfl, ?_⟩, ?_⟩; · (intro w0; first | (exact rn_ueql rfl rfl rfl true heq.out) | (go_simp; try with_reducible rfl)))
        try simp only [Act.put, List.setIfInBounds_toArray, List.set_cons_succ, List.set_cons_zero]
        (refine pureE (i := 3) (oi := { dst := some 56, op := Op.move (Operand.tmp 6), type := 24, pos := "law.go:57", after := #[], guard := none }) (N := some 56) #[true, false, false, true, false, false, false] rfl rfl (by kernel_rfl) (fun _ _ _ _ h => h) ?_; apply Exists.intro; refine ⟨Or.inl ⟨by rfl, ?_⟩, ?_⟩; · (intro w0; first | (exact rn_ueql rfl rfl rfl true heq.out) | (go_simp; try with_reducible rfl)))
        try simp only [Act.put, List.setIfInBounds_toArray, List.set_cons_succ, List.set_cons_zero]
        (refine takeE (i := 2) (oi := { dst := some 55, op := Op.load 23 (Operand.tmp 2), type := 23, pos := "law.go:57", after := #[], guard := none }) (N := some 55) #[true, false, true, true, false, false, false] rfl rfl (by kernel_rfl) (fun _ _ _ _ h => h) hS ?_; apply Exists.intro; refine ⟨Or.inl ⟨by rfl, ?_⟩, ?_⟩; · (intro w0 h; first | (exact rn_satLdA rfl h 0 rfl rfl (by rw [key_agg, hkb])) | (exact rn_satLd1 rfl h 0 rfl rfl (by decide +kernel) (by simp only [List.getElem?_toArray, List.getElem?_cons_succ, List.getElem?_cons_zero]; exact rfl)) | (exact rn_satLdA rfl h 0 rfl rfl (by kernel_rfl)) | (exact rn_rowLd1 rfl h 0 rfl rfl (by decide +kernel) _ (by assumption)) | (go_simp; with_reducible rfl)))
        try simp only [Act.put, List.setIfInBounds_toArray, List.set_cons_succ, List.set_cons_zero]
        (refine one_ (i := 1) (oi := { dst := some 54, op := Op.call { callee := Callee.value (Operand.func 19), args := #[Operand.tmp 53], argTypes := #[32] }, type := 25, pos := "law.go:57", after := #[{ on := 0, ground := Ground.data }], guard := none }) (N := some 54) #[true, true, true, true, false, false, false] rfl rfl (by kernel_rfl) (by decide) (fun K hK => ?_); rw [if_pos (by rfl)]; first | (refine wk_call 13 rfl (by kernel_rfl) ?_; simp only [List.map_toArray, List.map_cons, List.map_nil, Act.eval, gd_s, gd_0]; go_must (refine (Calls.mono (sip_Sum (l := cc) hw hk (by rw [← HN.out]; exact fun w' hs => Rd_row hs 1 rfl) (by rw [← HN.out]; omega)) ?_)); clear hw; rintro e w ⟨rfl, hw⟩; (try simp only [List.set_cons_succ, List.set_cons_zero, List.setIfInBounds_toArray, Value.cells, List.eraseIdx_cons_succ, List.eraseIdx_cons_zero] at hw); refine ⟨_, rfl, ?_⟩) | (refine wk_call 19 rfl (by kernel_rfl) ?_; simp only [List.map_toArray, List.map_cons, List.map_nil, Act.eval, gd_s, gd_0]; go_must (refine (Calls.mono (sip_sum_at hw (by omega)) ?_)); clear hw; rintro e w ⟨rfl, hw⟩; (try simp only [List.set_cons_succ, List.set_cons_zero, List.setIfInBounds_toArray, Value.cells, List.eraseIdx_cons_succ, List.eraseIdx_cons_zero] at hw); refine ⟨_, rfl, ?_⟩))
        refine hK.out _ _ (Sat.gets hw (by repeat (first | exact Gets.nil | exact Gets.refl _ | refine Gets.get 0 rfl ?_ | refine Gets.get 1 rfl ?_ | refine Gets.get 2 rfl ?_ | refine Gets.get 3 rfl ?_ | refine Gets.get 4 rfl ?_ | refine Gets.get 5 rfl ?_ | refine Gets.get 6 rfl ?_ | refine Gets.get 7 rfl ?_ | refine Gets.get 8 rfl ?_ | refine Gets.get 9 rfl ?_ | refine Gets.drop ?_))) (fun hS => ?_); clear hK K; try simp only [Act.put, List.setIfInBounds_toArray, List.set_cons_succ, List.set_cons_zero]
        (refine one_ (i := 4) (oi := { dst := some 57, op := Op.call { callee := Callee.value (Operand.func 13), args := #[Operand.tmp 55, Operand.tmp 56], argTypes := #[23, 24] }, type := 25, pos := "law.go:57", after := #[{ on := 2, ground := Ground.data }, { on := 3, ground := Ground.data }, { on := 1, ground := Ground.chain }], guard := none }) (N := some 57) #[true, true, true, true, true, false, false] rfl rfl (by kernel_rfl) (by decide) (fun K hK => ?_); rw [if_pos (by rfl)]; first | (refine wk_call 13 rfl (by kernel_rfl) ?_; simp only [List.map_toArray, List.map_cons, List.map_nil, Act.eval, gd_s, gd_0]; go_must (refine (Calls.mono (sip_Sum (l := cc) hw hk (by rw [← HN.out]; exact fun w' hs => Rd_row hs 1 rfl) (by rw [← HN.out]; omega)) ?_)); clear hw; rintro e w ⟨rfl, hw⟩; (try simp only [List.set_cons_succ, List.set_cons_zero, List.setIfInBounds_toArray, Value.cells, List.eraseIdx_cons_succ, List.eraseIdx_cons_zero] at hw); refine ⟨_, rfl, ?_⟩) | (refine wk_call 19 rfl (by kernel_rfl) ?_; simp only [List.map_toArray, List.map_cons, List.map_nil, Act.eval, gd_s, gd_0]; go_must (refine (Calls.mono (sip_sum_at hw (by omega)) ?_)); clear hw; rintro e w ⟨rfl, hw⟩; (try simp only [List.set_cons_succ, List.set_cons_zero, List.setIfInBounds_toArray, Value.cells, List.eraseIdx_cons_succ, List.eraseIdx_cons_zero] at hw); refine ⟨_, rfl, ?_⟩))
        refine hK.out _ _ (Sat.gets hw (by repeat (first | exact Gets.nil | exact Gets.refl _ | refine Gets.get 0 rfl ?_ | refine Gets.get 1 rfl ?_ | refine Gets.get 2 rfl ?_ | refine Gets.get 3 rfl ?_ | refine Gets.get 4 rfl ?_ | refine Gets.get 5 rfl ?_ | refine Gets.get 6 rfl ?_ | refine Gets.get 7 rfl ?_ | refine Gets.get 8 rfl ?_ | refine Gets.get 9 rfl ?_ | refine Gets.drop ?_))) (fun hS => ?_); clear hK K; try simp only [Act.put, List.setIfInBounds_toArray, List.set_cons_succ, List.set_cons_zero]
        (refine pureE (i := 5) (oi := { dst := some 58, op := Op.binOp BinOp.eql 25 (Operand.tmp 54) (Operand.tmp 57) 25, type := 4, pos := "law.go:57", after := #[{ on := 1, ground := Ground.data }, { on := 4, ground := Ground.data }], guard := none }) (N := some 58) #[true, true, true, true, true, true, false] rfl rfl (by kernel_rfl) (fun _ _ _ _ h => h) ?_; apply Exists.intro; refine ⟨Or.inl ⟨by rfl, ?_⟩, ?_⟩; · (intro w0; first | (exact rn_ueql rfl rfl rfl true heq.out) | (go_simp; try with_reducible rfl)))
        try simp only [Act.put, List.setIfInBounds_toArray, List.set_cons_succ, List.set_cons_zero]
        (refine pureE (i := 6) (oi := { dst := some 4, op := Op.assign (Operand.tmp 58), type := 4, pos := "law.go:57", after := #[{ on := 5, ground := Ground.data }, { on := 4, ground := Ground.chain }, { on := 0, ground := Ground.phase }, { on := 1, ground := Ground.phase }, { on := 2, ground := Ground.phase }, { on := 3, ground := Ground.phase }, { on := 4, ground := Ground.phase }, { on := 5, ground := Ground.phase }], guard := none }) (N := some 4) #[true, true, true, true, true, true, true] rfl rfl (by kernel_rfl) (fun _ _ _ _ h => h) ?_; apply Exists.intro; refine ⟨Or.inl ⟨by rfl, ?_⟩, ?_⟩; · (intro w0; first | (exact rn_ueql rfl rfl rfl true heq.out) | (go_simp; try with_reducible rfl)))
        try simp only [Act.put, List.setIfInBounds_toArray, List.set_cons_succ, List.set_cons_zero]
        refine done_ (by kernel_rfl) ?_; clear hS
        go_wp2
        go_ret
        exact ⟨rfl, hw.tail.tail.tail⟩
end Go.Proofs.Ytidkfjgelcpieaa
