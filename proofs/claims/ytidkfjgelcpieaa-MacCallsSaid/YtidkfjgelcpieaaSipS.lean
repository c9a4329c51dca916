/- The numbers of bytes: of package sip, and the document's. Conditions: none. -/
import Derived.Test.YtidkfjgelcpieaaSipN
set_option linter.unusedVariables false
set_option linter.unusedSimpArgs false
namespace Go.Proofs.Ytidkfjgelcpieaa
open Go.RowKit Go.Bst Go.MapKept Go.Proofs.YtidkfjgelcpieaaW.PrintLast
attribute [local irreducible] Q4.round wpList Calls Code.wp Code.wpN Oper.wp Go.Proofs.YtidkfjgelcpieaaW.PrintLast.wpAnyLast

theorem key_agg : aggSize Try.prog 23 = some 16 := by kernel_rfl
section
variable {E : Env} {w : World} {F : List HP}
set_option maxRecDepth 100000 in
set_option maxHeartbeats 400000 in
theorem sip_Sum {k l : List UInt8} {v : Value} (hw : Sat E w F) (hk : k.length = 16) (hr : ∀ w', Sat E w' F → Rd w' 1 v l.length (ybs l)) (hl : l.length ≤ 1000000) :
    Calls Try.prog 13 #[.agg (ybs k).toArray, v] w fun e w' => e = .returned (U (sumOf k l)) ∧ Sat E w' F := by
  have HR := Kp.mk hr
  clear hr
  go_enter Try.func13, Try.ntmps13
  go_wp2_with (first
    | (refine wl_box hw _ (by simp only [Act.eval, Act.put, List.setIfInBounds_toArray, List.set_cons_succ, List.set_cons_zero, gd_s, gd_0, Value.cells]; exact rfl) ?_; clear hw; intro kb w hw; (try simp only [List.set_cons_succ, List.set_cons_zero, List.setIfInBounds_toArray, Value.cells, List.eraseIdx_cons_succ, List.eraseIdx_cons_zero] at hw))
    | (refine wl_load_all hw rfl 0 rfl (by rw [key_agg]; simp [ybs, hk]) ?_)
    | (go_at_call 17; refine (sip_new hw hk).mono ?_; clear hw; rintro e w ⟨h, rfl, hw⟩)
    | (go_at_call 18; go_must (refine (sip_write hw (fun w' hs => HR.out w' hs.tail) hl (by omega)).mono ?_); clear hw; rintro e w ⟨rfl, hw⟩; rw [Nat.zero_add] at hw)
    | (go_at_call 19; go_must (refine (sip_sum_at hw hl).mono ?_); clear hw; rintro e w ⟨rfl, hw⟩))
  go_ret
  exact ⟨rfl, hw.tail.tail⟩
set_option maxRecDepth 100000 in
set_option maxHeartbeats 2000000 in
theorem ref_Sum {k l : List UInt8} {v : Value} (hw : Sat E w F) (hk : k.length = 16) (hr : ∀ w', Sat E w' F → Rd w' 1 v l.length (ybs l)) (hl : l.length ≤ 1000000) :
    Calls Try.prog 14 #[.agg (ybs k).toArray, v] w fun e w' => e = .returned (U (sumOf k l)) ∧ Sat E w' F := by
  obtain ⟨A, cap, rfl, hcap⟩ := (hr w hw).form
  have HR := Kp.mk hr
  clear hr
  have hk1 : (k.take 8).length = 8 := by simp; omega
  have hk2 : (k.drop 8).length = 8 := by simp; omega
  have e1 := Kp.mk (show ybs (k.take 8) = ((ybs k).toArray.toList.drop 0).take (8 * 1) by simp [ybs])
  have e2 := Kp.mk (show ybs (k.drop 8) = ((ybs k).toArray.toList.drop 8).take (8 * 1) by simp [ybs]; rw [List.take_of_length_le (by simp; omega)])
  go_enter Try.func14, Try.ntmps14
  go_wp2_with (refine wl_box hw _ (by simp only [Act.eval, Act.put, List.setIfInBounds_toArray, List.set_cons_succ, List.set_cons_zero, gd_s, gd_0, Value.cells]; exact rfl) ?_; clear hw; intro kb w hw; (try simp only [List.set_cons_succ, List.set_cons_zero, List.setIfInBounds_toArray, Value.cells, List.eraseIdx_cons_succ, List.eraseIdx_cons_zero] at hw))
  have hS0 := hw.gets Gets.nil
  refine startS (ds := []) hS0 #[false, false, false, false, false, false] (by kernel_rfl) rfl (by rfl) ?_
  clear hS0; intro hS
  replace hw := hw.drew; generalize w.drew = w at hw hS ⊢
  (refine pureE (i := 0) (oi := { dst := some 11, op := Op.slice 23 (Operand.tmp 2) none (some (Operand.const (Value.int IntKind.i64 8))) none, type := 24, pos := "ref.go:33", after := #[], guard := none }) (N := some 11) #[true, false, false, false, false, false] rfl rfl (by kernel_rfl) (fun _ _ _ _ h => h) ?_; apply Exists.intro; refine ⟨Or.inl ⟨by rfl, ?_⟩, ?_⟩; · (intro w0; first | (exact rn_sliceArr 0 8 rfl rfl u_key byte_size (.inl ⟨rfl, rfl⟩) (.inr rfl) (by omega) (by omega)) | (exact rn_sliceArr 8 16 rfl rfl u_key byte_size (.inr rfl) (.inl ⟨rfl, rfl⟩) (by omega) (by omega)) | (go_simp; try with_reducible rfl)))
  try simp only [Act.put, List.setIfInBounds_toArray, List.set_cons_succ, List.set_cons_zero]
  (refine pureE (i := 2) (oi := { dst := some 13, op := Op.slice 23 (Operand.tmp 2) (some (Operand.const (Value.int IntKind.i64 8))) none none, type := 24, pos := "ref.go:33", after := #[], guard := none }) (N := some 13) #[true, false, true, false, false, false] rfl rfl (by kernel_rfl) (fun _ _ _ _ h => h) ?_; apply Exists.intro; refine ⟨Or.inl ⟨by rfl, ?_⟩, ?_⟩; · (intro w0; first | (exact rn_sliceArr 0 8 rfl rfl u_key byte_size (.inl ⟨rfl, rfl⟩) (.inr rfl) (by omega) (by omega)) | (exact rn_sliceArr 8 16 rfl rfl u_key byte_size (.inr rfl) (.inl ⟨rfl, rfl⟩) (by omega) (by omega)) | (go_simp; try with_reducible rfl)))
  try simp only [Act.put, List.setIfInBounds_toArray, List.set_cons_succ, List.set_cons_zero]
  (refine one_ (i := 1) (oi := { dst := some 12, op := Op.call { callee := Callee.value (Operand.func 33), args := #[Operand.tmp 11], argTypes := #[24] }, type := 25, pos := "ref.go:33", after := #[{ on := 0, ground := Ground.data }], guard := none }) (N := some 12) #[true, true, true, false, false, false] rfl rfl (by kernel_rfl) (by decide) (fun K hK => ?_); rw [if_pos (by rfl)]; first | (refine wk_call 33 rfl (by kernel_rfl) ?_; simp only [List.map_toArray, List.map_cons, List.map_nil, Act.eval, gd_s, gd_0]; refine (ref_read (l := k.take 8) (by rw [hk1]; exact Rd_arr (off := 0) hw 0 rfl (by omega) _ (by rw [ybs_len, hk1]) e1.out) (by omega)).mono ?_; rintro e w1 ⟨rfl, e1⟩; replace e1 := e1.symm; subst e1; refine ⟨_, rfl, ?_⟩) | (refine wk_call 33 rfl (by kernel_rfl) ?_; simp only [List.map_toArray, List.map_cons, List.map_nil, Act.eval, gd_s, gd_0]; go_must (refine (ref_read (l := k.drop 8) (by rw [hk2]; exact Rd_arr (off := 8) hw 0 rfl (by omega) _ (by rw [ybs_len, hk2]) e2.out) (by omega)).mono ?_); rintro e w1 ⟨rfl, e1⟩; replace e1 := e1.symm; subst e1; refine ⟨_, rfl, ?_⟩))
  refine hK.out _ _ (Sat.gets hw (by repeat (first | exact Gets.nil | exact Gets.refl _ | refine Gets.get 0 rfl ?_ | refine Gets.get 1 rfl ?_ | refine Gets.get 2 rfl ?_ | refine Gets.get 3 rfl ?_ | refine Gets.get 4 rfl ?_ | refine Gets.get 5 rfl ?_ | refine Gets.get 6 rfl ?_ | refine Gets.get 7 rfl ?_ | refine Gets.get 8 rfl ?_ | refine Gets.get 9 rfl ?_ | refine Gets.drop ?_))) (fun hS => ?_); clear hK K; try simp only [Act.put, List.setIfInBounds_toArray, List.set_cons_succ, List.set_cons_zero]
  (refine one_ (i := 3) (oi := { dst := some 14, op := Op.call { callee := Callee.value (Operand.func 33), args := #[Operand.tmp 13], argTypes := #[24] }, type := 25, pos := "ref.go:33", after := #[{ on := 2, ground := Ground.data }, { on := 1, ground := Ground.chain }], guard := none }) (N := some 14) #[true, true, true, true, false, false] rfl rfl (by kernel_rfl) (by decide) (fun K hK => ?_); rw [if_pos (by rfl)]; first | (refine wk_call 33 rfl (by kernel_rfl) ?_; simp only [List.map_toArray, List.map_cons, List.map_nil, Act.eval, gd_s, gd_0]; refine (ref_read (l := k.take 8) (by rw [hk1]; exact Rd_arr (off := 0) hw 0 rfl (by omega) _ (by rw [ybs_len, hk1]) e1.out) (by omega)).mono ?_; rintro e w1 ⟨rfl, e1⟩; replace e1 := e1.symm; subst e1; refine ⟨_, rfl, ?_⟩) | (refine wk_call 33 rfl (by kernel_rfl) ?_; simp only [List.map_toArray, List.map_cons, List.map_nil, Act.eval, gd_s, gd_0]; go_must (refine (ref_read (l := k.drop 8) (by rw [hk2]; exact Rd_arr (off := 8) hw 0 rfl (by omega) _ (by rw [ybs_len, hk2]) e2.out) (by omega)).mono ?_); rintro e w1 ⟨rfl, e1⟩; replace e1 := e1.symm; subst e1; refine ⟨_, rfl, ?_⟩))
  refine hK.out _ _ (Sat.gets hw (by repeat (first | exact Gets.nil | exact Gets.refl _ | refine Gets.get 0 rfl ?_ | refine Gets.get 1 rfl ?_ | refine Gets.get 2 rfl ?_ | refine Gets.get 3 rfl ?_ | refine Gets.get 4 rfl ?_ | refine Gets.get 5 rfl ?_ | refine Gets.get 6 rfl ?_ | refine Gets.get 7 rfl ?_ | refine Gets.get 8 rfl ?_ | refine Gets.get 9 rfl ?_ | refine Gets.drop ?_))) (fun hS => ?_); clear hK K; try simp only [Act.put, List.setIfInBounds_toArray, List.set_cons_succ, List.set_cons_zero]
  (refine pureE (i := 4) (oi := { dst := some 5, op := Op.assign (Operand.tmp 12), type := 25, pos := "ref.go:33", after := #[{ on := 1, ground := Ground.data }, { on := 3, ground := Ground.chain }, { on := 0, ground := Ground.phase }, { on := 1, ground := Ground.phase }, { on := 2, ground := Ground.textOnly Departure.lateStoresUnsure }, { on := 3, ground := Ground.textOnly Departure.lateStoresUnsure }], guard := none }) (N := some 5) #[true, true, true, true, true, false] rfl rfl (by kernel_rfl) (fun _ _ _ _ h => h) ?_; apply Exists.intro; refine ⟨Or.inl ⟨by rfl, ?_⟩, ?_⟩; · (intro w0; first | (exact rn_sliceArr 0 8 rfl rfl u_key byte_size (.inl ⟨rfl, rfl⟩) (.inr rfl) (by omega) (by omega)) | (exact rn_sliceArr 8 16 rfl rfl u_key byte_size (.inr rfl) (.inl ⟨rfl, rfl⟩) (by omega) (by omega)) | (go_simp; try with_reducible rfl)))
  try simp only [Act.put, List.setIfInBounds_toArray, List.set_cons_succ, List.set_cons_zero]
  (refine pureE (i := 5) (oi := { dst := some 6, op := Op.assign (Operand.tmp 14), type := 25, pos := "ref.go:33", after := #[{ on := 3, ground := Ground.data }, { on := 4, ground := Ground.chain }, { on := 0, ground := Ground.phase }, { on := 1, ground := Ground.phase }, { on := 2, ground := Ground.phase }, { on := 3, ground := Ground.phase }, { on := 4, ground := Ground.phase }], guard := none }) (N := some 6) #[true, true, true, true, true, true] rfl rfl (by kernel_rfl) (fun _ _ _ _ h => h) ?_; apply Exists.intro; refine ⟨Or.inl ⟨by rfl, ?_⟩, ?_⟩; · (intro w0; first | (exact rn_sliceArr 0 8 rfl rfl u_key byte_size (.inl ⟨rfl, rfl⟩) (.inr rfl) (by omega) (by omega)) | (exact rn_sliceArr 8 16 rfl rfl u_key byte_size (.inr rfl) (.inl ⟨rfl, rfl⟩) (by omega) (by omega)) | (go_simp; try with_reducible rfl)))
  try simp only [Act.put, List.setIfInBounds_toArray, List.set_cons_succ, List.set_cons_zero]
  refine done_ (by kernel_rfl) ?_; clear hS
  go_wp2_with (first
    | (refine wl_uxor (by first | exact rfl | (simp only [Act.eval, Act.put, List.setIfInBounds_toArray, List.set_cons_succ, List.set_cons_zero, gd_s, gd_0]; exact U_lit _ (by decide))) (by first | exact rfl | (simp only [Act.eval, Act.put, List.setIfInBounds_toArray, List.set_cons_succ, List.set_cons_zero, gd_s, gd_0]; exact U_lit _ (by decide))) ?_)
    | (refine wl_build (t := 26) (key0 k).cs (by simp only [List.map_cons, List.map_nil, Act.eval, Act.put, List.setIfInBounds_toArray, List.set_cons_succ, List.set_cons_zero, gd_s, gd_0, U_cells, Y_cells, Value.cells]; exact rfl) (by kernel_rfl) ?_)
    | (refine wl_alloc hw q_zero ?_; clear hw; intro b w hw; (try simp only [List.set_cons_succ, List.set_cons_zero, List.setIfInBounds_toArray, Value.cells, List.eraseIdx_cons_succ, List.eraseIdx_cons_zero] at hw))
    | (refine wl_store_all (vs := (key0 k).cs) hw rfl 0 rfl rfl (by rw [q_size]; rfl) rfl (Q4.one _) ?_; clear hw; intro w hw; (try simp only [List.set_cons_succ, List.set_cons_zero, List.setIfInBounds_toArray, Value.cells, List.eraseIdx_cons_succ, List.eraseIdx_cons_zero] at hw)))
  obtain ⟨k0, hk0⟩ : ∃ k0, k0 = key0 k := ⟨_, rfl⟩
  have HK := Kp.mk (show sumOf k l = ((Hst.mk k0 []).take l).sum l.length by rw [hk0]; rfl)
  rw [← hk0] at hw
  clear hk0
  go_loopw [8] (fun i wr => ∃ (a : Nat) (y : Q4), i = .int .i64 a ∧ a ≤ l.length + 8 ∧ Kp (8 ∣ a ∧ ((a ≤ l.length ∧ y = ((Hst.mk k0 []).take (l.take a)).x) ∨ (l.length < a ∧ y = ((Hst.mk k0 []).take l).x.mix (rd ((Hst.mk k0 []).take l).left ||| (BitVec.ofNat 64 l.length <<< 56))))) ∧ Sat E wr (pt b (.cells y.cs 26 (0, 0)) :: pt kb (.cells (ybs k).toArray 23 (0, 0)) :: F)) (fun i _ => l.length + 8 - (intOf i).toNat)
  case atStart => exact ⟨0, k0, rfl, by omega, Kp.mk ⟨⟨0, rfl⟩, .inl ⟨by omega, rfl⟩⟩, hw⟩
  case round =>
    clear hw
    obtain ⟨a, y, rfl, ha, hy, hw⟩ := hrel
    by_cases hle : a ≤ l.length
    · have hle' : (a : Int) ≤ (l.length : Int) := by omega
      have hd := hy.out.1
      have hy' := Kp.mk (show y = ((Hst.mk k0 []).take (l.take a)).x by
        rcases hy.out.2 with ⟨_, h⟩ | ⟨h, _⟩
        · exact h
        · omega)
      have hleft := Kp.mk (show ((Hst.mk k0 []).take (l.take a)).left = [] by
        obtain ⟨j, rfl⟩ := hd
        exact take_mul _ _ j hle)
      have HD := Kp.mk hd
      clear hd hy
      by_cases h8 : a + 8 ≤ l.length
      · have h8' : (a : Int) + 8 ≤ (l.length : Int) := by omega
        obtain ⟨ch, hch⟩ : ∃ ch, ch = (l.drop a).take 8 := ⟨_, rfl⟩
        have hc8 : ch.length = 8 := by rw [hch]; simp; omega
        have hrd := fun w' (hs : Sat E w' F) => (HR.out w' hs).part (l := a) (h := a + 8) (by omega) h8
        have hx : ((ybs l).drop (a * 1)).take ((a + 8 - a) * 1) = ybs ch := by
          rw [Nat.mul_one, Nat.mul_one, Nat.add_sub_cancel_left, hch]; simp [ybs]
        rw [hx, show a + 8 - a = 8 from by omega] at hrd
        have HRD := Kp.mk hrd
        have HC8 := Kp.mk hc8
        clear hrd hx hc8
        have hnext := Kp.mk (show y.mix (rd ch) = ((Hst.mk k0 []).take (l.take (a + 8))).x by rw [take_step hleft.out h8, hy'.out, hch])
        clear hch
        obtain ⟨y0, y1, y2, y3⟩ := y
        simp only [Q4.cs] at hw
        go_wp2_with (first
          | (refine wl_slice a (a + 8) rfl u_bytes byte_size (.inr rfl) (.inr rfl) (by omega) (by omega) ?_; intro A' hA'; rw [show a + 8 - a = 8 from by omega])
          | (go_at_call 33; go_must (refine (ref_read (l := ch) (by rw [HC8.out, hA'.out]; exact HRD.out _ hw.tail.tail) (by rw [HC8.out]; omega)).mono ?_); rintro e w1 ⟨rfl, e1⟩; replace e1 := e1.symm; subst e1)
          | (refine wl_load_all hw rfl 0 rfl q_agg ?_)
          | (go_at_call 16; first
             | (refine (ref_round hw ⟨y0, y1, y2, y3 ^^^ rd ch⟩).mono ?_; clear hw; rintro e w ⟨rfl, hw⟩)
             | (refine (ref_round hw (Q4.round ⟨y0, y1, y2, y3 ^^^ rd ch⟩)).mono ?_; clear hw; rintro e w ⟨rfl, hw⟩))
          | (refine wl_load1 hw rfl 0 rfl (by decide +kernel) (by simp only [List.getElem?_toArray, List.getElem?_cons_succ, List.getElem?_cons_zero]; exact rfl) ?_)
          | (refine wl_load1 hw rfl 0 rfl (by decide +kernel) (v := U (Q4.round (Q4.round ⟨y0, y1, y2, y3 ^^^ rd ch⟩)).a) rfl ?_)
          | (refine wl_uxor (by first | exact rfl | (simp only [Act.eval, Act.put, List.setIfInBounds_toArray, List.set_cons_succ, List.set_cons_zero, gd_s, gd_0]; exact U_lit _ (by decide))) (by first | exact rfl | (simp only [Act.eval, Act.put, List.setIfInBounds_toArray, List.set_cons_succ, List.set_cons_zero, gd_s, gd_0]; exact U_lit _ (by decide))) ?_)
          | (refine wl_store1 hw rfl 0 rfl _ (by simp only [Act.eval, Act.put, List.setIfInBounds_toArray, List.set_cons_succ, List.set_cons_zero, gd_s, gd_0, Value.cells]; exact rfl) (by decide +kernel) (by simp) (U_one _) ?_; clear hw; intro w hw; (try simp only [List.set_cons_succ, List.set_cons_zero, List.setIfInBounds_toArray, Value.cells, List.eraseIdx_cons_succ, List.eraseIdx_cons_zero] at hw))
          | (refine wl_store_all (vs := (Q4.round ⟨y0, y1, y2, y3 ^^^ rd ch⟩).cs) hw rfl 0 rfl rfl (by rw [q_size]; rfl) rfl (Q4.one _) ?_; clear hw; intro w hw; (try simp only [List.set_cons_succ, List.set_cons_zero, List.setIfInBounds_toArray, Value.cells, List.eraseIdx_cons_succ, List.eraseIdx_cons_zero] at hw))
          | (refine wl_store_all (vs := (Q4.round (Q4.round ⟨y0, y1, y2, y3 ^^^ rd ch⟩)).cs) hw rfl 0 rfl rfl (by rw [q_size]; rfl) rfl (Q4.one _) ?_; clear hw; intro w hw; simp only [Q4.cs] at hw; (try simp only [List.set_cons_succ, List.set_cons_zero, List.setIfInBounds_toArray, Value.cells, List.eraseIdx_cons_succ, List.eraseIdx_cons_zero] at hw)))
        replace hw : Sat E w (pt b (.cells (Q4.mix ⟨y0, y1, y2, y3⟩ (rd ch)).cs 26 (0, 0)) :: pt kb (.cells (ybs k).toArray 23 (0, 0)) :: F) := hw
        rw [hnext.out] at hw
        go_roundw
        case rel => exact ⟨a + 8, _, by go_num, by omega, Kp.mk ⟨by have := HD.out; omega, .inl ⟨by omega, rfl⟩⟩, hw⟩
        case measure => simp [intOf]; omega
      · have h8' : ¬ ((a : Int) + 8 ≤ (l.length : Int)) := by omega
        have hrd := fun w' (hs : Sat E w' F) => (HR.out w' hs).cut (k := a) hle
        have hx : (ybs l).drop (a * 1) = ybs (l.drop a) := by rw [Nat.mul_one]; simp [ybs]
        rw [hx] at hrd
        have HRD := Kp.mk hrd
        obtain ⟨mm, hmm⟩ : ∃ mm, mm = rd (l.drop a) + (BitVec.ofInt 64 ((l.length : Int) % 256) <<< 56) := ⟨_, rfl⟩
        have hnext := Kp.mk (show y.mix mm = ((Hst.mk k0 []).take l).x.mix (rd ((Hst.mk k0 []).take l).left ||| (BitVec.ofNat 64 l.length <<< 56)) by
          rw [take_end hleft.out (by omega), hy'.out, hmm]
          show _ = Q4.mix _ (rd (l.drop a) ||| _)
          rw [last_or (by rw [List.length_drop]; omega), ← BitVec.ofInt_natCast]
          rfl)
        have HMM := Kp.mk hmm
        clear hrd hx hmm
        have hdl : (l.drop a).length = l.length - a := List.length_drop
        have HDL := Kp.mk hdl
        clear hdl
        obtain ⟨y0, y1, y2, y3⟩ := y
        simp only [Q4.cs] at hw
        go_wp2_with (first
          | (refine wl_slice a l.length rfl u_bytes byte_size (.inr rfl) (.inl ⟨rfl, rfl⟩) (by omega) (by omega) ?_; intro A' hA')
          | (go_at_call 33; go_must (refine (ref_read (l := l.drop a) (by rw [HDL.out, hA'.out]; exact HRD.out _ hw.tail.tail) (by rw [HDL.out]; omega)).mono ?_); rintro e w1 ⟨rfl, e1⟩; replace e1 := e1.symm; subst e1)
          | (refine wl_uint rfl u_int u_u64 ?_)
          | (refine wl_ushl (by first | exact rfl | (simp only [Act.eval, Act.put, List.setIfInBounds_toArray, List.set_cons_succ, List.set_cons_zero, gd_s, gd_0]; exact U_lit _ (by decide))) (by exact rfl) ?_)
          | (refine wl_uadd rfl rfl ?_; rw [← HMM.out])
          | (refine wl_load_all hw rfl 0 rfl q_agg ?_)
          | (go_at_call 16; first
             | (refine (ref_round hw ⟨y0, y1, y2, y3 ^^^ mm⟩).mono ?_; clear hw; rintro e w ⟨rfl, hw⟩)
             | (refine (ref_round hw (Q4.round ⟨y0, y1, y2, y3 ^^^ mm⟩)).mono ?_; clear hw; rintro e w ⟨rfl, hw⟩))
          | (refine wl_load1 hw rfl 0 rfl (by decide +kernel) (by simp only [List.getElem?_toArray, List.getElem?_cons_succ, List.getElem?_cons_zero]; exact rfl) ?_)
          | (refine wl_load1 hw rfl 0 rfl (by decide +kernel) (v := U (Q4.round (Q4.round ⟨y0, y1, y2, y3 ^^^ mm⟩)).a) rfl ?_)
          | (refine wl_uxor (by first | exact rfl | (simp only [Act.eval, Act.put, List.setIfInBounds_toArray, List.set_cons_succ, List.set_cons_zero, gd_s, gd_0]; exact U_lit _ (by decide))) (by first | exact rfl | (simp only [Act.eval, Act.put, List.setIfInBounds_toArray, List.set_cons_succ, List.set_cons_zero, gd_s, gd_0]; exact U_lit _ (by decide))) ?_)
          | (refine wl_store1 hw rfl 0 rfl _ (by simp only [Act.eval, Act.put, List.setIfInBounds_toArray, List.set_cons_succ, List.set_cons_zero, gd_s, gd_0, Value.cells]; exact rfl) (by decide +kernel) (by simp) (U_one _) ?_; clear hw; intro w hw; (try simp only [List.set_cons_succ, List.set_cons_zero, List.setIfInBounds_toArray, Value.cells, List.eraseIdx_cons_succ, List.eraseIdx_cons_zero] at hw))
          | (refine wl_store_all (vs := (Q4.round ⟨y0, y1, y2, y3 ^^^ mm⟩).cs) hw rfl 0 rfl rfl (by rw [q_size]; rfl) rfl (Q4.one _) ?_; clear hw; intro w hw; (try simp only [List.set_cons_succ, List.set_cons_zero, List.setIfInBounds_toArray, Value.cells, List.eraseIdx_cons_succ, List.eraseIdx_cons_zero] at hw))
          | (refine wl_store_all (vs := (Q4.round (Q4.round ⟨y0, y1, y2, y3 ^^^ mm⟩)).cs) hw rfl 0 rfl rfl (by rw [q_size]; rfl) rfl (Q4.one _) ?_; clear hw; intro w hw; simp only [Q4.cs] at hw; (try simp only [List.set_cons_succ, List.set_cons_zero, List.setIfInBounds_toArray, Value.cells, List.eraseIdx_cons_succ, List.eraseIdx_cons_zero] at hw)))
        replace hw : Sat E w (pt b (.cells (Q4.mix ⟨y0, y1, y2, y3⟩ mm).cs 26 (0, 0)) :: pt kb (.cells (ybs k).toArray 23 (0, 0)) :: F) := hw
        rw [hnext.out] at hw
        go_roundw
        case rel => exact ⟨a + 8, _, by go_num, by omega, Kp.mk ⟨by have := HD.out; omega, .inr ⟨by omega, rfl⟩⟩, hw⟩
        case measure => simp [intOf]; omega
    · have hle' : ¬ ((a : Int) ≤ (l.length : Int)) := by omega
      have HY := Kp.mk (show y = ((Hst.mk k0 []).take l).x.mix (rd ((Hst.mk k0 []).take l).left ||| (BitVec.ofNat 64 l.length <<< 56)) by
        rcases hy.out.2 with ⟨h, _⟩ | ⟨_, h⟩
        · omega
        · exact h)
      clear hy
      obtain ⟨y0, y1, y2, y3⟩ := y
      simp only [Q4.cs] at hw
      go_wp2_with (first
        | (refine wl_load1 hw rfl 0 rfl (by decide +kernel) (by simp only [List.getElem?_toArray, List.getElem?_cons_succ, List.getElem?_cons_zero]; exact rfl) ?_)
        | (refine wl_uxor (by first | exact rfl | (simp only [Act.eval, Act.put, List.setIfInBounds_toArray, List.set_cons_succ, List.set_cons_zero, gd_s, gd_0]; exact U_lit _ (by decide))) (by first | exact rfl | (simp only [Act.eval, Act.put, List.setIfInBounds_toArray, List.set_cons_succ, List.set_cons_zero, gd_s, gd_0]; exact U_lit _ (by decide))) ?_)
        | (refine wl_store1 hw rfl 0 rfl _ (by simp only [Act.eval, Act.put, List.setIfInBounds_toArray, List.set_cons_succ, List.set_cons_zero, gd_s, gd_0, Value.cells]; exact rfl) (by decide +kernel) (by simp) (U_one _) ?_; clear hw; intro w hw; (try simp only [List.set_cons_succ, List.set_cons_zero, List.setIfInBounds_toArray, Value.cells, List.eraseIdx_cons_succ, List.eraseIdx_cons_zero] at hw)))
      go_loopw [10] (fun i wr => ∃ j : Nat, j ≤ 4 ∧ i = .int .i64 j ∧ Sat E wr (pt b (.cells (rounds j ⟨y0, y1, y2 ^^^ 255#64, y3⟩).cs 26 (0, 0)) :: pt kb (.cells (ybs k).toArray 23 (0, 0)) :: F)) (fun i _ => 4 - (intOf i).toNat)
      case atStart => exact ⟨0, by omega, rfl, hw⟩
      case round =>
        clear hw
        obtain ⟨j, hj, rfl, hw⟩ := hrel
        by_cases hlt : j < 4
        · have hlt' : (j : Int) < 4 := by omega
          go_wp2_with (first
            | (refine wl_load_all hw rfl 0 rfl q_agg ?_)
            | (go_at_call 16; refine (ref_round hw (rounds j ⟨y0, y1, y2 ^^^ 255#64, y3⟩)).mono ?_; clear hw; rintro e w ⟨rfl, hw⟩)
            | (refine wl_store_all (vs := (rounds (j + 1) ⟨y0, y1, y2 ^^^ 255#64, y3⟩).cs) hw rfl 0 rfl rfl (by rw [q_size]; rfl) rfl (Q4.one _) ?_; clear hw; intro w hw; (try simp only [List.set_cons_succ, List.set_cons_zero, List.setIfInBounds_toArray, Value.cells, List.eraseIdx_cons_succ, List.eraseIdx_cons_zero] at hw)))
          go_roundw
          case rel => exact ⟨j + 1, by omega, by go_num, hw⟩
          case measure => simp [intOf]; omega
        · obtain rfl : j = 4 := by omega
          have hfin := Kp.mk (show sumOf k l = (rounds 4 ⟨y0, y1, y2 ^^^ 255#64, y3⟩).a ^^^ (rounds 4 ⟨y0, y1, y2 ^^^ 255#64, y3⟩).b ^^^ (rounds 4 ⟨y0, y1, y2 ^^^ 255#64, y3⟩).c ^^^ (rounds 4 ⟨y0, y1, y2 ^^^ 255#64, y3⟩).d by
            rw [HK.out]
            show Q4.fin _ _ = _
            rw [fin_eq, ← HY.out])
          generalize rounds 4 ⟨y0, y1, y2 ^^^ 255#64, y3⟩ = z at hw hfin
          obtain ⟨z0, z1, z2, z3⟩ := z
          simp only [Q4.cs] at hw
          go_wp2_with (first
            | (refine wl_load1 hw rfl 0 rfl (by decide +kernel) (by simp only [List.getElem?_toArray, List.getElem?_cons_succ, List.getElem?_cons_zero]; exact rfl) ?_)
            | (refine wl_uxor (by first | exact rfl | (simp only [Act.eval, Act.put, List.setIfInBounds_toArray, List.set_cons_succ, List.set_cons_zero, gd_s, gd_0]; exact U_lit _ (by decide))) (by first | exact rfl | (simp only [Act.eval, Act.put, List.setIfInBounds_toArray, List.set_cons_succ, List.set_cons_zero, gd_s, gd_0]; exact U_lit _ (by decide))) ?_))
          go_ret
          exact ⟨by rw [hfin.out]; rfl, hw.tail.tail⟩
end
end Go.Proofs.Ytidkfjgelcpieaa
