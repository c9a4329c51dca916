/- The law MacIdeal: with ideal tags there is never a bad event, and only what was given a tag is taken, with that tag. Conditions: none. -/
import Derived.Test.YtidkfjgelcpieaaMacS
set_option linter.unusedVariables false
set_option linter.unusedSimpArgs false
namespace Go.Proofs.Ytidkfjgelcpieaa
open Go.RowKit Go.Bst Go.MapKept Go.Proofs.YtidkfjgelcpieaaW.PrintLast

structure Idl (s : Bk) (k : Nat) : Prop where
  key : s.key = none
  bs : s.bs = []
  len : s.ms.length ≤ k
  tags : ∀ x ∈ s.ms, x.tag.toNat ≤ s.ms.length
  msgs : ∀ x ∈ s.ms, x.msg.length ≤ 100
theorem Idl.new : Idl ⟨none, [], []⟩ 0 := ⟨rfl, rfl, Nat.le_refl _, by simp, by simp⟩
theorem Idl.verS {s : Bk} {k : Nat} (h : Idl s k) (m : List UInt8) (t : BitVec 64) : s.verS m t = s := by
  unfold Bk.verS
  by_cases hf : s.fits m t = true
  · rw [if_pos hf]
    have : (idx s.ms m).isSome = true := by
      unfold Bk.fits at hf
      rw [h.key] at hf
      cases hi : idx s.ms m with
      | none => rw [hi] at hf; cases hf
      | some i => rfl
    rw [if_pos this]
  · rw [if_neg hf]
theorem Idl.had {s : Bk} {k : Nat} (h : Idl s k) {m : List UInt8} {t : BitVec 64} (hi : (idx s.ms m).isSome = false) : s.fits m t = false := by
  unfold Bk.fits
  rw [h.key]
  cases hi' : idx s.ms m with
  | none => rfl
  | some i => rw [hi'] at hi; cases hi
theorem Idl.fresh {s : Bk} {k : Nat} (h : Idl s k) (hk : k ≤ 1000) (m : List UInt8) : (s.fresh m).toNat = s.ms.length + 1 := by
  unfold Bk.fresh
  rw [h.key]
  have := h.len
  simp only [BitVec.ofInt_natCast, BitVec.toNat_add, BitVec.toNat_ofNat]
  omega
theorem Idl.tagS {s : Bk} {k : Nat} (h : Idl s k) (hk : k ≤ 1000) {m : List UInt8} (hm : m.length ≤ 100) : Idl (s.tagS m) (k + 1) ∧ (s.tagS m).fits m (s.tagR m) = true ∧ (s.tagS m).fits m (s.tagR m + 1#64) = false := by
  have hne : ∀ t : BitVec 64, (t == t + 1#64) = false := fun t => by
    rw [beq_eq_false_iff_ne]
    intro e
    have := congrArg BitVec.toNat e
    rw [BitVec.toNat_add] at this
    have h1 : (1#64).toNat = 1 := rfl
    rw [h1] at this
    have := t.isLt
    omega
  cases hi : idx s.ms m with
  | some i =>
    have e1 : s.tagS m = s := by unfold Bk.tagS; rw [hi]
    have e2 : s.tagR m = tagAt s.ms i := by unfold Bk.tagR; rw [hi]
    rw [e1, e2]
    have ef : ∀ t, s.fits m t = (tagAt s.ms i == t) := fun t => by unfold Bk.fits; rw [h.key]; simp only [hi]
    refine ⟨⟨h.key, h.bs, Nat.le_succ_of_le h.len, h.tags, h.msgs⟩, by rw [ef]; simp, by rw [ef]; exact hne _⟩
  | none =>
    have e2 : s.tagR m = s.fresh m := by unfold Bk.tagR; rw [hi]
    have hfr := h.fresh hk m
    have hno : firstOf s.ms (s.fresh m) = none := by
      unfold firstOf
      rw [List.findIdx?_eq_none_iff]
      intro x hx
      have := h.tags x hx
      simp only [beq_eq_false_iff_ne]
      intro e
      rw [e, hfr] at this
      omega
    have e1 : s.tagS m = ⟨s.key, s.ms ++ [⟨m, s.fresh m⟩], s.bs⟩ := by
      unfold Bk.tagS Bk.twins
      simp only [hi, hno, List.append_nil]
    rw [e1, e2]
    have hidx : idx (s.ms ++ [⟨m, s.fresh m⟩]) m = some s.ms.length := by rw [idx_app, hi]; simp
    have htag : tagAt (s.ms ++ [⟨m, s.fresh m⟩]) s.ms.length = s.fresh m := by simp [tagAt]
    have ef : ∀ t, (Bk.mk s.key (s.ms ++ [⟨m, s.fresh m⟩]) s.bs).fits m t = (s.fresh m == t) := fun t => by
      unfold Bk.fits; rw [h.key]; simp only [hidx, htag]
    have hlen := h.len
    refine ⟨⟨h.key, h.bs, by simp; omega, fun x hx => ?_, fun x hx => ?_⟩, by rw [ef]; simp, by rw [ef]; exact hne _⟩
    · rcases List.mem_append.1 hx with hx | hx
      · have := h.tags x hx; simp; omega
      · simp only [List.mem_singleton] at hx
        subst hx; rw [hfr]; simp
    · rcases List.mem_append.1 hx with hx | hx
      · exact h.msgs x hx
      · simp only [List.mem_singleton] at hx
        subst hx; exact hm
attribute [local irreducible] wpList Calls Code.wp Code.wpN Oper.wp Go.Proofs.YtidkfjgelcpieaaW.PrintLast.wpAnyLast
theorem great_bounds {cs : List Cl} (h : greatB cs = false) : cs.length ≤ 60 ∧ ∀ c ∈ cs, c.msg.length ≤ 100 := by
  unfold greatB at h
  simp only [Bool.or_eq_false_iff, decide_eq_false_iff_not, List.any_eq_false, decide_eq_true_eq] at h
  exact ⟨by omega, fun c hc => by have := h.2 c hc; omega⟩
set_option maxRecDepth 100000 in
set_option maxHeartbeats 4000000 in
theorem mac_ideal {W : World} {v : Value} {cs : List Cl} (hc4 : Calls4 W v cs) :
    Calls Try.prog 8 #[v] W fun e w' => e = .returned (.bool true) ∧ Sat (World.env W) w' [Old W] := by
  have hw : Sat (World.env W) W [Old W] := Sat.init W
  obtain ⟨A, cap, rfl, hcap⟩ := hc4.1.form
  have H4 := Kp.mk hc4
  clear hc4
  cases hg : greatB cs with
  | true =>
    have HG := Kp.mk hg
    clear hg
    go_enter Try.func8, Try.ntmps8
    go_wp2_with (first
      | (go_at_call 20; refine (mac_speaks hw).mono ?_; clear hw; rintro e w ⟨rfl, hw⟩)
      | (go_at_call 22; refine (law_great hw (fun w' hs => H4.out.sub (hs.subOld 0 rfl))).mono ?_; clear hw; rintro e w ⟨rfl, hw⟩; rw [HG.out]))
    go_ret
    exact ⟨rfl, hw⟩
  | false =>
    obtain ⟨hl, hms⟩ := great_bounds hg
    have HMS := Kp.mk hms
    have HG := Kp.mk hg
    clear hg hms
    go_enter Try.func8, Try.ntmps8
    go_wp2_with (first
      | (go_at_call 20; refine (mac_speaks hw).mono ?_; clear hw; rintro e w ⟨rfl, hw⟩)
      | (go_at_call 22; refine (law_great hw (fun w' hs => H4.out.sub (hs.subOld 0 rfl))).mono ?_; clear hw; rintro e w ⟨rfl, hw⟩; rw [HG.out])
      | (refine wl_build (t := 23) (ybs key0V).toArray rfl key0V_build ?_)
      | (go_at_call 21; refine (mac_new_ideal (k := key0V) hw).mono ?_; clear hw; rintro e w ⟨b, rfl, hw⟩))
    go_loopw [26] (fun i wr => ∃ (k : Nat) (s : Bk), k ≤ cs.length ∧ i = .int .i64 k ∧ Kp (Idl s k) ∧ Sat (World.env W) wr [Book b s, Old W]) (fun i _ => cs.length - (intOf i).toNat)
    case atStart => exact ⟨0, _, by omega, rfl, Kp.mk Idl.new, hw⟩
    case round =>
      clear hw
      obtain ⟨k, s, hk, rfl, hid, hw⟩ := hrel
      by_cases hlt : k < cs.length
      · obtain ⟨c, hc⟩ : ∃ c, cs[k]? = some c := ⟨_, List.getElem?_eq_getElem hlt⟩
        obtain ⟨ad, cap', hv, _, hca, _, A', n', hv'⟩ := (H4.out.sub (hw.subOld 1 rfl)).at hc
        have hrc := H4.out.2 c (List.mem_of_getElem? hc)
        have hml := HMS.out c (List.mem_of_getElem? hc)
        injection hv with e1 _ e2
        subst e1; subst e2
        obtain ⟨ver, own, cv, msg, tag⟩ := c
        simp only at hv' hrc hml
        subst hv'
        have ca := Kp.mk hca
        have hlt' : (k : Int) < (cs.length : Int) := by omega
        have hsl : s.ms.length ≤ 100000 := by have := hid.out.len; omega
        have hsb : s.bs.length ≤ 100000 := by rw [hid.out.bs]; simp
        have hsm : ∀ x ∈ s.ms, x.msg.length ≤ 1000000 := fun x hx => by have := hid.out.msgs x hx; omega
        have HSM := Kp.mk hsm
        clear hca hc hsm
        cases ver with
        | false =>
          obtain ⟨hid2, hf1, hf2⟩ := hid.out.tagS (by omega) hml
          have hid2 := Kp.mk hid2
          have hf1 := Kp.mk hf1
          have hf2 := Kp.mk hf2
          have hv1 := Kp.mk (hid2.out.verS msg (s.tagR msg))
          have hv2 := Kp.mk (hid2.out.verS msg (s.tagR msg + BitVec.ofNat 64 1))
          have hb2 : (s.tagS msg).bs.length ≤ 100000 := by rw [hid2.out.bs]; simp
          go_wp2_with (first
            | (refine wl_index (k : Int) (H4.out.sub (hw.subOld 1 rfl)).1 rfl rfl u_calls call_size (by omega) (by omega) ?_; intro ad' hA _; injection hA with hA; subst hA)
            | (refine wl_ldA (m := ccell ⟨false, own, .slice A' msg.length n', msg, tag⟩) rfl call_agg (by rw [Int.toNat_natCast]; exact ca.out) ?_)
            | (refine wl_alloc hw call_zero ?_; clear hw; intro b4 w hw; (try simp only [List.set_cons_succ, List.set_cons_zero, List.setIfInBounds_toArray, Value.cells, List.eraseIdx_cons_succ, List.eraseIdx_cons_zero] at hw))
            | (refine wl_store_all (vs := ccell ⟨false, own, .slice A' msg.length n', msg, tag⟩) hw rfl 0 rfl rfl (by rw [call_size]; rfl) rfl (by simp [ccell, U_one]; exact ⟨rfl, rfl, rfl⟩) ?_; clear hw; intro w hw; (try simp only [List.set_cons_succ, List.set_cons_zero, List.setIfInBounds_toArray, Value.cells, List.eraseIdx_cons_succ, List.eraseIdx_cons_zero] at hw); simp only [ccell] at hw)
            | (refine wl_load1 hw rfl 0 rfl (by decide +kernel) (by simp only [List.getElem?_toArray, List.getElem?_cons_succ, List.getElem?_cons_zero]; exact rfl) ?_) | (refine wl_load1 hw rfl 1 rfl (by decide +kernel) (by simp only [List.getElem?_toArray, List.getElem?_cons_succ, List.getElem?_cons_zero]; exact rfl) ?_) | (refine wl_want (by rfl) (fun K hK => ?_); refine wk_load1 hw rfl 1 rfl (by decide +kernel) (by simp only [List.getElem?_toArray, List.getElem?_cons_succ, List.getElem?_cons_zero]; exact rfl) ?_; refine hK _ _ ?_; clear hK K)
            | (go_at_call 24; go_must (refine (mac_tag (hw.front 1 rfl) (fun w' hs => hrc.sub (hs.subOld 1 rfl)) (by omega) hsl hsb HSM.out).mono ?_); clear hw; rintro e w ⟨rfl, hw⟩; (try simp only [List.set_cons_succ, List.set_cons_zero, List.setIfInBounds_toArray, Value.cells, List.eraseIdx_cons_succ, List.eraseIdx_cons_zero] at hw))
            | (refine wl_want (by rfl) (fun K hK => ?_); refine wk_run (rn_uadd rfl (by exact rfl) (by exact U_lit 1 (by decide))) ?_; refine hK _ _ ?_; clear hK K)
            | (go_at_call 23; first
               | (with_reducible refine (mac_verify (t := s.tagR msg) hw (fun w' hs => hrc.sub (hs.subOld 1 rfl)) (by omega) hb2).mono ?_; clear hw; rw [hf1.out, hv1.out]; rintro e w ⟨rfl, hw⟩)
               | (with_reducible refine (mac_verify (t := s.tagR msg + BitVec.ofNat 64 1) hw (fun w' hs => hrc.sub (hs.subOld 1 rfl)) (by omega) hb2).mono ?_; clear hw; rw [hf2.out, hv2.out]; rintro e w ⟨rfl, hw⟩)))
          go_roundw
          case rel => exact ⟨k + 1, _, by omega, by go_num, hid2, hw.del 1 rfl⟩
          case measure => simp [intOf]; omega
        | true =>
          have hv1 := Kp.mk (hid.out.verS msg tag)
          have hid2 : Kp (Idl s (k + 1)) := Kp.mk ⟨hid.out.key, hid.out.bs, Nat.le_succ_of_le hid.out.len, hid.out.tags, hid.out.msgs⟩
          cases hi : (idx s.ms msg).isSome with
          | true =>
            have HI := Kp.mk hi
            clear hi
            go_wp2_with (first
              | (refine wl_index (k : Int) (H4.out.sub (hw.subOld 1 rfl)).1 rfl rfl u_calls call_size (by omega) (by omega) ?_; intro ad' hA _; injection hA with hA; subst hA)
              | (refine wl_ldA (m := ccell ⟨true, own, .slice A' msg.length n', msg, tag⟩) rfl call_agg (by rw [Int.toNat_natCast]; exact ca.out) ?_)
              | (refine wl_alloc hw call_zero ?_; clear hw; intro b4 w hw; (try simp only [List.set_cons_succ, List.set_cons_zero, List.setIfInBounds_toArray, Value.cells, List.eraseIdx_cons_succ, List.eraseIdx_cons_zero] at hw))
              | (refine wl_store_all (vs := ccell ⟨true, own, .slice A' msg.length n', msg, tag⟩) hw rfl 0 rfl rfl (by rw [call_size]; rfl) rfl (by simp [ccell, U_one]; exact ⟨rfl, rfl, rfl⟩) ?_; clear hw; intro w hw; (try simp only [List.set_cons_succ, List.set_cons_zero, List.setIfInBounds_toArray, Value.cells, List.eraseIdx_cons_succ, List.eraseIdx_cons_zero] at hw); simp only [ccell] at hw)
              | (refine wl_load1 hw rfl 0 rfl (by decide +kernel) (by simp only [List.getElem?_toArray, List.getElem?_cons_succ, List.getElem?_cons_zero]; exact rfl) ?_) | (refine wl_load1 hw rfl 1 rfl (by decide +kernel) (by simp only [List.getElem?_toArray, List.getElem?_cons_succ, List.getElem?_cons_zero]; exact rfl) ?_)
              | (go_at_call 26; go_must (refine (mac_has (hw.front 1 rfl) (fun w' hs => hrc.sub (hs.subOld 1 rfl))).mono ?_); clear hw; rintro e w ⟨rfl, hw⟩; rw [HI.out]; (try simp only [List.set_cons_succ, List.set_cons_zero, List.setIfInBounds_toArray, Value.cells, List.eraseIdx_cons_succ, List.eraseIdx_cons_zero] at hw))
              | (go_at_call 23; go_must (refine (mac_verify hw (fun w' hs => hrc.sub (hs.subOld 1 rfl)) (by omega) hsb).mono ?_); clear hw; rw [hv1.out]; rintro e w ⟨rfl, hw⟩; generalize s.fits msg tag = bb; cases bb))
            all_goals
              go_roundw
              case rel => exact ⟨k + 1, _, by omega, by go_num, hid2, hw.del 1 rfl⟩
              case measure => simp [intOf]; omega
          | false =>
            have hf := Kp.mk (hid.out.had (t := tag) hi)
            have HI := Kp.mk hi
            clear hi
            go_wp2_with (first
              | (refine wl_index (k : Int) (H4.out.sub (hw.subOld 1 rfl)).1 rfl rfl u_calls call_size (by omega) (by omega) ?_; intro ad' hA _; injection hA with hA; subst hA)
              | (refine wl_ldA (m := ccell ⟨true, own, .slice A' msg.length n', msg, tag⟩) rfl call_agg (by rw [Int.toNat_natCast]; exact ca.out) ?_)
              | (refine wl_alloc hw call_zero ?_; clear hw; intro b4 w hw; (try simp only [List.set_cons_succ, List.set_cons_zero, List.setIfInBounds_toArray, Value.cells, List.eraseIdx_cons_succ, List.eraseIdx_cons_zero] at hw))
              | (refine wl_store_all (vs := ccell ⟨true, own, .slice A' msg.length n', msg, tag⟩) hw rfl 0 rfl rfl (by rw [call_size]; rfl) rfl (by simp [ccell, U_one]; exact ⟨rfl, rfl, rfl⟩) ?_; clear hw; intro w hw; (try simp only [List.set_cons_succ, List.set_cons_zero, List.setIfInBounds_toArray, Value.cells, List.eraseIdx_cons_succ, List.eraseIdx_cons_zero] at hw); simp only [ccell] at hw)
              | (refine wl_load1 hw rfl 0 rfl (by decide +kernel) (by simp only [List.getElem?_toArray, List.getElem?_cons_succ, List.getElem?_cons_zero]; exact rfl) ?_) | (refine wl_load1 hw rfl 1 rfl (by decide +kernel) (by simp only [List.getElem?_toArray, List.getElem?_cons_succ, List.getElem?_cons_zero]; exact rfl) ?_)
              | (go_at_call 26; go_must (refine (mac_has (hw.front 1 rfl) (fun w' hs => hrc.sub (hs.subOld 1 rfl))).mono ?_); clear hw; rintro e w ⟨rfl, hw⟩; rw [HI.out]; (try simp only [List.set_cons_succ, List.set_cons_zero, List.setIfInBounds_toArray, Value.cells, List.eraseIdx_cons_succ, List.eraseIdx_cons_zero] at hw))
              | (go_at_call 23; go_must (refine (mac_verify hw (fun w' hs => hrc.sub (hs.subOld 1 rfl)) (by omega) hsb).mono ?_); clear hw; rw [hv1.out, hf.out]; rintro e w ⟨rfl, hw⟩))
            go_roundw
            case rel => exact ⟨k + 1, _, by omega, by go_num, hid2, hw.del 1 rfl⟩
            case measure => simp [intOf]; omega
      · have hkl : k = cs.length := by omega
        subst hkl
        have hsb : s.bs = [] := hid.out.bs
        have HB := Kp.mk hsb
        clear hsb
        go_wp2_with (first
          | (go_at_call 27; go_must (refine (mac_bad hw (by rw [HB.out]; simp) (by rw [HB.out]; simp)).mono ?_); clear hw; rintro e w ⟨v, bl, h, rfl, hbl, _, hw⟩; rw [HB.out, List.map_eq_nil_iff] at hbl; subst hbl; obtain ⟨A5, c5, rfl, _, _⟩ := Row_val hw 0 rfl))
        go_ret
        exact ⟨rfl, hw.tail.tail.tail⟩
end Go.Proofs.Ytidkfjgelcpieaa
