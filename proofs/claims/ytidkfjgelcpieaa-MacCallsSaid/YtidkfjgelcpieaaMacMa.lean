/- The law MacMarks: each message has one mark, and its tag stays; with ideal tags they are numbered from 1 on. Conditions: none. -/
import Derived.Test.YtidkfjgelcpieaaMacId
import Derived.Test.YtidkfjgelcpieaaMacP
set_option linter.unusedVariables false
set_option linter.unusedSimpArgs false
namespace Go.Proofs.Ytidkfjgelcpieaa
open Go.RowKit Go.Bst Go.MapKept Go.Proofs.YtidkfjgelcpieaaW.PrintLast
attribute [local irreducible] wpList Calls Code.wp Code.wpN Oper.wp Go.Proofs.YtidkfjgelcpieaaW.PrintLast.wpAnyLast

def keyOf (c : Int) (k : List UInt8) : Option (List UInt8) := if c = 0 then none else some k
theorem u_msu : Try.prog.underlying 45 = some (.map 9 25) := by kernel_rfl
theorem z_u64 : zeroOf Try.prog 25 = some (U 0#64) := by
  have h : zeroOf Try.prog 25 = some (.int .u64 0) := by kernel_rfl
  rw [h, show Value.int .u64 0 = U 0#64 from U_lit 0 (by decide)]
section
variable {E : Env} {w : World} {F : List HP}
theorem mac_new01 {k : List UInt8} {c : Int} (hw : Sat E w F) (hk : k.length = 16) (hc : c = 0 ∨ c = 1) :
    Calls Try.prog 21 #[.int .i64 c, .agg (ybs k).toArray] w fun e w' => ∃ b, e = .returned (.tuple #[.pointer (some ⟨b, 0, none⟩), .int .i64 0]) ∧ Sat E w' (Book b ⟨keyOf c k, [], []⟩ :: F) := by
  rcases hc with rfl | rfl
  · exact mac_new_ideal hw
  · exact mac_new_keyed hw hk
end
set_option maxRecDepth 100000 in
set_option maxHeartbeats 4000000 in
theorem mac_one {W : World} {v : Value} {cs : List Cl} {kind c : Int} {key : List UInt8} (hc4 : Calls4 W v cs) (hk : key.length = 16) (hc : c = 0 ∨ c = 1) (hm : kind % 2 ^ 1 = c) :
    Calls Try.prog 7 #[.int .i64 kind, .agg (ybs key).toArray, v] W fun e w' => e = .returned (.bool true) ∧ Sat (World.env W) w' [Old W] := by
  have hw : Sat (World.env W) W [Old W] := Sat.init W
  have hkb : (ybs key).toArray.size = 16 := by simp [ybs, hk]
  obtain ⟨A, cap, rfl, hcap⟩ := hc4.1.form
  have H4 := Kp.mk hc4
  have HM := Kp.mk hm
  have HC := Kp.mk hc
  clear hc4 hm hc
  cases hg : greatB cs with
  | true =>
    have HG := Kp.mk hg
    clear hg
    go_enter Try.func7, Try.ntmps7
    go_wp2_with (first
      | (refine wl_box hw _ (by simp only [Act.eval, Act.put, List.setIfInBounds_toArray, List.set_cons_succ, List.set_cons_zero, gd_s, gd_0, Value.cells]; exact rfl) ?_; clear hw; intro bx w hw; (try simp only [List.set_cons_succ, List.set_cons_zero, List.setIfInBounds_toArray, Value.cells, List.eraseIdx_cons_succ, List.eraseIdx_cons_zero] at hw))
      | (go_at_call 20; refine (mac_speaks hw).mono ?_; clear hw; rintro e w ⟨rfl, hw⟩)
      | (refine wl_imask 1 (by omega) rfl rfl ?_; intro r hr0 h0 h1; obtain rfl : r = c := hr0.out.trans HM.out; clear h0 h1)
      | (refine wl_load_all hw rfl 0 rfl (by rw [key_agg, hkb]) ?_)
      | (go_at_call 21; refine (mac_new01 (k := key) hw hk HC.out).mono ?_; clear hw; rintro e w ⟨b, rfl, hw⟩)
      | (go_at_call 22; refine (law_great hw (fun w' hs => H4.out.sub (hs.subOld 2 rfl))).mono ?_; clear hw; rintro e w ⟨rfl, hw⟩; rw [HG.out]))
    go_ret
    exact ⟨rfl, hw.tail.tail⟩
  | false =>
    obtain ⟨hl, hms⟩ := great_bounds hg
    have HMS := Kp.mk hms
    have HG := Kp.mk hg
    clear hg hms
    go_enter Try.func7, Try.ntmps7
    go_wp2_with (first
      | (refine wl_box hw _ (by simp only [Act.eval, Act.put, List.setIfInBounds_toArray, List.set_cons_succ, List.set_cons_zero, gd_s, gd_0, Value.cells]; exact rfl) ?_; clear hw; intro bx w hw; (try simp only [List.set_cons_succ, List.set_cons_zero, List.setIfInBounds_toArray, Value.cells, List.eraseIdx_cons_succ, List.eraseIdx_cons_zero] at hw))
      | (go_at_call 20; refine (mac_speaks hw).mono ?_; clear hw; rintro e w ⟨rfl, hw⟩)
      | (refine wl_imask 1 (by omega) rfl rfl ?_; intro r hr0 h0 h1; obtain rfl : r = c := hr0.out.trans HM.out; clear h0 h1)
      | (refine wl_load_all hw rfl 0 rfl (by rw [key_agg, hkb]) ?_)
      | (go_at_call 21; refine (mac_new01 (k := key) hw hk HC.out).mono ?_; clear hw; rintro e w ⟨b, rfl, hw⟩)
      | (go_at_call 22; refine (law_great hw (fun w' hs => H4.out.sub (hs.subOld 2 rfl))).mono ?_; clear hw; rintro e w ⟨rfl, hw⟩; rw [HG.out])
      | (refine wl_makeMap (ty := 45) hw (IsKey .string) ?_; clear hw; intro f w hw; replace hw := Mf_congr hw fTags_nil))
    go_loopw [40] (fun i wr => ∃ (k : Nat) (s : Bk), k ≤ cs.length ∧ i = .int .i64 k ∧ Kp (Mi s k ∧ s.key = keyOf r key) ∧ Sat (World.env W) wr [Mf f (IsKey .string) (fTags s.ms), Book b s, pt bx (.cells (ybs key).toArray 23 (0, 0)), Old W]) (fun i _ => cs.length - (intOf i).toNat)
    case atStart => exact ⟨0, _, by omega, rfl, Kp.mk ⟨Mi.new _, rfl⟩, hw⟩
    case round =>
      clear hw
      obtain ⟨k, s, hk', rfl, hid, hw⟩ := hrel
      by_cases hlt : k < cs.length
      · obtain ⟨c, hc⟩ : ∃ c, cs[k]? = some c := ⟨_, List.getElem?_eq_getElem hlt⟩
        obtain ⟨ad, cap', hv, _, hca, _, A', n', hv'⟩ := (H4.out.sub (hw.subOld 3 rfl)).at hc
        have hrc := H4.out.2 c (List.mem_of_getElem? hc)
        have hml := HMS.out c (List.mem_of_getElem? hc)
        injection hv with e1 _ e2
        subst e1; subst e2
        obtain ⟨ver, own, cv, msg, tag⟩ := c
        simp only at hv' hrc hml
        subst hv'
        have ca := Kp.mk hca
        have hlt' : (k : Int) < (cs.length : Int) := by omega
        have hsl : s.ms.length ≤ 100000 := by have := hid.out.1.len; omega
        have hsb : s.bs.length ≤ 100000 := by have := hid.out.1.blen; omega
        have hsm : ∀ x ∈ s.ms, x.msg.length ≤ 1000000 := fun x hx => by have := hid.out.1.msgs x hx; omega
        have HSM := Kp.mk hsm
        clear hca hc hsm
        cases ver with
        | true =>
          have hv1 := Kp.mk (hid.out.1.verS msg tag)
          go_wp2_with (first
            | (refine wl_index (k : Int) (H4.out.sub (hw.subOld 3 rfl)).1 rfl rfl u_calls call_size (by omega) (by omega) ?_; intro ad' hA _; injection hA with hA; subst hA)
            | (refine wl_ldA (m := ccell ⟨true, own, .slice A' msg.length n', msg, tag⟩) rfl call_agg (by rw [Int.toNat_natCast]; exact ca.out) ?_)
            | (refine wl_alloc hw call_zero ?_; clear hw; intro b4 w hw; (try simp only [List.set_cons_succ, List.set_cons_zero, List.setIfInBounds_toArray, Value.cells, List.eraseIdx_cons_succ, List.eraseIdx_cons_zero] at hw))
            | (refine wl_store_all (vs := ccell ⟨true, own, .slice A' msg.length n', msg, tag⟩) hw rfl 0 rfl rfl (by rw [call_size]; rfl) rfl (by simp [ccell, U_one]; exact ⟨rfl, rfl, rfl⟩) ?_; clear hw; intro w hw; (try simp only [List.set_cons_succ, List.set_cons_zero, List.setIfInBounds_toArray, Value.cells, List.eraseIdx_cons_succ, List.eraseIdx_cons_zero] at hw); simp only [ccell] at hw)
            | (refine wl_load1 hw rfl 0 rfl (by decide +kernel) (by simp only [List.getElem?_toArray, List.getElem?_cons_succ, List.getElem?_cons_zero]; exact rfl) ?_)
            | (go_at_call 23; go_must (refine (mac_verify (hw.front 2 rfl) (fun w' hs => hrc.sub (hs.subOld 3 rfl)) (by omega) hsb).mono ?_); clear hw; rintro e w ⟨rfl, hw⟩; (try simp only [List.set_cons_succ, List.set_cons_zero, List.setIfInBounds_toArray, Value.cells, List.eraseIdx_cons_succ, List.eraseIdx_cons_zero] at hw)))
          go_roundw
          case rel => exact ⟨k + 1, _, by omega, by go_num, Kp.mk ⟨hv1.out.1, hv1.out.2.2.trans hid.out.2⟩, by rw [hv1.out.2.1]; exact (Sat.gets hw (by repeat (first | exact Gets.nil | exact Gets.refl _ | refine Gets.get 0 rfl ?_ | refine Gets.get 1 rfl ?_ | refine Gets.get 2 rfl ?_ | refine Gets.get 3 rfl ?_ | refine Gets.get 4 rfl ?_ | refine Gets.get 5 rfl ?_ | refine Gets.get 6 rfl ?_ | refine Gets.get 7 rfl ?_ | refine Gets.get 8 rfl ?_ | refine Gets.get 9 rfl ?_ | refine Gets.drop ?_)))⟩
          case measure => simp [intOf]; omega
        | false =>
          have hid2 := Kp.mk (hid.out.1.tagS hml)
          have HP := Kp.mk (fTags_tag s msg)
          cases hi : idx s.ms msg with
          | none =>
            have h2 := Kp.mk (show (fTags s.ms (.string (strOf msg))).isSome = false by rw [fTags_str, hi]; rfl)
            clear hi
            go_wp2_with (first
              | (refine wl_index (k : Int) (H4.out.sub (hw.subOld 3 rfl)).1 rfl rfl u_calls call_size (by omega) (by omega) ?_; intro ad' hA _; injection hA with hA; subst hA)
              | (refine wl_ldA (m := ccell ⟨false, own, .slice A' msg.length n', msg, tag⟩) rfl call_agg (by rw [Int.toNat_natCast]; exact ca.out) ?_)
              | (refine wl_alloc hw call_zero ?_; clear hw; intro b4 w hw; (try simp only [List.set_cons_succ, List.set_cons_zero, List.setIfInBounds_toArray, Value.cells, List.eraseIdx_cons_succ, List.eraseIdx_cons_zero] at hw))
              | (refine wl_store_all (vs := ccell ⟨false, own, .slice A' msg.length n', msg, tag⟩) hw rfl 0 rfl rfl (by rw [call_size]; rfl) rfl (by simp [ccell, U_one]; exact ⟨rfl, rfl, rfl⟩) ?_; clear hw; intro w hw; (try simp only [List.set_cons_succ, List.set_cons_zero, List.setIfInBounds_toArray, Value.cells, List.eraseIdx_cons_succ, List.eraseIdx_cons_zero] at hw); simp only [ccell] at hw)
              | (refine wl_load1 hw rfl 0 rfl (by decide +kernel) (by simp only [List.getElem?_toArray, List.getElem?_cons_succ, List.getElem?_cons_zero]; exact rfl) ?_) | (refine wl_load1 hw rfl 1 rfl (by decide +kernel) (by simp only [List.getElem?_toArray, List.getElem?_cons_succ, List.getElem?_cons_zero]; exact rfl) ?_)
              | (go_at_call 24; go_must (refine (mac_tag (hw.front 2 rfl) (fun w' hs => hrc.sub (hs.subOld 3 rfl)) (by omega) hsl hsb HSM.out).mono ?_); clear hw; rintro e w ⟨rfl, hw⟩; (try simp only [List.set_cons_succ, List.set_cons_zero, List.setIfInBounds_toArray, Value.cells, List.eraseIdx_cons_succ, List.eraseIdx_cons_zero] at hw))
              | (refine wl_run (rn_tostr rfl rfl (hrc.sub (hw.subOld 4 rfl)) u_bytes u_u8 u_str) ?_)
              | (refine wl_lookup2 (key := .string (strOf msg)) hw rfl 2 rfl KS u_msu z_u64 rfl (key_str msg) _ _ rfl h2.out ?_)
              | (refine wl_mapUpdate (key := .string (strOf msg)) hw rfl 2 rfl KS u_msu rfl (key_str msg) (U (s.tagR msg)) rfl ?_; clear hw; intro w hw; (try simp only [List.set_cons_succ, List.set_cons_zero, List.setIfInBounds_toArray, Value.cells, List.eraseIdx_cons_succ, List.eraseIdx_cons_zero] at hw); replace hw := Mf_congr (hw.front 2 rfl) HP.out; (try simp only [List.set_cons_succ, List.set_cons_zero, List.setIfInBounds_toArray, Value.cells, List.eraseIdx_cons_succ, List.eraseIdx_cons_zero] at hw)))
            go_roundw
            case rel => exact ⟨k + 1, _, by omega, by go_num, Kp.mk ⟨hid2.out, (tagS_key s msg).trans hid.out.2⟩, (Sat.gets hw (by repeat (first | exact Gets.nil | exact Gets.refl _ | refine Gets.get 0 rfl ?_ | refine Gets.get 1 rfl ?_ | refine Gets.get 2 rfl ?_ | refine Gets.get 3 rfl ?_ | refine Gets.get 4 rfl ?_ | refine Gets.get 5 rfl ?_ | refine Gets.get 6 rfl ?_ | refine Gets.get 7 rfl ?_ | refine Gets.get 8 rfl ?_ | refine Gets.get 9 rfl ?_ | refine Gets.drop ?_)))⟩
            case measure => simp [intOf]; omega
          | some i =>
            have h2 := Kp.mk (show (fTags s.ms (.string (strOf msg))).isSome = true by rw [fTags_str, hi]; rfl)
            have h3 := Kp.mk (show (fTags s.ms (.string (strOf msg))).getD (U 0#64) = U (s.tagR msg) by rw [fTags_str, hi, tag_old hi]; rfl)
            have h4 := Kp.mk (show (s.tagR msg != s.tagR msg) = false by simp)
            clear hi
            go_wp2_with (first
              | (refine wl_index (k : Int) (H4.out.sub (hw.subOld 3 rfl)).1 rfl rfl u_calls call_size (by omega) (by omega) ?_; intro ad' hA _; injection hA with hA; subst hA)
              | (refine wl_ldA (m := ccell ⟨false, own, .slice A' msg.length n', msg, tag⟩) rfl call_agg (by rw [Int.toNat_natCast]; exact ca.out) ?_)
              | (refine wl_alloc hw call_zero ?_; clear hw; intro b4 w hw; (try simp only [List.set_cons_succ, List.set_cons_zero, List.setIfInBounds_toArray, Value.cells, List.eraseIdx_cons_succ, List.eraseIdx_cons_zero] at hw))
              | (refine wl_store_all (vs := ccell ⟨false, own, .slice A' msg.length n', msg, tag⟩) hw rfl 0 rfl rfl (by rw [call_size]; rfl) rfl (by simp [ccell, U_one]; exact ⟨rfl, rfl, rfl⟩) ?_; clear hw; intro w hw; (try simp only [List.set_cons_succ, List.set_cons_zero, List.setIfInBounds_toArray, Value.cells, List.eraseIdx_cons_succ, List.eraseIdx_cons_zero] at hw); simp only [ccell] at hw)
              | (refine wl_load1 hw rfl 0 rfl (by decide +kernel) (by simp only [List.getElem?_toArray, List.getElem?_cons_succ, List.getElem?_cons_zero]; exact rfl) ?_) | (refine wl_load1 hw rfl 1 rfl (by decide +kernel) (by simp only [List.getElem?_toArray, List.getElem?_cons_succ, List.getElem?_cons_zero]; exact rfl) ?_)
              | (go_at_call 24; go_must (refine (mac_tag (hw.front 2 rfl) (fun w' hs => hrc.sub (hs.subOld 3 rfl)) (by omega) hsl hsb HSM.out).mono ?_); clear hw; rintro e w ⟨rfl, hw⟩; (try simp only [List.set_cons_succ, List.set_cons_zero, List.setIfInBounds_toArray, Value.cells, List.eraseIdx_cons_succ, List.eraseIdx_cons_zero] at hw))
              | (refine wl_run (rn_tostr rfl rfl (hrc.sub (hw.subOld 4 rfl)) u_bytes u_u8 u_str) ?_)
              | (refine wl_lookup2 (key := .string (strOf msg)) hw rfl 2 rfl KS u_msu z_u64 rfl (key_str msg) _ _ h3.out h2.out ?_)
              | (refine wl_want (by rfl) (fun K hK => ?_); refine wk_run (rn_uneq (p := s.tagR msg) (q := s.tagR msg) rfl (by exact rfl) (by exact rfl) false h4.out) ?_; refine hK _ _ ?_; clear hK K)
              | (refine wl_mapUpdate (key := .string (strOf msg)) hw rfl 2 rfl KS u_msu rfl (key_str msg) (U (s.tagR msg)) rfl ?_; clear hw; intro w hw; (try simp only [List.set_cons_succ, List.set_cons_zero, List.setIfInBounds_toArray, Value.cells, List.eraseIdx_cons_succ, List.eraseIdx_cons_zero] at hw); replace hw := Mf_congr (hw.front 2 rfl) HP.out; (try simp only [List.set_cons_succ, List.set_cons_zero, List.setIfInBounds_toArray, Value.cells, List.eraseIdx_cons_succ, List.eraseIdx_cons_zero] at hw)))
            go_roundw
            case rel => exact ⟨k + 1, _, by omega, by go_num, Kp.mk ⟨hid2.out, (tagS_key s msg).trans hid.out.2⟩, (Sat.gets hw (by repeat (first | exact Gets.nil | exact Gets.refl _ | refine Gets.get 0 rfl ?_ | refine Gets.get 1 rfl ?_ | refine Gets.get 2 rfl ?_ | refine Gets.get 3 rfl ?_ | refine Gets.get 4 rfl ?_ | refine Gets.get 5 rfl ?_ | refine Gets.get 6 rfl ?_ | refine Gets.get 7 rfl ?_ | refine Gets.get 8 rfl ?_ | refine Gets.get 9 rfl ?_ | refine Gets.drop ?_)))⟩
            case measure => simp [intOf]; omega
      · have hkl : k = cs.length := by omega
        subst hkl
        have hsl : s.ms.length ≤ 100000 := by have := hid.out.1.len; omega
        have hsb : s.bs.length ≤ 100000 := by have := hid.out.1.blen; omega
        have HSM := Kp.mk (show ∀ x ∈ s.ms, x.msg.length ≤ 1000000 from fun x hx => by have := hid.out.1.msgs x hx; omega)
        go_wp2_with (first
          | (go_at_call 25; go_must (refine (mac_marks (hw.front 1 rfl) hsl HSM.out).mono ?_); clear hw; rintro e w ⟨v, ml, h, rfl, hmm, hmo, hw⟩; (try simp only [List.set_cons_succ, List.set_cons_zero, List.setIfInBounds_toArray, Value.cells, List.eraseIdx_cons_succ, List.eraseIdx_cons_zero] at hw); obtain ⟨A5, c5, rfl, _, hg5⟩ := Row_val hw 0 rfl))
        have HMM := Kp.mk hmm
        have HMO := Kp.mk hmo
        have hln : ml.length ≤ 100000 := by rw [← hmm, List.length_map] at hsl; exact hsl
        clear hmm hmo
        go_loopw [80] (fun i wr => ∃ (k : Nat), k ≤ ml.length ∧ i = .int .i64 k ∧ Sat (World.env W) wr [Row 54 2 (.slice A5 ml.length c5) ml.length (flat (ml.map mcell)), Arc h, Book b s, Mf f (IsKey .string) (fTags s.ms), pt bx (.cells (ybs key).toArray 23 (0, 0)), Old W]) (fun i _ => ml.length - (intOf i).toNat)
        case atStart => exact ⟨0, by omega, rfl, hw⟩
        case round =>
          clear hw
          obtain ⟨k, hk2, rfl, hw⟩ := hrel
          by_cases hlt2 : k < ml.length
          · obtain ⟨⟨vx, x⟩, hx⟩ : ∃ p, ml[k]? = some p := ⟨_, List.getElem?_eq_getElem hlt2⟩
            obtain ⟨g1, rfl⟩ := hg5 (by omega)
            have hxr : RdP h 1 vx x.msg.length (ybs x.msg) := HMO.out (vx, x) (List.mem_of_getElem? hx)
            have hxs : s.ms[k]? = some x := by rw [← HMM.out, List.getElem?_map, hx]; rfl
            have hxl := hid.out.1.msgs x (List.mem_of_getElem? hxs)
            have hxl' : x.msg.length ≤ 1000000 := by omega
            obtain ⟨o1, o2⟩ := hid.out.1.own k x hxs
            obtain ⟨f1, f2⟩ := hid.out.1.fits hxs
            rw [hid.out.2] at o2
            have hxr' := hxr
            obtain ⟨Ax, cx, hvx, hcx, _⟩ := hxr'
            subst hvx
            have F1 := Kp.mk f1
            have F2 := Kp.mk f2
            have O2 := Kp.mk o2
            have hcc := Kp.mk (mcell_at hx)
            have hkl : (k : Int) < (ml.length : Int) := by omega
            have h2 := Kp.mk (show (fTags s.ms (.string (strOf x.msg))).isSome = true by rw [fTags_str, o1]; rfl)
            have h3 := Kp.mk (show (fTags s.ms (.string (strOf x.msg))).getD (U 0#64) = U x.tag by rw [fTags_str, o1]; simp [tagAt, hxs])
            have h4 := Kp.mk (show (x.tag != x.tag) = false by simp)
            clear hx hxs o1 o2 f1 f2 hcx hxl hg5
            rcases HC.out with rfl | rfl
            · have h5 := Kp.mk (show (x.tag != BitVec.ofInt 64 (k : Int) + BitVec.ofNat 64 1) = false by rw [O2.out]; simp [keyOf, tagOf])
              go_wp2_with (first
                | (refine wl_rowIdx k (k * 2) rfl hw rfl rfl 0 rfl u_marks mark_size hlt2 ?_)
                | (refine wl_rowLdA (j := k * 2) hw rfl rfl 0 rfl (mcell (.slice Ax x.msg.length cx, x)) mark_agg hcc.out ?_)
                | (refine wl_alloc hw mark_zero ?_; clear hw; intro b4 w hw; (try simp only [List.set_cons_succ, List.set_cons_zero, List.setIfInBounds_toArray, Value.cells, List.eraseIdx_cons_succ, List.eraseIdx_cons_zero] at hw))
                | (refine wl_store_all (vs := mcell (.slice Ax x.msg.length cx, x)) hw rfl 0 rfl rfl (by rw [mark_size]; rfl) rfl (mcell_one _) ?_; clear hw; intro w hw; (try simp only [List.set_cons_succ, List.set_cons_zero, List.setIfInBounds_toArray, Value.cells, List.eraseIdx_cons_succ, List.eraseIdx_cons_zero] at hw); simp only [mcell] at hw)
                | (refine wl_load1 hw rfl 0 rfl (by decide +kernel) (by simp only [List.getElem?_toArray, List.getElem?_cons_succ, List.getElem?_cons_zero]; exact rfl) ?_) | (refine wl_want (by rfl) (fun K hK => ?_); refine wk_load1 hw rfl 0 rfl (by decide +kernel) (by simp only [List.getElem?_toArray, List.getElem?_cons_succ, List.getElem?_cons_zero]; exact rfl) ?_; refine hK _ _ ?_; clear hK K)
                | (refine wl_run (rn_tostr rfl rfl (hxr.rd hw 2 rfl) u_bytes u_u8 u_str) ?_)
                | (refine wl_lookup2 (key := .string (strOf x.msg)) hw rfl 4 rfl KS u_msu z_u64 rfl (key_str x.msg) _ _ h3.out h2.out ?_)
                | (refine wl_want (by rfl) (fun K hK => ?_); refine wk_run (rn_uneq (p := x.tag) (q := x.tag) rfl (by exact rfl) (by exact rfl) false h4.out) ?_; refine hK _ _ ?_; clear hK K)
                | (refine wl_want (by rfl) (fun K hK => ?_); refine wk_run (rn_imaskC 1 (by omega) rfl rfl (by exact rfl) HM.out) ?_; refine hK _ _ ?_; clear hK K)
                | (refine wl_want (by rfl) (fun K hK => ?_); refine wk_run (rn_uint rfl rfl (by kernel_rfl) (by kernel_rfl)) ?_; refine hK _ _ ?_; clear hK K)
                | (refine wl_want (by rfl) (fun K hK => ?_); refine wk_run (rn_uadd rfl (by exact rfl) (by exact U_lit 1 (by decide))) ?_; refine hK _ _ ?_; clear hK K)
                | (refine wl_want (by rfl) (fun K hK => ?_); refine wk_run (rn_uneq (p := x.tag) (q := BitVec.ofInt 64 (k : Int) + BitVec.ofNat 64 1) rfl (by exact rfl) (by exact rfl) false h5.out) ?_; refine hK _ _ ?_; clear hK K)
                | (refine wl_want (by rfl) (fun K hK => ?_); refine wk_call 23 rfl (by kernel_rfl) ?_; simp only [List.map_toArray, List.map_cons, List.map_nil, Act.eval, gd_s, gd_0]; go_must (refine (mac_verify (m := x.msg) (t := x.tag) (hw.front 3 rfl) (fun w' hs => hxr.rd hs 2 rfl) hxl' hsb).mono ?_); clear hw; rw [F1.out, F2.out]; rintro e w ⟨rfl, hw⟩; (try simp only [List.set_cons_succ, List.set_cons_zero, List.setIfInBounds_toArray, Value.cells, List.eraseIdx_cons_succ, List.eraseIdx_cons_zero] at hw); refine ⟨_, rfl, ?_⟩; refine hK _ _ ?_; clear hK K))
              go_roundw
              case rel => exact ⟨k + 1, by omega, by go_num, (Sat.gets hw (by repeat (first | exact Gets.nil | exact Gets.refl _ | refine Gets.get 0 rfl ?_ | refine Gets.get 1 rfl ?_ | refine Gets.get 2 rfl ?_ | refine Gets.get 3 rfl ?_ | refine Gets.get 4 rfl ?_ | refine Gets.get 5 rfl ?_ | refine Gets.get 6 rfl ?_ | refine Gets.get 7 rfl ?_ | refine Gets.get 8 rfl ?_ | refine Gets.get 9 rfl ?_ | refine Gets.drop ?_)))⟩
              case measure => simp [intOf]; omega
            · go_wp2_with (first
                | (refine wl_rowIdx k (k * 2) rfl hw rfl rfl 0 rfl u_marks mark_size hlt2 ?_)
                | (refine wl_rowLdA (j := k * 2) hw rfl rfl 0 rfl (mcell (.slice Ax x.msg.length cx, x)) mark_agg hcc.out ?_)
                | (refine wl_alloc hw mark_zero ?_; clear hw; intro b4 w hw; (try simp only [List.set_cons_succ, List.set_cons_zero, List.setIfInBounds_toArray, Value.cells, List.eraseIdx_cons_succ, List.eraseIdx_cons_zero] at hw))
                | (refine wl_store_all (vs := mcell (.slice Ax x.msg.length cx, x)) hw rfl 0 rfl rfl (by rw [mark_size]; rfl) rfl (mcell_one _) ?_; clear hw; intro w hw; (try simp only [List.set_cons_succ, List.set_cons_zero, List.setIfInBounds_toArray, Value.cells, List.eraseIdx_cons_succ, List.eraseIdx_cons_zero] at hw); simp only [mcell] at hw)
                | (refine wl_load1 hw rfl 0 rfl (by decide +kernel) (by simp only [List.getElem?_toArray, List.getElem?_cons_succ, List.getElem?_cons_zero]; exact rfl) ?_) | (refine wl_want (by rfl) (fun K hK => ?_); refine wk_load1 hw rfl 0 rfl (by decide +kernel) (by simp only [List.getElem?_toArray, List.getElem?_cons_succ, List.getElem?_cons_zero]; exact rfl) ?_; refine hK _ _ ?_; clear hK K)
                | (refine wl_run (rn_tostr rfl rfl (hxr.rd hw 2 rfl) u_bytes u_u8 u_str) ?_)
                | (refine wl_lookup2 (key := .string (strOf x.msg)) hw rfl 4 rfl KS u_msu z_u64 rfl (key_str x.msg) _ _ h3.out h2.out ?_)
                | (refine wl_want (by rfl) (fun K hK => ?_); refine wk_run (rn_uneq (p := x.tag) (q := x.tag) rfl (by exact rfl) (by exact rfl) false h4.out) ?_; refine hK _ _ ?_; clear hK K)
                | (refine wl_want (by rfl) (fun K hK => ?_); refine wk_run (rn_imaskC 1 (by omega) rfl rfl (by exact rfl) HM.out) ?_; refine hK _ _ ?_; clear hK K)
                | (refine wl_want (by rfl) (fun K hK => ?_); refine wk_run (rn_uint rfl rfl (by kernel_rfl) (by kernel_rfl)) ?_; refine hK _ _ ?_; clear hK K)
                | (refine wl_want (by rfl) (fun K hK => ?_); refine wk_run (rn_uadd rfl (by exact rfl) (by exact U_lit 1 (by decide))) ?_; refine hK _ _ ?_; clear hK K)
                | (refine wl_want (by rfl) (fun K hK => ?_); refine wk_run (rn_uneq (p := x.tag) (q := BitVec.ofInt 64 (k : Int) + BitVec.ofNat 64 1) rfl (by exact rfl) (by exact rfl) false h5.out) ?_; refine hK _ _ ?_; clear hK K)
                | (refine wl_want (by rfl) (fun K hK => ?_); refine wk_call 23 rfl (by kernel_rfl) ?_; simp only [List.map_toArray, List.map_cons, List.map_nil, Act.eval, gd_s, gd_0]; go_must (refine (mac_verify (m := x.msg) (t := x.tag) (hw.front 3 rfl) (fun w' hs => hxr.rd hs 2 rfl) hxl' hsb).mono ?_); clear hw; rw [F1.out, F2.out]; rintro e w ⟨rfl, hw⟩; (try simp only [List.set_cons_succ, List.set_cons_zero, List.setIfInBounds_toArray, Value.cells, List.eraseIdx_cons_succ, List.eraseIdx_cons_zero] at hw); refine ⟨_, rfl, ?_⟩; refine hK _ _ ?_; clear hK K))
              go_roundw
              case rel => exact ⟨k + 1, by omega, by go_num, (Sat.gets hw (by repeat (first | exact Gets.nil | exact Gets.refl _ | refine Gets.get 0 rfl ?_ | refine Gets.get 1 rfl ?_ | refine Gets.get 2 rfl ?_ | refine Gets.get 3 rfl ?_ | refine Gets.get 4 rfl ?_ | refine Gets.get 5 rfl ?_ | refine Gets.get 6 rfl ?_ | refine Gets.get 7 rfl ?_ | refine Gets.get 8 rfl ?_ | refine Gets.get 9 rfl ?_ | refine Gets.drop ?_)))⟩
              case measure => simp [intOf]; omega
          · have hkl : k = ml.length := by omega
            subst hkl
            have HL := Kp.mk (show ∀ es clock, Tells (IsKey .string) es clock (fTags s.ms) → es.size = ml.length from fun es clock ht => by rw [tags_size hid.out.1 ht, ← HMM.out, List.length_map])
            go_wp2_with (first
              | (refine wl_mapLen ml.length hw rfl 3 rfl u_msu HL.out ?_))
            go_ret
            exact ⟨rfl, hw.tail.tail.tail.tail.tail⟩
end Go.Proofs.Ytidkfjgelcpieaa
