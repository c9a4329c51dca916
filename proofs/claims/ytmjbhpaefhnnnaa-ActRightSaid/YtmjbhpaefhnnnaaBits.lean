/- Numbers out of bytes, copies of bytes, the document's comparison of bytes. Conditions: none. -/
import Derived.Test.YtmjbhpaefhnnnaaSipL
import Derived.Test.YtmjbhpaefhnnnaaArc
import Derived.Test.YtmjbhpaefhnnnaaCmp
import Derived.Test.YtmjbhpaefhnnnaaByt
import Derived.Test.YtmjbhpaefhnnnaaProg
import Derived.Test.YtmjbhpaefhnnnaaRows
import Derived.Deep.Cut
set_option linter.unusedVariables false
set_option linter.unusedSimpArgs false
namespace Go.Proofs.Ytmjbhpaefhnnnaa
open Go.RowKit Go.Bst Go.MapKept Go.Proofs.YtmjbhpaefhnnnaaW.PrintLast
attribute [local irreducible] wpList Calls Code.wp Code.wpN Oper.wp Go.Proofs.YtmjbhpaefhnnnaaW.PrintLast.wpAnyLast
section
variable {E : Env} {w : World} {F : List HP}
set_option maxRecDepth 100000 in
set_option maxHeartbeats 400000 in
theorem bits_read {l : List UInt8} {v : Value} (hr : Rd w 1 v l.length (ybs l)) (hl : l.length ≤ 1000000000000) :
    Calls Try.prog 33 #[v] w fun e w' => e = .returned (U (rd l)) ∧ w' = w := by
  obtain ⟨A, cap, rfl, hcap⟩ := hr.form
  obtain ⟨n, hn⟩ : ∃ n : Nat, (l.length ≤ 8 ∧ n = l.length) ∨ (8 < l.length ∧ n = 8) := by
    by_cases h : l.length ≤ 8
    · exact ⟨_, .inl ⟨h, rfl⟩⟩
    · exact ⟨8, .inr ⟨by omega, rfl⟩⟩
  have hnl : n ≤ l.length := by omega
  have hn8 : n ≤ 8 := by omega
  have hru := hr.upto hnl
  have htk := Kp.mk (show rd l = rd (l.take n) by
    unfold rd
    rw [List.take_take]
    congr 2
    rcases hn with ⟨h, rfl⟩ | ⟨h, rfl⟩
    · rw [List.take_of_length_le (by omega), List.take_of_length_le (by omega)]
    · rfl)
  have hx : (ybs l).take (n * 1) = ybs (l.take n) := by unfold ybs; rw [Nat.mul_one, List.map_take]
  rw [hx] at hru
  clear hx
  have hcn : n ≤ cap := by omega
  rcases hn with ⟨h, hn⟩ | ⟨h, hn⟩
  · subst hn
    have h' : (l.length : Int) ≤ 8 ∨ (8 : Int) < (l.length : Int) := by omega
    go_enter Try.func33, Try.ntmps33
    go_wp2_with (first
      | (refine wl_sliceTo (l.length) rfl u_bytes byte_size rfl hcn ?_))
    go_loopw [2, 11] (fun v i wr => ∃ k : Nat, k ≤ l.length ∧ i = .int .i64 k ∧ v = U (rd (l.take k)) ∧ wr = w) (fun _ i _ => l.length - (intOf i).toNat)
    case atStart => exact ⟨0, by omega, rfl, rd0.symm, rfl⟩
    case round =>
      obtain ⟨k, hk, rfl, rfl, rfl⟩ := hrel
      by_cases hlt : k < l.length
      · obtain ⟨c, hc⟩ : ∃ c, l[k]? = some c := ⟨_, List.getElem?_eq_getElem (by omega)⟩
        have hcell : (ybs (l.take (l.length)))[k]? = some (Y c) := by simp only [ybs, List.getElem?_map, List.getElem?_take]; rw [if_pos (by omega), hc]; rfl
        have hnext := Kp.mk (show rd (l.take k) ||| (BitVec.ofNat 64 c.toNat <<< (8 * k)) = rd (l.take (k + 1)) by
          have := rd_snoc (l := l.take k) (c := c) (by rw [List.length_take]; omega)
          rw [List.length_take, Nat.min_eq_left (by omega)] at this
          rw [this, List.take_add_one, hc]; rfl)
        have hlt' : (k : Int) < ((l.length : Nat) : Int) := by omega
        have hk8 : (k : Int) ≤ 8 := by omega
        have HC := Kp.mk hcell
        clear hc hcell
        go_wp2_with (first
          | (refine wl_index (k : Int) hru rfl rfl u_bytes byte_size (by omega) (by omega) ?_; intro ad hA hca; have ca := Kp.mk (hca k (Y c) HC.out); clear hca hA)
          | (refine wl_ld1 (v := Y c) rfl (by decide +kernel) (by rw [Int.toNat_natCast, Nat.mul_one]; exact ca.out) ?_)
          | (refine wl_ubyte rfl u_u8 u_u64 ?_)
          | (refine wl_ushlI rfl rfl (by omega) ?_)
          | (refine wl_uor (by first | exact rfl | (simp only [Act.eval, Act.put, List.setIfInBounds_toArray, List.set_cons_succ, List.set_cons_zero, gd_s, gd_0]; exact U_lit _ (by decide))) (by first | exact rfl | (simp only [Act.eval, Act.put, List.setIfInBounds_toArray, List.set_cons_succ, List.set_cons_zero, gd_s, gd_0]; exact U_lit _ (by decide))) ?_))
        rw [hnext.out]
        go_roundw
        case rel => exact ⟨k + 1, by omega, by go_num, rfl, trivial⟩
        case measure => simp [intOf]; omega
      · have hge : ¬ ((k : Int) < ((l.length : Nat) : Int)) := by omega
        go_wp2
        go_ret
        have hkn : k = l.length := by omega
        exact ⟨(congrArg Ending.returned (by show U (rd (l.take k)) = U (rd l); rw [htk.out, hkn])), rfl⟩
  · subst hn
    have h' : (l.length : Int) ≤ 8 ∨ (8 : Int) < (l.length : Int) := by omega
    go_enter Try.func33, Try.ntmps33
    go_wp2_with (first
      | (refine wl_sliceTo (8) rfl u_bytes byte_size rfl hcn ?_))
    go_loopw [2, 11] (fun v i wr => ∃ k : Nat, k ≤ 8 ∧ i = .int .i64 k ∧ v = U (rd (l.take k)) ∧ wr = w) (fun _ i _ => 8 - (intOf i).toNat)
    case atStart => exact ⟨0, by omega, rfl, rd0.symm, rfl⟩
    case round =>
      obtain ⟨k, hk, rfl, rfl, rfl⟩ := hrel
      by_cases hlt : k < 8
      · obtain ⟨c, hc⟩ : ∃ c, l[k]? = some c := ⟨_, List.getElem?_eq_getElem (by omega)⟩
        have hcell : (ybs (l.take (8)))[k]? = some (Y c) := by simp only [ybs, List.getElem?_map, List.getElem?_take]; rw [if_pos (by omega), hc]; rfl
        have hnext := Kp.mk (show rd (l.take k) ||| (BitVec.ofNat 64 c.toNat <<< (8 * k)) = rd (l.take (k + 1)) by
          have := rd_snoc (l := l.take k) (c := c) (by rw [List.length_take]; omega)
          rw [List.length_take, Nat.min_eq_left (by omega)] at this
          rw [this, List.take_add_one, hc]; rfl)
        have hlt' : (k : Int) < ((8 : Nat) : Int) := by omega
        have hk8 : (k : Int) ≤ 8 := by omega
        have HC := Kp.mk hcell
        clear hc hcell
        go_wp2_with (first
          | (refine wl_index (k : Int) hru rfl rfl u_bytes byte_size (by omega) (by omega) ?_; intro ad hA hca; have ca := Kp.mk (hca k (Y c) HC.out); clear hca hA)
          | (refine wl_ld1 (v := Y c) rfl (by decide +kernel) (by rw [Int.toNat_natCast, Nat.mul_one]; exact ca.out) ?_)
          | (refine wl_ubyte rfl u_u8 u_u64 ?_)
          | (refine wl_ushlI rfl rfl (by omega) ?_)
          | (refine wl_uor (by first | exact rfl | (simp only [Act.eval, Act.put, List.setIfInBounds_toArray, List.set_cons_succ, List.set_cons_zero, gd_s, gd_0]; exact U_lit _ (by decide))) (by first | exact rfl | (simp only [Act.eval, Act.put, List.setIfInBounds_toArray, List.set_cons_succ, List.set_cons_zero, gd_s, gd_0]; exact U_lit _ (by decide))) ?_))
        rw [hnext.out]
        go_roundw
        case rel => exact ⟨k + 1, by omega, by go_num, rfl, trivial⟩
        case measure => simp [intOf]; omega
      · have hge : ¬ ((k : Int) < ((8 : Nat) : Int)) := by omega
        go_wp2
        go_ret
        have hkn : k = 8 := by omega
        exact ⟨(congrArg Ending.returned (by show U (rd (l.take k)) = U (rd l); rw [htk.out, hkn])), rfl⟩
set_option maxRecDepth 100000 in
set_option maxHeartbeats 400000 in
theorem ref_read {l : List UInt8} {v : Value} (hr : Rd w 1 v l.length (ybs l)) (hl : l.length ≤ 1000000000000) :
    Calls Try.prog 36 #[v] w fun e w' => e = .returned (U (rd l)) ∧ w' = w := by
  obtain ⟨A, cap, rfl, hcap⟩ := hr.form
  go_enter Try.func36, Try.ntmps36
  go_wp2
  go_loopw [3, 4] (fun v i wr => ∃ k : Nat, k ≤ 8 ∧ i = .int .i64 ((k : Int) - 1) ∧ v = U (rd ((l.take 8).drop k)) ∧ wr = w) (fun _ i _ => (intOf i + 1).toNat)
  case atStart => exact ⟨8, by omega, rfl, by rw [List.drop_of_length_le (by rw [List.length_take]; omega)]; exact rd0.symm, rfl⟩
  case round =>
    obtain ⟨k, hk, rfl, rfl, rfl⟩ := hrel
    cases k with
    | zero =>
      go_wp2
      go_ret
      exact ⟨by rw [List.drop_zero]; unfold rd; rw [List.take_take]; rfl, rfl⟩
    | succ k =>
      have hle : (0 : Int) ≤ ((k + 1 : Nat) : Int) - 1 := by omega
      have hii : (((k + 1 : Nat) : Int) - 1) = (k : Int) := by omega
      rw [hii]
      clear hii hle
      have hk8 : (k : Int) ≤ 8 := by omega
      have h256 : Value.int .u64 256 = U 256#64 := U_lit 256 (by decide)
      by_cases hlt : k < l.length
      · obtain ⟨c, hc⟩ : ∃ c, l[k]? = some c := ⟨_, List.getElem?_eq_getElem (by omega)⟩
        have hcell : (ybs l)[k]? = some (Y c) := by simp [ybs, hc]
        have hd : (l.take 8).drop k = c :: (l.take 8).drop (k + 1) := by
          rw [List.drop_eq_getElem_cons (by rw [List.length_take]; omega)]
          congr 1
          obtain ⟨_, e⟩ := List.getElem?_eq_some_iff.1 hc
          rw [List.getElem_take]; exact e
        have hnext := Kp.mk (show rd ((l.take 8).drop (k + 1)) * 256#64 + BitVec.ofNat 64 c.toNat = rd ((l.take 8).drop k) by
          rw [hd]
          exact rd_cons (by rw [List.length_drop, List.length_take]; omega))
        have hlt' : (k : Int) < (l.length : Int) := by omega
        have HC := Kp.mk hcell
        clear hc hcell hd h256
        go_wp2_with (first
          | (refine wl_index (k : Int) hr rfl rfl u_bytes byte_size (by omega) (by omega) ?_; intro ad hA hca; have ca := Kp.mk (hca k (Y c) HC.out); clear hca hA)
          | (refine wl_ld1 (v := Y c) rfl (by decide +kernel) (by rw [Int.toNat_natCast, Nat.mul_one]; exact ca.out) ?_)
          | (refine wl_ubyte rfl u_u8 u_u64 ?_)
          | (refine wl_umul (by first | exact rfl | (simp only [Act.eval, Act.put, List.setIfInBounds_toArray, List.set_cons_succ, List.set_cons_zero, gd_s, gd_0]; exact U_lit _ (by decide))) (by first | exact rfl | (simp only [Act.eval, Act.put, List.setIfInBounds_toArray, List.set_cons_succ, List.set_cons_zero, gd_s, gd_0]; exact U_lit _ (by decide))) ?_)
          | (refine wl_uadd (by first | exact rfl | (simp only [Act.eval, Act.put, List.setIfInBounds_toArray, List.set_cons_succ, List.set_cons_zero, gd_s, gd_0]; exact U_lit _ (by decide))) (by first | exact rfl | (simp only [Act.eval, Act.put, List.setIfInBounds_toArray, List.set_cons_succ, List.set_cons_zero, gd_s, gd_0]; exact U_lit _ (by decide))) ?_))
        rw [hnext.out]
        go_roundw
        case rel => exact ⟨k, by omega, rfl, rfl, trivial⟩
        case measure => simp [intOf]
      · have hd : (l.take 8).drop k = [] := List.drop_of_length_le (by rw [List.length_take]; omega)
        have hd' : (l.take 8).drop (k + 1) = [] := List.drop_of_length_le (by rw [List.length_take]; omega)
        have hnext := Kp.mk (show rd ((l.take 8).drop (k + 1)) * 256#64 = rd ((l.take 8).drop k) by rw [hd, hd']; rfl)
        have hge : (l.length : Int) ≤ (k : Int) := by omega
        clear hd hd' h256
        go_wp2_with (first
          | (refine wl_umul (by first | exact rfl | (simp only [Act.eval, Act.put, List.setIfInBounds_toArray, List.set_cons_succ, List.set_cons_zero, gd_s, gd_0]; exact U_lit _ (by decide))) (by first | exact rfl | (simp only [Act.eval, Act.put, List.setIfInBounds_toArray, List.set_cons_succ, List.set_cons_zero, gd_s, gd_0]; exact U_lit _ (by decide))) ?_)
          | (refine wl_uadd (by first | exact rfl | (simp only [Act.eval, Act.put, List.setIfInBounds_toArray, List.set_cons_succ, List.set_cons_zero, gd_s, gd_0]; exact U_lit _ (by decide))) (by first | exact rfl | (simp only [Act.eval, Act.put, List.setIfInBounds_toArray, List.set_cons_succ, List.set_cons_zero, gd_s, gd_0]; exact U_lit _ (by decide))) ?_))
        rw [hnext.out]
        go_roundw
        case rel => exact ⟨k, by omega, rfl, rfl, trivial⟩
        case measure => simp [intOf]
set_option maxRecDepth 100000 in
set_option maxHeartbeats 400000 in
theorem clone_bytes {v : Value} {l : List UInt8} (hw : Sat E w F) (hR : ∀ w', Sat E w' F → Rd w' 1 v l.length (ybs l)) (hn : l.length ≤ 1000000) :
    Calls Try.prog 38 #[v] w fun e w' => ∃ v', e = .returned v' ∧ Sat E w' (Row 5 1 v' l.length (ybs l) :: F) := by
  have hr := hR w hw
  obtain ⟨A, cap, rfl, hc⟩ := hr.form
  have HR := Kp.mk hR
  clear hR
  cases A with
  | none =>
    have hl : l = [] := by
      obtain ⟨A', cap', e, _, _, h4⟩ := hr
      cases l with
      | nil => rfl
      | cons c l => obtain ⟨_, e2, _⟩ := h4 (by simp); injection e with e; rw [← e] at e2; cases e2
    subst hl
    go_enter Try.func38, Try.ntmps38
    go_wp2_with (refine wl_eqNil rfl rfl u_bytes _ rfl ?_)
    go_ret
    exact ⟨_, rfl, Row_nil hw⟩
  | some ad =>
    obtain ⟨n, hn'⟩ : ∃ n, n = l.length := ⟨_, rfl⟩
    rw [← hn'] at HR hn hc ⊢
    clear hn' hr
    go_enter Try.func38, Try.ntmps38
    go_wp2_with (first
      | (refine wl_eqNil rfl rfl u_bytes _ rfl ?_)
      | (refine wl_lit0 (el := 5) (sz := 1) hw (by kernel_rfl) (by kernel_rfl) ?_; clear hw; intro b0 w hw)
      | (at_builtin; go_must (refine wl_append hw 0 rfl rfl rfl (HR.out _ hw.tail) u_bytes byte_info rfl (by omega) ybs_one (by simp only [maxLen]; omega) (by omega) ?_); clear hw; intro v w hw hv; clear hv; (try simp only [List.set_cons_succ, List.set_cons_zero, List.setIfInBounds_toArray, Value.cells, List.eraseIdx_cons_succ, List.eraseIdx_cons_zero] at hw)))
    go_ret
    rw [Nat.zero_add, List.nil_append] at hw
    exact ⟨_, rfl, hw⟩
end
end Go.Proofs.Ytmjbhpaefhnnnaa
