/- Rows of bytes that are one: bastionref01.Same. Conditions: none. -/
import Derived.Test.YtklhmlplabkoeaaSipL
import Derived.Test.YtklhmlplabkoeaaArc
import Derived.Test.YtklhmlplabkoeaaCmp
import Derived.Test.YtklhmlplabkoeaaProg
import Derived.Test.YtklhmlplabkoeaaRows
import Derived.Deep.Cut
set_option linter.unusedVariables false
set_option linter.unusedSimpArgs false
namespace Go.Proofs.Ytklhmlplabkoeaa
open Go.RowKit Go.Bst Go.MapKept Go.Proofs.YtklhmlplabkoeaaW.PrintLast
attribute [local irreducible] wpList Calls Code.wp Code.wpN Oper.wp Go.Proofs.YtklhmlplabkoeaaW.PrintLast.wpAnyLast
theorem u_bytes : Try.prog.underlying 60 = some (.slice 5) := by kernel_rfl
theorem byte_size : (Try.prog.info? 5).map (·.size) = some 1 := by kernel_rfl
theorem byte_info : (Try.prog.info? 5).map (fun i => (i.zero, i.size, i.bytes)) = some (some (.int .u8 0), 1, 1) := by kernel_rfl
theorem u_int : Try.prog.underlying 3 = some (.int .i64) := by kernel_rfl
theorem u_u8 : Try.prog.underlying 5 = some (.int .u8) := by kernel_rfl
theorem u_u64 : Try.prog.underlying 22 = some (.int .u64) := by kernel_rfl
theorem rd0 : U (rd []) = Value.int .u64 0 := (U_lit 0 (by decide)).symm
theorem rn_yneq {P : Program} {w : World} {o : Oper} {a : Act} {x y : Operand} {t yt : TypeId} {c d : UInt8} (ho : o.op = .binOp .neq t x y yt) (hx : a.eval x = Y c) (hy : a.eval y = Y d) (b : Bool) (hb : (c != d) = b) : (execOp a.eval o).run P w = .ok (.value (.bool b)) w := by
  have e : ((c.toNat : Int) == (d.toNat : Int)) = (c == d) := by
    rw [Bool.eq_iff_iff]
    simp only [beq_iff_eq]
    constructor
    · intro h; exact UInt8.toNat_inj.1 (by omega)
    · rintro rfl; rfl
  subst hb
  rw [bne, ← e]
  unfold execOp
  simp [ho, hx, hy, Y, eqGuard, binOp, Op.intCmp, bne]
theorem ybs_at {l : List UInt8} {k : Nat} (h : k < l.length) : (ybs l)[k]? = some (Y l[k]) := by
  unfold ybs; rw [List.getElem?_map, List.getElem?_eq_getElem h]; rfl
section
variable {E : Env} {w : World} {F : List HP}
set_option maxRecDepth 100000 in
set_option maxHeartbeats 1000000 in
theorem ref_Same0 {l m : List UInt8} {u v : Value} (ru : Rd w 1 u l.length (ybs l)) (rv : Rd w 1 v m.length (ybs m)) (hb : l.length ≤ 1000000000) :
    Calls Try.prog 33 #[u, v] w fun e w' => e = .returned (.bool (l == m)) ∧ ∃ n, w' = w.drewN n := by
  obtain ⟨A, c, rfl, ac⟩ := ru.form
  obtain ⟨B, d, rfl, bc⟩ := rv.form
  by_cases hne : l.length = m.length
  · have HE := Kp.mk hne
    have hbn : (l.length != m.length) = false := by simp [hne]
    have hbn' : ((l.length : Int) != (m.length : Int)) = false := by simp [hne]
    clear hne
    go_enter Try.func33, Try.ntmps33
    go_wp2
    go_loopw [5] (fun i wr => ∃ k n : Nat, k ≤ l.length ∧ i = .int .i64 k ∧ l.take k = m.take k ∧ wr = w.drewN n) (fun i _ => l.length - (intOf i).toNat)
    case atStart => exact ⟨0, 0, by omega, rfl, by simp, rfl⟩
    case round =>
      obtain ⟨k, n0, hk, rfl, HT, rfl⟩ := hrel
      have HT := Kp.mk HT
      have HE' := HE.out
      by_cases hlt : k < l.length
      · have hkm : k < m.length := by omega
        obtain ⟨ad, rfl, hca⟩ := ru.addr (by omega)
        obtain ⟨bd, rfl, hcb⟩ := rv.addr (by omega)
        have ca := hca k _ (ybs_at hlt)
        have cb := hcb k _ (ybs_at hkm)
        have hk0 : ((k : Int)).toNat * 1 = k := by omega
        clear hca hcb ru rv HE'
        have CA := Kp.mk ca
        have CB := Kp.mk cb
        have HK0 := Kp.mk hk0
        clear ca cb hk0
        have ii : ((k : Int) + 1) ≤ 9223372036854775807 := by omega
        by_cases heq : l[k] = m[k]
        · have hs := Kp.mk (show (l[k] != m[k]) = false by simp [heq])
          have heq := Kp.mk heq
          go_wp2_with fail
          (refine wp_region_quiet_lit (by kernel_rfl) (by kernel_rfl) ?_; (repeat (first | go_big_quiet_skip | (go_big_quiet_want; (first | (refine qk_index (A := some ad) (sz := 1) (el := 5) rfl rfl rfl (by kernel_rfl) (by kernel_rfl) rfl (by omega) (by omega) ?_; simp only [Act.put, List.setIfInBounds_toArray, List.set_cons_succ, List.set_cons_zero]) | (refine qk_index (A := some bd) (sz := 1) (el := 5) rfl rfl rfl (by kernel_rfl) (by kernel_rfl) rfl (by omega) (by omega) ?_; simp only [Act.put, List.setIfInBounds_toArray, List.set_cons_succ, List.set_cons_zero]) | (refine qk_ld1 (v := Y l[k]) (ad := ad.add ((k : Int).toNat * 1)) rfl rfl (by decide +kernel) (by rw [HK0.out]; exact CA.out) ?_; simp only [Act.put, List.setIfInBounds_toArray, List.set_cons_succ, List.set_cons_zero]) | (refine qk_ld1 (v := Y m[k]) (ad := bd.add ((k : Int).toNat * 1)) rfl rfl (by decide +kernel) (by rw [HK0.out]; exact CB.out) ?_; simp only [Act.put, List.setIfInBounds_toArray, List.set_cons_succ, List.set_cons_zero]) | (refine qk_run (fun _ => rn_yneq rfl (by exact rfl) (by exact rfl) _ hs.out) ?_; simp only [Act.put, List.setIfInBounds_toArray, List.set_cons_succ, List.set_cons_zero]) | go_big_quiet_op); go_big_quiet_on))); refine wpQuiet_nil ?_; rintro _ ⟨nq, rfl⟩)
          go_wp2
          go_roundw
          case rel => exact ⟨k + 1, n0 + nq, by omega, by go_num, by rw [List.take_succ_eq_append_getElem hlt, List.take_succ_eq_append_getElem hkm, HT.out, heq.out], rfl⟩
          case measure => simp [intOf]; omega
        · have hs := Kp.mk (show (l[k] != m[k]) = true by simp [heq])
          have hfin := Kp.mk (show (l == m) = false by rw [beq_eq_false_iff_ne]; intro e; exact heq (by subst e; rfl))
          have heq := Kp.mk heq
          go_wp2_with fail
          (refine wp_region_quiet_lit (by kernel_rfl) (by kernel_rfl) ?_; (repeat (first | go_big_quiet_skip | (go_big_quiet_want; (first | (refine qk_index (A := some ad) (sz := 1) (el := 5) rfl rfl rfl (by kernel_rfl) (by kernel_rfl) rfl (by omega) (by omega) ?_; simp only [Act.put, List.setIfInBounds_toArray, List.set_cons_succ, List.set_cons_zero]) | (refine qk_index (A := some bd) (sz := 1) (el := 5) rfl rfl rfl (by kernel_rfl) (by kernel_rfl) rfl (by omega) (by omega) ?_; simp only [Act.put, List.setIfInBounds_toArray, List.set_cons_succ, List.set_cons_zero]) | (refine qk_ld1 (v := Y l[k]) (ad := ad.add ((k : Int).toNat * 1)) rfl rfl (by decide +kernel) (by rw [HK0.out]; exact CA.out) ?_; simp only [Act.put, List.setIfInBounds_toArray, List.set_cons_succ, List.set_cons_zero]) | (refine qk_ld1 (v := Y m[k]) (ad := bd.add ((k : Int).toNat * 1)) rfl rfl (by decide +kernel) (by rw [HK0.out]; exact CB.out) ?_; simp only [Act.put, List.setIfInBounds_toArray, List.set_cons_succ, List.set_cons_zero]) | (refine qk_run (fun _ => rn_yneq rfl (by exact rfl) (by exact rfl) _ hs.out) ?_; simp only [Act.put, List.setIfInBounds_toArray, List.set_cons_succ, List.set_cons_zero]) | go_big_quiet_op); go_big_quiet_on))); refine wpQuiet_nil ?_; rintro _ ⟨nq, rfl⟩)
          go_wp2
          go_ret
          exact ⟨by rw [hfin.out]; rfl, n0 + nq, by rw [World.drewN_drewN]⟩
      · have hfin := Kp.mk (show (l == m) = true by
          rw [beq_iff_eq]
          have := HT.out
          rw [List.take_of_length_le (by omega), List.take_of_length_le (by omega)] at this
          exact this)
        have hge : l.length ≤ k := by omega
        clear HE'
        go_wp2
        go_ret
        exact ⟨by rw [hfin.out]; rfl, n0, rfl⟩
  · have hs := Kp.mk (show (l == m) = false by rw [beq_eq_false_iff_ne]; intro e; exact hne (by rw [e]))
    have hbn : ((l.length : Int) != (m.length : Int)) = true := by rw [bne_iff_ne]; omega
    go_enter Try.func33, Try.ntmps33
    go_wp2
    go_ret
    exact ⟨by rw [hs.out]; rfl, 0, rfl⟩
theorem ref_Same {l m : List UInt8} {u v : Value} (hw : Sat E w F) (hu : ∀ w', Sat E w' F → Rd w' 1 u l.length (ybs l)) (hv : ∀ w', Sat E w' F → Rd w' 1 v m.length (ybs m)) (hb : l.length ≤ 1000000) :
    Calls Try.prog 33 #[u, v] w fun e w' => e = .returned (.bool (l == m)) ∧ Sat E w' F := by
  refine (ref_Same0 (hu w hw) (hv w hw) (by omega)).mono ?_
  rintro e w' ⟨rfl, n, rfl⟩
  exact ⟨rfl, hw.drewN n⟩
end
end Go.Proofs.Ytklhmlplabkoeaa
