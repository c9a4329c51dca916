/- The law ProbeTouches: which places of memory an act may change. Conditions: none. -/
import Derived.Test.YtklhmlplabkoeaaEdg
import Derived.Test.YtklhmlplabkoeaaTouV
import Derived.Test.YtklhmlplabkoeaaTouV0
import Derived.Test.YtklhmlplabkoeaaTouV2
import Derived.Test.YtklhmlplabkoeaaTouV3
import Derived.Test.YtklhmlplabkoeaaTouV5
import Derived.Test.YtklhmlplabkoeaaPrbS
set_option linter.unusedVariables false
set_option linter.unusedSimpArgs false
namespace Go.Proofs.Ytklhmlplabkoeaa
open Go.RowKit Go.Bst Go.MapKept Go.Proofs.YtklhmlplabkoeaaW.PrintLast
theorem touchesF_len (p : Pl) (t : Tmv) (l : Nat) : (touchesF p t l).length ≤ 1000 := by
  unfold touchesF
  split
  · exact touch_len _ _
  · simp
theorem touchesF_small {p : Pl} {t : Tmv} {l : Nat} {x : Plc} (h : x ∈ touchesF p t l) : x.Sm := by
  unfold touchesF at h
  split at h
  · exact touch_small h
  · simp at h
section
variable {E : Env} {w : World} {F : List HP} {p : Pl}
theorem ref_Touches {t : Tmv} {B : Option Addr} {l bc : Nat} (ht : Tmv.Ok t) (hl : l ≤ 1000) (hp : p.Ok) (hw : Sat E w F) : Calls Try.prog 15 #[.agg p.cs, .agg (t.cs (.slice B l bc))] w fun e w' => ∃ A c, e = .returned (.slice A (touchesF p t l).length c) ∧ Sat E w' (RowN 69 5 (.slice A (touchesF p t l).length c) (touchesF p t l).length Plc.cs (touchesF p t l) :: F) := by
  cases hb : (writtenF (sizeN p) t l).2.2 with
  | false => exact ref_TouchesN ht hl hp (touchesF_no hb) (written_not hb) hw
  | true =>
    by_cases k1 : t.kind = 1
    · have e : writtenF (sizeN p) t l = (t.loc, (l : Int), thereZ (sizeN p) t.loc l) := by unfold writtenF; rw [if_pos k1]
      have h1 : thereZ (sizeN p) t.loc l = true := by rw [e] at hb; exact hb
      exact ref_Touches1 ht hl hp k1 (e.trans (by rw [h1])) (yes_Z h1) hw
    by_cases k2 : t.kind = 2
    · have e : writtenF (sizeN p) t l = (Int.tdiv t.loc 8, 1, decide (0 ≤ t.loc) && decide (Int.tdiv t.loc 8 < (sizeN p : Nat))) := by unfold writtenF; rw [if_neg k1, if_pos k2]
      have h1 : 0 ≤ t.loc ∧ Int.tdiv t.loc 8 < (sizeN p : Nat) := by
        rw [e] at hb
        simpa using hb
      have h2 : Int.tdiv t.loc 8 = t.loc / 8 := by rw [tdiv8, if_pos h1.1]
      rw [h2] at h1 e
      exact ref_Touches2 ht hl hp k2 (e.trans (by rw [decide_eq_true h1.1, decide_eq_true h1.2]; rfl)) ⟨h1.1, by omega, by omega, h1.2⟩ hw
    by_cases k3 : t.kind = 3
    · have e : writtenF (sizeN p) t l = (t.to, t.n, thereZ (sizeN p) t.loc t.n && thereZ (sizeN p) t.to t.n) := by unfold writtenF; rw [if_neg k1, if_neg k2, if_pos k3]
      have h1 : thereZ (sizeN p) t.loc t.n = true ∧ thereZ (sizeN p) t.to t.n = true := by
        rw [e] at hb
        exact Bool.and_eq_true_iff.1 hb
      exact ref_Touches3 ht hl hp k3 (e.trans (by rw [h1.1, h1.2]; rfl)) (yes_Z h1.1) (yes_Z h1.2) hw
    by_cases k5 : t.kind = 5
    · have e : writtenF (sizeN p) t l = (t.loc, t.n, thereZ (sizeN p) t.loc t.n) := by unfold writtenF; rw [if_neg k1, if_neg k2, if_neg k3, if_pos k5]
      have h1 : thereZ (sizeN p) t.loc t.n = true := by rw [e] at hb; exact hb
      exact ref_Touches5 ht hl hp k5 (e.trans (by rw [h1])) (yes_Z h1) hw
    · exfalso
      unfold writtenF at hb
      rw [if_neg k1, if_neg k2, if_neg k3, if_neg k5] at hb
      cases hb
attribute [local irreducible] touchesF wpList Calls Code.wp Code.wpN Oper.wp Go.Proofs.YtklhmlplabkoeaaW.PrintLast.wpAnyLast
set_option maxRecDepth 100000 in
set_option maxHeartbeats 4000000 in
theorem law_ProbeTouches {W : World} {t : Tmv} {B : Option Addr} {l bc : Nat} (hp : p.Ok) (ht : Tmv.Ok t) :
    Calls Try.prog 5 #[.agg p.cs, .agg (t.cs (.slice B l bc))] W fun e w' => e = .returned (.bool true) ∧ Sat (World.env W) w' [Old W] := by
  have hw : Sat (World.env W) W [Old W] := Sat.init W
  generalize hw0 : W = w at hw ⊢
  subst hw0
  by_cases h500 : 500 < l
  · go_enter Try.func5, Try.ntmps5
    go_wp2_with (first
      | (go_at_call 10; go_must (refine (Calls.mono (law26_speaks hw) ?_)); clear hw; rintro e w ⟨rfl, hw⟩; (try simp only [List.set_cons_succ, List.set_cons_zero, List.setIfInBounds_toArray, Value.cells, List.eraseIdx_cons_succ, List.eraseIdx_cons_zero] at hw))
      | (refine wl_box (d := some 2) hw _ (by simp only [Act.eval, Act.put, List.setIfInBounds_toArray, List.set_cons_succ, List.set_cons_zero, gd_s, gd_0, Value.cells]; exact rfl) ?_; clear hw; intro b2 w hw; (try simp only [List.set_cons_succ, List.set_cons_zero, List.setIfInBounds_toArray, Value.cells, List.eraseIdx_cons_succ, List.eraseIdx_cons_zero] at hw)) | (refine wl_box (d := some 3) hw _ (by simp only [Act.eval, Act.put, List.setIfInBounds_toArray, List.set_cons_succ, List.set_cons_zero, gd_s, gd_0, Value.cells]; exact rfl) ?_; clear hw; intro b3 w hw; (try simp only [List.set_cons_succ, List.set_cons_zero, List.setIfInBounds_toArray, Value.cells, List.eraseIdx_cons_succ, List.eraseIdx_cons_zero] at hw)) | (refine wb_load1 (d := some 11)  rfl (by first | exact hw.read 0 rfl | exact hw.read 1 rfl | exact hw.read 2 rfl | exact hw.read 3 rfl | exact hw.read 4 rfl) (by decide +kernel) (by exact Tmv.c4 _ _) ?_) | (refine wl_run (d := some 13) (rn_cgtr rfl (by exact rfl) (by exact rfl) true (decide_eq_true (by omega))) ?_) | (refine wl_run (d := some 13) (rn_cgtr rfl (by exact rfl) (by exact rfl) false (decide_eq_false (by omega))) ?_))
    go_ret
    exact ⟨rfl, (Sat.gets hw (by repeat (first | exact Gets.nil | exact Gets.refl _ | refine Gets.get 0 rfl ?_ | refine Gets.get 1 rfl ?_ | refine Gets.get 2 rfl ?_ | refine Gets.get 3 rfl ?_ | refine Gets.get 4 rfl ?_ | refine Gets.get 5 rfl ?_ | refine Gets.drop ?_)))⟩
  · have hl2 : l ≤ 1000 := by omega
    obtain ⟨L, hL⟩ : ∃ L, Kp (touchesF p t l = L) := ⟨_, Kp.mk rfl⟩
    obtain ⟨n, hn⟩ : ∃ n, Kp (L.length = n) := ⟨_, Kp.mk rfl⟩
    have hn10 := touchesF_len p t l
    have hsm := Kp.mk (show ∀ x ∈ touchesF p t l, fitAll Plc.K x.cs.toList from fun x hx => (touchesF_small hx).fits)
    rw [hL.out] at hsm hn10
    rw [hn.out] at hn10
    go_enter Try.func5, Try.ntmps5
    go_upto_region 5 with (first
      | (go_at_call 10; go_must (refine (Calls.mono (law26_speaks hw) ?_)); clear hw; rintro e w ⟨rfl, hw⟩; (try simp only [List.set_cons_succ, List.set_cons_zero, List.setIfInBounds_toArray, Value.cells, List.eraseIdx_cons_succ, List.eraseIdx_cons_zero] at hw))
      | (refine wl_box (d := some 2) hw _ (by simp only [Act.eval, Act.put, List.setIfInBounds_toArray, List.set_cons_succ, List.set_cons_zero, gd_s, gd_0, Value.cells]; exact rfl) ?_; clear hw; intro b2 w hw; (try simp only [List.set_cons_succ, List.set_cons_zero, List.setIfInBounds_toArray, Value.cells, List.eraseIdx_cons_succ, List.eraseIdx_cons_zero] at hw)) | (refine wl_box (d := some 3) hw _ (by simp only [Act.eval, Act.put, List.setIfInBounds_toArray, List.set_cons_succ, List.set_cons_zero, gd_s, gd_0, Value.cells]; exact rfl) ?_; clear hw; intro b3 w hw; (try simp only [List.set_cons_succ, List.set_cons_zero, List.setIfInBounds_toArray, Value.cells, List.eraseIdx_cons_succ, List.eraseIdx_cons_zero] at hw)) | (refine wb_load1 (d := some 11)  rfl (by first | exact hw.read 0 rfl | exact hw.read 1 rfl | exact hw.read 2 rfl | exact hw.read 3 rfl | exact hw.read 4 rfl) (by decide +kernel) (by exact Tmv.c4 _ _) ?_) | (refine wl_run (d := some 13) (rn_cgtr rfl (by exact rfl) (by exact rfl) true (decide_eq_true (by omega))) ?_) | (refine wl_run (d := some 13) (rn_cgtr rfl (by exact rfl) (by exact rfl) false (decide_eq_false (by omega))) ?_))
    have hS0 := hw.gets (Gets.get 0 rfl (Gets.get 0 rfl (Gets.get 0 rfl Gets.nil)))
    refine startS (ds := []) hS0 #[false, false, false, false, false, false, false, false] (by kernel_rfl) rfl (by rfl) ?_
    clear hS0; intro hS
    replace hw := hw.drew; generalize w.drew = w at hw hS ⊢
    (refine takeE (i := 0) (oi := { dst := some 14, op := Op.load 28 (Operand.tmp 2), type := 28, pos := "law.go:49", after := #[], guard := none }) (N := some 14) #[true, false, false, false, false, false, false, false] rfl rfl (by kernel_rfl) (fun _ _ _ _ h => h) hS ?_; apply Exists.intro; refine ⟨Or.inl ⟨by rfl, ?_⟩, ?_⟩; · (intro w0 h; first | (exact rnb_loadA rfl rfl (by first | exact h.read 0 rfl | exact h.read 1 rfl | exact h.read 2 rfl | exact h.read 3 rfl | exact h.read 4 rfl) (by rw [plan_agg, Pl.size])) | (go_simp; with_reducible rfl)))
    try simp only [Act.put, List.setIfInBounds_toArray, List.set_cons_succ, List.set_cons_zero]
    (refine takeE (i := 1) (oi := { dst := some 15, op := Op.load 62 (Operand.tmp 3), type := 62, pos := "law.go:49", after := #[], guard := none }) (N := some 15) #[true, true, false, false, false, false, false, false] rfl rfl (by kernel_rfl) (fun _ _ _ _ h => h) hS ?_; apply Exists.intro; refine ⟨Or.inl ⟨by rfl, ?_⟩, ?_⟩; · (intro w0 h; first | (exact rnb_loadA rfl rfl (by first | exact h.read 0 rfl | exact h.read 1 rfl | exact h.read 2 rfl | exact h.read 3 rfl | exact h.read 4 rfl) (by rw [tm_agg, Tmv.size])) | (go_simp; with_reducible rfl)))
    try simp only [Act.put, List.setIfInBounds_toArray, List.set_cons_succ, List.set_cons_zero]
    (refine takeE (i := 3) (oi := { dst := some 17, op := Op.load 28 (Operand.tmp 2), type := 28, pos := "law.go:49", after := #[], guard := none }) (N := some 17) #[true, true, false, true, false, false, false, false] rfl rfl (by kernel_rfl) (fun _ _ _ _ h => h) hS ?_; apply Exists.intro; refine ⟨Or.inl ⟨by rfl, ?_⟩, ?_⟩; · (intro w0 h; first | (exact rnb_loadA rfl rfl (by first | exact h.read 0 rfl | exact h.read 1 rfl | exact h.read 2 rfl | exact h.read 3 rfl | exact h.read 4 rfl) (by rw [plan_agg, Pl.size])) | (go_simp; with_reducible rfl)))
    try simp only [Act.put, List.setIfInBounds_toArray, List.set_cons_succ, List.set_cons_zero]
    (refine takeE (i := 4) (oi := { dst := some 18, op := Op.load 62 (Operand.tmp 3), type := 62, pos := "law.go:49", after := #[], guard := none }) (N := some 18) #[true, true, false, true, true, false, false, false] rfl rfl (by kernel_rfl) (fun _ _ _ _ h => h) hS ?_; apply Exists.intro; refine ⟨Or.inl ⟨by rfl, ?_⟩, ?_⟩; · (intro w0 h; first | (exact rnb_loadA rfl rfl (by first | exact h.read 0 rfl | exact h.read 1 rfl | exact h.read 2 rfl | exact h.read 3 rfl | exact h.read 4 rfl) (by rw [tm_agg, Tmv.size])) | (go_simp; with_reducible rfl)))
    try simp only [Act.put, List.setIfInBounds_toArray, List.set_cons_succ, List.set_cons_zero]
    (refine one_ (i := 2) (oi := { dst := some 16, op := Op.call { callee := Callee.value (Operand.func 14), args := #[Operand.tmp 14, Operand.tmp 15], argTypes := #[28, 62] }, type := 64, pos := "law.go:49", after := #[eD 0, eD 1], guard := none }) (N := some 16) #[true, true, true, true, true, false, false, false] rfl rfl (by kernel_rfl) (by decide) (fun K hK => ?_); rw [if_pos (by rfl)]; first | (refine wk_call 14 rfl (by kernel_rfl) ?_; simp only [List.map_toArray, List.map_cons, List.map_nil, Act.eval, gd_s, gd_0]; go_must (refine (Calls.mono (prb_Touches (p := p) (t := t) ht hl2 hw) ?_)); clear hw; rintro e w ⟨A1, c1, rfl, hw⟩; rw [hL.out, hn.out]; rw [hL.out, hn.out] at hw; (try simp only [List.set_cons_succ, List.set_cons_zero, List.setIfInBounds_toArray, Value.cells, List.eraseIdx_cons_succ, List.eraseIdx_cons_zero] at hw); refine ⟨_, rfl, ?_⟩) | (refine wk_call 15 rfl (by kernel_rfl) ?_; simp only [List.map_toArray, List.map_cons, List.map_nil, Act.eval, gd_s, gd_0]; go_must (refine (Calls.mono (ref_Touches (p := p) (t := t) ht hl2 hp hw) ?_)); clear hw; rintro e w ⟨A2, c2, rfl, hw⟩; rw [hL.out, hn.out]; rw [hL.out, hn.out] at hw; (try simp only [List.set_cons_succ, List.set_cons_zero, List.setIfInBounds_toArray, Value.cells, List.eraseIdx_cons_succ, List.eraseIdx_cons_zero] at hw); refine ⟨_, rfl, ?_⟩))
    refine hK.out _ _ (Sat.gets hw (by repeat (first | exact Gets.nil | exact Gets.refl _ | refine Gets.get 0 rfl ?_ | refine Gets.get 1 rfl ?_ | refine Gets.get 2 rfl ?_ | refine Gets.get 3 rfl ?_ | refine Gets.get 4 rfl ?_ | refine Gets.get 5 rfl ?_ | refine Gets.drop ?_))) (fun hS => ?_); clear hK K; try simp only [Act.put, List.setIfInBounds_toArray, List.set_cons_succ, List.set_cons_zero]
    (refine one_ (i := 5) (oi := { dst := some 19, op := Op.call { callee := Callee.value (Operand.func 15), args := #[Operand.tmp 17, Operand.tmp 18], argTypes := #[28, 62] }, type := 64, pos := "law.go:49", after := #[eD 3, eD 4, eC 2], guard := none }) (N := some 19) #[true, true, true, true, true, true, false, false] rfl rfl (by kernel_rfl) (by decide) (fun K hK => ?_); rw [if_pos (by rfl)]; first | (refine wk_call 14 rfl (by kernel_rfl) ?_; simp only [List.map_toArray, List.map_cons, List.map_nil, Act.eval, gd_s, gd_0]; go_must (refine (Calls.mono (prb_Touches (p := p) (t := t) ht hl2 hw) ?_)); clear hw; rintro e w ⟨A1, c1, rfl, hw⟩; rw [hL.out, hn.out]; rw [hL.out, hn.out] at hw; (try simp only [List.set_cons_succ, List.set_cons_zero, List.setIfInBounds_toArray, Value.cells, List.eraseIdx_cons_succ, List.eraseIdx_cons_zero] at hw); refine ⟨_, rfl, ?_⟩) | (refine wk_call 15 rfl (by kernel_rfl) ?_; simp only [List.map_toArray, List.map_cons, List.map_nil, Act.eval, gd_s, gd_0]; go_must (refine (Calls.mono (ref_Touches (p := p) (t := t) ht hl2 hp hw) ?_)); clear hw; rintro e w ⟨A2, c2, rfl, hw⟩; rw [hL.out, hn.out]; rw [hL.out, hn.out] at hw; (try simp only [List.set_cons_succ, List.set_cons_zero, List.setIfInBounds_toArray, Value.cells, List.eraseIdx_cons_succ, List.eraseIdx_cons_zero] at hw); refine ⟨_, rfl, ?_⟩))
    refine hK.out _ _ (Sat.gets hw (by repeat (first | exact Gets.nil | exact Gets.refl _ | refine Gets.get 0 rfl ?_ | refine Gets.get 1 rfl ?_ | refine Gets.get 2 rfl ?_ | refine Gets.get 3 rfl ?_ | refine Gets.get 4 rfl ?_ | refine Gets.get 5 rfl ?_ | refine Gets.drop ?_))) (fun hS => ?_); clear hK K; try simp only [Act.put, List.setIfInBounds_toArray, List.set_cons_succ, List.set_cons_zero]
    (refine pureE (i := 6) (oi := { dst := some 5, op := Op.assign (Operand.tmp 16), type := 64, pos := "law.go:49", after := #[eD 2, eC 5, eP 0, eP 1, eP 2, { on := 3, ground := Ground.textOnly Departure.lateStores }, { on := 4, ground := Ground.textOnly Departure.lateStores }, { on := 5, ground := Ground.textOnly Departure.lateStoresUnsure }], guard := none }) (N := some 5) #[true, true, true, true, true, true, true, false] rfl rfl (by kernel_rfl) (fun _ _ _ _ h => h) ?_; apply Exists.intro; refine ⟨Or.inl ⟨by rfl, ?_⟩, ?_⟩; · (intro w0; go_simp; try with_reducible rfl))
    try simp only [Act.put, List.setIfInBounds_toArray, List.set_cons_succ, List.set_cons_zero]
    (refine pureE (i := 7) (oi := { dst := some 6, op := Op.assign (Operand.tmp 19), type := 64, pos := "law.go:49", after := #[eD 5, eC 6, eP 0, eP 1, eP 2, eP 3, eP 4, eP 5, eP 6], guard := none }) (N := some 6) #[true, true, true, true, true, true, true, true] rfl rfl (by kernel_rfl) (fun _ _ _ _ h => h) ?_; apply Exists.intro; refine ⟨Or.inl ⟨by rfl, ?_⟩, ?_⟩; · (intro w0; go_simp; try with_reducible rfl))
    try simp only [Act.put, List.setIfInBounds_toArray, List.set_cons_succ, List.set_cons_zero]
    refine done_ (by kernel_rfl) ?_; clear hS
    go_wp2_with (first | (refine wl_run (d := some 24) (rn_cneq rfl (by exact rfl) (by exact rfl) true (decide_eq_true (by omega))) ?_) | (refine wl_run (d := some 24) (rn_cneq rfl (by exact rfl) (by exact rfl) false (decide_eq_false (by omega))) ?_))
    go_loopw [27] (fun i wr => ∃ k : Nat, k ≤ n ∧ i = .int .i64 k ∧ Sat (World.env W) wr (RowN 69 5 (.slice A2 n c2) n Plc.cs L :: RowN 69 5 (.slice A1 n c1) n Plc.cs L :: [Old W])) (fun i _ => n - (intOf i).toNat)
    case atStart => exact ⟨0, by omega, rfl, (Sat.gets hw (by repeat (first | exact Gets.nil | exact Gets.refl _ | refine Gets.get 0 rfl ?_ | refine Gets.get 1 rfl ?_ | refine Gets.get 2 rfl ?_ | refine Gets.get 3 rfl ?_ | refine Gets.get 4 rfl ?_ | refine Gets.get 5 rfl ?_ | refine Gets.drop ?_)))⟩
    case round =>
      clear hw
      obtain ⟨k, hk, rfl, hw⟩ := hrel
      by_cases hlt : k < n
      · obtain ⟨g2, rfl⟩ := row_gb (n := n) hw 0 rfl (by omega)
        obtain ⟨g1, rfl⟩ := row_gb (n := n) hw 1 rfl (by omega)
        obtain ⟨x, hx⟩ : ∃ x, L[k]? = some x := ⟨_, List.getElem?_eq_getElem (by rw [hn.out]; exact hlt)⟩
        have hc := Kp.mk (rowN_cells (f := Plc.cs) Plc.size hx)
        have HXS := Kp.mk (hsm.out x (List.mem_of_getElem? hx))
        have HS := Kp.mk (show (!same x.cs x.cs) = false by rw [same_self]; rfl)
        clear hx
        go_upto_region 11 with (first | (refine wl_run (d := some 28) (rn_clss rfl (by exact rfl) (by exact rfl) true (decide_eq_true (by omega))) ?_) | (refine wl_run (d := some 28) (rn_clss rfl (by exact rfl) (by exact rfl) false (decide_eq_false (by omega))) ?_))
        have hS0 := hw.gets (Gets.get 0 rfl (Gets.get 0 rfl Gets.nil))
        refine startS (ds := []) hS0 #[false, false, false, false, false, false, false, false, false] (by kernel_rfl) rfl (by rfl) ?_
        clear hS0; intro hS
        replace hw := hw.drew; generalize w.drew = w at hw hS ⊢
        (refine pureE (i := 0) (oi := { dst := some 30, op := Op.move (Operand.tmp 5), type := 64, pos := "law.go:54", after := #[], guard := none }) (N := some 30) #[true, false, false, false, false, false, false, false, false] rfl rfl (by kernel_rfl) (fun _ _ _ _ h => h) ?_; apply Exists.intro; refine ⟨Or.inl ⟨by rfl, ?_⟩, ?_⟩; · (intro w0; go_simp; try with_reducible rfl))
        try simp only [Act.put, List.setIfInBounds_toArray, List.set_cons_succ, List.set_cons_zero]
        (refine pureE (i := 1) (oi := { dst := some 31, op := Op.move (Operand.tmp 7), type := 3, pos := "law.go:54", after := #[], guard := none }) (N := some 31) #[true, true, false, false, false, false, false, false, false] rfl rfl (by kernel_rfl) (fun _ _ _ _ h => h) ?_; apply Exists.intro; refine ⟨Or.inl ⟨by rfl, ?_⟩, ?_⟩; · (intro w0; go_simp; try with_reducible rfl))
        try simp only [Act.put, List.setIfInBounds_toArray, List.set_cons_succ, List.set_cons_zero]
        (refine pureE (i := 4) (oi := { dst := some 34, op := Op.move (Operand.tmp 6), type := 64, pos := "law.go:54", after := #[], guard := none }) (N := some 34) #[true, true, false, false, true, false, false, false, false] rfl rfl (by kernel_rfl) (fun _ _ _ _ h => h) ?_; apply Exists.intro; refine ⟨Or.inl ⟨by rfl, ?_⟩, ?_⟩; · (intro w0; go_simp; try with_reducible rfl))
        try simp only [Act.put, List.setIfInBounds_toArray, List.set_cons_succ, List.set_cons_zero]
        (refine pureE (i := 5) (oi := { dst := some 35, op := Op.move (Operand.tmp 7), type := 3, pos := "law.go:54", after := #[], guard := none }) (N := some 35) #[true, true, false, false, true, true, false, false, false] rfl rfl (by kernel_rfl) (fun _ _ _ _ h => h) ?_; apply Exists.intro; refine ⟨Or.inl ⟨by rfl, ?_⟩, ?_⟩; · (intro w0; go_simp; try with_reducible rfl))
        try simp only [Act.put, List.setIfInBounds_toArray, List.set_cons_succ, List.set_cons_zero]
        (refine takeE (i := 2) (oi := { dst := some 32, op := Op.indexAddr 64 (Operand.tmp 30) (Operand.tmp 31), type := 0, pos := "law.go:54", after := #[eD 0, eD 1], guard := none }) (N := some 32) #[true, true, true, false, true, true, false, false, false] rfl rfl (by kernel_rfl) (fun _ _ _ _ h => h) hS ?_; apply Exists.intro; refine ⟨Or.inl ⟨by rfl, ?_⟩, ?_⟩; · (intro w0 h; first | (exact rn_rowIdx rfl h 0 rfl rfl k (k * 5) rfl rfl (by kernel_rfl) (by kernel_rfl) (by omega)) | (exact rn_rowIdx rfl h 1 rfl rfl k (k * 5) rfl rfl (by kernel_rfl) (by kernel_rfl) (by omega)) | (go_simp; with_reducible rfl)))
        try simp only [Act.put, List.setIfInBounds_toArray, List.set_cons_succ, List.set_cons_zero]
        (refine takeE (i := 3) (oi := { dst := some 33, op := Op.load 69 (Operand.tmp 32), type := 69, pos := "law.go:54", after := #[eD 2], guard := none }) (N := some 33) #[true, true, true, true, true, true, false, false, false] rfl rfl (by kernel_rfl) (fun _ _ _ _ h => h) hS ?_; apply Exists.intro; refine ⟨Or.inl ⟨by rfl, ?_⟩, ?_⟩; · (intro w0 h; first | (exact rn_rowLdA rfl h 0 rfl rfl x.cs (by rw [Plc.agz, Plc.size]) hc.out) | (exact rn_rowLdA rfl h 1 rfl rfl x.cs (by rw [Plc.agz, Plc.size]) hc.out) | (go_simp; with_reducible rfl)))
        try simp only [Act.put, List.setIfInBounds_toArray, List.set_cons_succ, List.set_cons_zero]
        (refine takeE (i := 6) (oi := { dst := some 36, op := Op.indexAddr 64 (Operand.tmp 34) (Operand.tmp 35), type := 0, pos := "law.go:54", after := #[eD 4, eD 5], guard := none }) (N := some 36) #[true, true, true, true, true, true, true, false, false] rfl rfl (by kernel_rfl) (fun _ _ _ _ h => h) hS ?_; apply Exists.intro; refine ⟨Or.inl ⟨by rfl, ?_⟩, ?_⟩; · (intro w0 h; first | (exact rn_rowIdx rfl h 0 rfl rfl k (k * 5) rfl rfl (by kernel_rfl) (by kernel_rfl) (by omega)) | (exact rn_rowIdx rfl h 1 rfl rfl k (k * 5) rfl rfl (by kernel_rfl) (by kernel_rfl) (by omega)) | (go_simp; with_reducible rfl)))
        try simp only [Act.put, List.setIfInBounds_toArray, List.set_cons_succ, List.set_cons_zero]
        (refine takeE (i := 7) (oi := { dst := some 37, op := Op.load 69 (Operand.tmp 36), type := 69, pos := "law.go:54", after := #[eD 6], guard := none }) (N := some 37) #[true, true, true, true, true, true, true, true, false] rfl rfl (by kernel_rfl) (fun _ _ _ _ h => h) hS ?_; apply Exists.intro; refine ⟨Or.inl ⟨by rfl, ?_⟩, ?_⟩; · (intro w0 h; first | (exact rn_rowLdA rfl h 0 rfl rfl x.cs (by rw [Plc.agz, Plc.size]) hc.out) | (exact rn_rowLdA rfl h 1 rfl rfl x.cs (by rw [Plc.agz, Plc.size]) hc.out) | (go_simp; with_reducible rfl)))
        try simp only [Act.put, List.setIfInBounds_toArray, List.set_cons_succ, List.set_cons_zero]
        (refine pureE (i := 8) (oi := { dst := some 38, op := Op.binOp BinOp.neq 69 (Operand.tmp 33) (Operand.tmp 37) 69, type := 4, pos := "law.go:54", after := #[eD 3, eD 7], guard := none }) (N := some 38) #[true, true, true, true, true, true, true, true, true] rfl rfl (by kernel_rfl) (fun _ _ _ _ h => h) ?_; apply Exists.intro; refine ⟨Or.inl ⟨by rfl, ?_⟩, ?_⟩; · (intro w0; first | (exact rn_neqB rfl x.cs x.cs rfl rfl Plc.kinds (by omega) Plc.sm Plc.eqg HXS.out HXS.out _ HS.out) | (go_simp; try with_reducible rfl)))
        try simp only [Act.put, List.setIfInBounds_toArray, List.set_cons_succ, List.set_cons_zero]
        refine done_ (by kernel_rfl) ?_; clear hS
        go_wp2_with (first | (refine wl_run (d := some 39) (rn_cadd rfl (by exact rfl) (by exact rfl) _ rfl (by omega)) ?_))
        go_roundw
        case rel => exact ⟨k + 1, by omega, by go_num, hw⟩
        case measure => simp [intOf]; omega
      · obtain rfl : n = k := by omega
        go_wp2_with (first | (refine wl_run (d := some 28) (rn_clss rfl (by exact rfl) (by exact rfl) true (decide_eq_true (by omega))) ?_) | (refine wl_run (d := some 28) (rn_clss rfl (by exact rfl) (by exact rfl) false (decide_eq_false (by omega))) ?_))
        go_ret
        exact ⟨rfl, (Sat.gets hw (by repeat (first | exact Gets.nil | exact Gets.refl _ | refine Gets.get 0 rfl ?_ | refine Gets.get 1 rfl ?_ | refine Gets.get 2 rfl ?_ | refine Gets.get 3 rfl ?_ | refine Gets.get 4 rfl ?_ | refine Gets.get 5 rfl ?_ | refine Gets.drop ?_)))⟩
end
end Go.Proofs.Ytklhmlplabkoeaa
