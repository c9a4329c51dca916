/- watch: the list of faults; watch.Cores. Conditions: none. -/
import Derived.Test.YtklhmlplabkoeaaEdg
import Derived.Test.YtklhmlplabkoeaaWchU
set_option linter.unusedVariables false
set_option linter.unusedSimpArgs false
namespace Go.Proofs.Ytklhmlplabkoeaa
open Go.RowKit Go.Bst Go.MapKept Go.Proofs.YtklhmlplabkoeaaW.PrintLast
def fN (k : Nat) : Array Value := #[.int .i64 k]
def Mk.on (m : Mk) : Nat → Bool
  | 1 => m.a
  | 2 => m.k
  | 3 => m.u
  | 5 => m.d
  | _ => false
def faultsL (m : Mk) (j : Nat) : List Nat := (List.range j).filter m.on
theorem Mk.at (m : Mk) {i : Nat} (h : i < 9) : m.cs[i]? = some (.bool (m.on i)) := by
  obtain rfl | rfl | rfl | rfl | rfl | rfl | rfl | rfl | rfl : i = 0 ∨ i = 1 ∨ i = 2 ∨ i = 3 ∨ i = 4 ∨ i = 5 ∨ i = 6 ∨ i = 7 ∨ i = 8 := by omega
  all_goals rfl
theorem faults_yes {m : Mk} {j : Nat} (h : m.on j = true) : faultsL m (j + 1) = faultsL m j ++ [j] := by
  unfold faultsL
  rw [List.range_succ, List.filter_append]; simp [h]
theorem faults_no {m : Mk} {j : Nat} (h : m.on j = false) : faultsL m (j + 1) = faultsL m j := by
  unfold faultsL
  rw [List.range_succ, List.filter_append]; simp [h]
theorem faults_zero (m : Mk) : faultsL m 0 = [] := by unfold faultsL; rfl
theorem fN_one (k : Nat) : (fN k).all (·.oneCell') = true := by simp [fN, Value.oneCell']
theorem fN_size (k : Nat) : (fN k).size = 1 := rfl
theorem faults_len (m : Mk) (j : Nat) : (faultsL m j).length ≤ j := by
  unfold faultsL
  refine Nat.le_trans (List.length_filter_le ..) ?_
  rw [List.length_range]; exact Nat.le_refl _
theorem int_row : (Try.prog.info? 3).map (fun i => (i.zero, i.size, i.bytes)) = some (some (.int .i64 0), 1, 8) := by kernel_rfl
noncomputable def watchF (p : Pl) (cs : List Cov) (bs : List Bav) : List Nat := faultsL (if rightB p then marksF p cs bs else ⟨false, false, false, false⟩) 9
section
variable {E : Env} {w : World} {F : List HP} {p : Pl}
attribute [local irreducible] faultsL marksF Mk.on wpList Calls Code.wp Code.wpN Oper.wp Go.Proofs.YtklhmlplabkoeaaW.PrintLast.wpAnyLast
set_option maxRecDepth 100000 in
set_option maxHeartbeats 4000000 in
theorem wch_list {fb : Nat} {m : Mk} (hw : Sat E w (pt fb (.cells m.cs 73 (0, 0)) :: F)) :
    Calls Try.prog 19 #[.pointer (some ⟨fb, 0, none⟩)] w fun e w' => ∃ A c, e = .returned (.slice A (faultsL m 9).length c) ∧ Sat E w' (RowN 3 1 (.slice A (faultsL m 9).length c) (faultsL m 9).length fN (faultsL m 9) :: pt fb (.cells m.cs 73 (0, 0)) :: F) := by
  go_enter Try.func19, Try.ntmps19
  go_wp2_with (first | (fail))
  replace hw := Row_nil (e := 3) (sz := 1) hw
  go_loopw [6, 2] (fun i o wr => ∃ (j n : Nat) (A : Option Addr) (c : Nat), j ≤ 9 ∧ i = .int .i64 j ∧ o = .slice A n c ∧ n ≤ j ∧ Kp ((faultsL m j).length = n) ∧ Sat E wr (RowN 3 1 (.slice A n c) n fN (faultsL m j) :: pt fb (.cells m.cs 73 (0, 0)) :: F)) (fun i _ _ => 9 - (intOf i).toNat)
  case atStart => exact ⟨0, 0, none, 0, by omega, rfl, rfl, by omega, Kp.mk (by rw [faults_zero]; rfl), by rw [faults_zero]; exact hw⟩
  case round =>
    clear hw
    obtain ⟨j, n, A, c, hj, rfl, rfl, hnj, hn, hw⟩ := hrel
    by_cases hlt : j < 9
    · obtain ⟨z, hz⟩ : ∃ z, Kp (m.on j = z) := ⟨_, Kp.mk rfl⟩
      have hv := Kp.mk (m.at hlt)
      rw [hz.out] at hv
      cases z with
      | true =>
        have hF := Kp.mk (faults_yes hz.out)
        have hF2 := Kp.mk (show (faultsL m (j + 1)).length = n + 1 by rw [hF.out, List.length_append, hn.out]; rfl)
        go_upto_region 3 with (first | (refine wl_run (d := some 7) (rn_clss rfl (by exact rfl) (by exact rfl) true (decide_eq_true (by omega))) ?_) | (refine wl_run (d := some 7) (rn_clss rfl (by exact rfl) (by exact rfl) false (decide_eq_false (by omega))) ?_))
        have hS0 := hw.gets (Gets.get 0 rfl (Gets.get 0 rfl Gets.nil))
        refine startS (ds := []) hS0 #[false, false, false, false, false, false] (by kernel_rfl) rfl (by rfl) ?_
        clear hS0; intro hS
        replace hw := hw.drew; generalize w.drew = w at hw hS ⊢
        (refine pureE (i := 0) (oi := { dst := some 8, op := Op.move (Operand.tmp 6), type := 3, pos := "watch.go:33", after := #[], guard := none }) (N := some 8) #[true, false, false, false, false, false] rfl rfl (by kernel_rfl) (fun _ _ _ _ h => h) ?_; apply Exists.intro; refine ⟨Or.inl ⟨by rfl, ?_⟩, ?_⟩; · (intro w0; go_simp; try with_reducible rfl))
        try simp only [Act.put, List.setIfInBounds_toArray, List.set_cons_succ, List.set_cons_zero]
        (refine pureE (i := 1) (oi := { dst := some 9, op := Op.nilCheck (Operand.tmp 5), type := 0, pos := "watch.go:33", after := #[{ on := 4, ground := Ground.gcOnly Departure.lateStores }], guard := none }) (N := some 9) #[true, true, false, false, false, false] rfl rfl (by kernel_rfl) (fun _ _ _ _ h => h) ?_; apply Exists.intro; refine ⟨Or.inl ⟨by rfl, ?_⟩, ?_⟩; · (intro w0; go_simp; try with_reducible rfl))
        try simp only [Act.put, List.setIfInBounds_toArray, List.set_cons_succ, List.set_cons_zero]
        (refine pureE (i := 4) (oi := { dst := some 3, op := Op.assign (Operand.tmp 8), type := 3, pos := "watch.go:33", after := #[eD 0, eP 0, { on := 1, ground := Ground.textOnly Departure.lateStores }, { on := 2, ground := Ground.textOnly Departure.lateStores }, { on := 3, ground := Ground.textOnly Departure.lateStores }], guard := none }) (N := some 3) #[true, true, false, false, true, false] rfl rfl (by kernel_rfl) (fun _ _ _ _ h => h) ?_; apply Exists.intro; refine ⟨Or.inl ⟨by rfl, ?_⟩, ?_⟩; · (intro w0; go_simp; try with_reducible rfl))
        try simp only [Act.put, List.setIfInBounds_toArray, List.set_cons_succ, List.set_cons_zero]
        (refine takeE (i := 2) (oi := { dst := some 10, op := Op.indexAddr 73 (Operand.tmp 9) (Operand.tmp 6), type := 0, pos := "watch.go:33", after := #[eD 1, { on := 4, ground := Ground.gcOnly Departure.lateStores }], guard := none }) (N := some 10) #[true, true, true, false, true, false] rfl rfl (by kernel_rfl) (fun _ _ _ _ h => h) hS ?_; apply Exists.intro; refine ⟨Or.inl ⟨by rfl, ?_⟩, ?_⟩; · (intro w0 h; first | (exact rn_arrJ rfl rfl rfl u_faults bool_size hlt j (by omega)) | (go_simp; with_reducible rfl)))
        try simp only [Act.put, List.setIfInBounds_toArray, List.set_cons_succ, List.set_cons_zero]
        (refine takeE (i := 3) (oi := { dst := some 11, op := Op.load 4 (Operand.tmp 10), type := 4, pos := "watch.go:33", after := #[eD 2, { on := 4, ground := Ground.gcOnly Departure.lateStores }], guard := none }) (N := some 11) #[true, true, true, true, true, false] rfl rfl (by kernel_rfl) (fun _ _ _ _ h => h) hS ?_; apply Exists.intro; refine ⟨Or.inl ⟨by rfl, ?_⟩, ?_⟩; · (intro w0 h; first | (exact rn_satLd1 rfl h 1 rfl rfl (by decide +kernel) hv.out) | (go_simp; with_reducible rfl)))
        try simp only [Act.put, List.setIfInBounds_toArray, List.set_cons_succ, List.set_cons_zero]
        (refine pureE (i := 5) (oi := { dst := some 4, op := Op.assign (Operand.tmp 11), type := 4, pos := "watch.go:33", after := #[eD 3, eC 4, eP 0, eP 1, eP 2, eP 3, eP 4], guard := none }) (N := some 4) #[true, true, true, true, true, true] rfl rfl (by kernel_rfl) (fun _ _ _ _ h => h) ?_; apply Exists.intro; refine ⟨Or.inl ⟨by rfl, ?_⟩, ?_⟩; · (intro w0; go_simp; try with_reducible rfl))
        try simp only [Act.put, List.setIfInBounds_toArray, List.set_cons_succ, List.set_cons_zero]
        refine done_ (by kernel_rfl) ?_; clear hS
        go_wp2_with (first
          | (refine wl_lit1 (el := 3) (sz := 1) hw (by simp only [Act.eval, Act.put, List.setIfInBounds_toArray, List.set_cons_succ, List.set_cons_zero, gd_s, gd_0, Value.cells]; exact rfl) (by kernel_rfl) (by kernel_rfl) (by kernel_rfl) (by rfl) (by omega) (by omega) ?_; clear hw; intro bL w hw; (try simp only [List.set_cons_succ, List.set_cons_zero, List.setIfInBounds_toArray, Value.cells, List.eraseIdx_cons_succ, List.eraseIdx_cons_zero] at hw))
          | (refine wl_push (f := fN) (x := j) hw 0 rfl rfl rfl (by kernel_rfl) int_row rfl (by decide) (fN_size _) (fN_one _) (by omega) (by decide) ?_; clear hw; intro A' c' w hw; (try simp only [List.set_cons_succ, List.set_cons_zero, List.setIfInBounds_toArray, Value.cells, List.eraseIdx_cons_succ, List.eraseIdx_cons_zero] at hw))
          | (refine wl_run (d := some 17) (rn_cadd rfl (by exact rfl) (by exact rfl) _ rfl (by omega)) ?_))
        go_roundw
        case rel => exact ⟨j + 1, n + 1, _, _, by omega, by go_num, rfl, by omega, hF2, by rw [hF.out]; exact hw⟩
        case measure => simp [intOf]; omega
      | false =>
        have hF := Kp.mk (faults_no hz.out)
        go_upto_region 3 with (first | (refine wl_run (d := some 7) (rn_clss rfl (by exact rfl) (by exact rfl) true (decide_eq_true (by omega))) ?_) | (refine wl_run (d := some 7) (rn_clss rfl (by exact rfl) (by exact rfl) false (decide_eq_false (by omega))) ?_))
        have hS0 := hw.gets (Gets.get 0 rfl (Gets.get 0 rfl Gets.nil))
        refine startS (ds := []) hS0 #[false, false, false, false, false, false] (by kernel_rfl) rfl (by rfl) ?_
        clear hS0; intro hS
        replace hw := hw.drew; generalize w.drew = w at hw hS ⊢
        (refine pureE (i := 0) (oi := { dst := some 8, op := Op.move (Operand.tmp 6), type := 3, pos := "watch.go:33", after := #[], guard := none }) (N := some 8) #[true, false, false, false, false, false] rfl rfl (by kernel_rfl) (fun _ _ _ _ h => h) ?_; apply Exists.intro; refine ⟨Or.inl ⟨by rfl, ?_⟩, ?_⟩; · (intro w0; go_simp; try with_reducible rfl))
        try simp only [Act.put, List.setIfInBounds_toArray, List.set_cons_succ, List.set_cons_zero]
        (refine pureE (i := 1) (oi := { dst := some 9, op := Op.nilCheck (Operand.tmp 5), type := 0, pos := "watch.go:33", after := #[{ on := 4, ground := Ground.gcOnly Departure.lateStores }], guard := none }) (N := some 9) #[true, true, false, false, false, false] rfl rfl (by kernel_rfl) (fun _ _ _ _ h => h) ?_; apply Exists.intro; refine ⟨Or.inl ⟨by rfl, ?_⟩, ?_⟩; · (intro w0; go_simp; try with_reducible rfl))
        try simp only [Act.put, List.setIfInBounds_toArray, List.set_cons_succ, List.set_cons_zero]
        (refine pureE (i := 4) (oi := { dst := some 3, op := Op.assign (Operand.tmp 8), type := 3, pos := "watch.go:33", after := #[eD 0, eP 0, { on := 1, ground := Ground.textOnly Departure.lateStores }, { on := 2, ground := Ground.textOnly Departure.lateStores }, { on := 3, ground := Ground.textOnly Departure.lateStores }], guard := none }) (N := some 3) #[true, true, false, false, true, false] rfl rfl (by kernel_rfl) (fun _ _ _ _ h => h) ?_; apply Exists.intro; refine ⟨Or.inl ⟨by rfl, ?_⟩, ?_⟩; · (intro w0; go_simp; try with_reducible rfl))
        try simp only [Act.put, List.setIfInBounds_toArray, List.set_cons_succ, List.set_cons_zero]
        (refine takeE (i := 2) (oi := { dst := some 10, op := Op.indexAddr 73 (Operand.tmp 9) (Operand.tmp 6), type := 0, pos := "watch.go:33", after := #[eD 1, { on := 4, ground := Ground.gcOnly Departure.lateStores }], guard := none }) (N := some 10) #[true, true, true, false, true, false] rfl rfl (by kernel_rfl) (fun _ _ _ _ h => h) hS ?_; apply Exists.intro; refine ⟨Or.inl ⟨by rfl, ?_⟩, ?_⟩; · (intro w0 h; first | (exact rn_arrJ rfl rfl rfl u_faults bool_size hlt j (by omega)) | (go_simp; with_reducible rfl)))
        try simp only [Act.put, List.setIfInBounds_toArray, List.set_cons_succ, List.set_cons_zero]
        (refine takeE (i := 3) (oi := { dst := some 11, op := Op.load 4 (Operand.tmp 10), type := 4, pos := "watch.go:33", after := #[eD 2, { on := 4, ground := Ground.gcOnly Departure.lateStores }], guard := none }) (N := some 11) #[true, true, true, true, true, false] rfl rfl (by kernel_rfl) (fun _ _ _ _ h => h) hS ?_; apply Exists.intro; refine ⟨Or.inl ⟨by rfl, ?_⟩, ?_⟩; · (intro w0 h; first | (exact rn_satLd1 rfl h 1 rfl rfl (by decide +kernel) hv.out) | (go_simp; with_reducible rfl)))
        try simp only [Act.put, List.setIfInBounds_toArray, List.set_cons_succ, List.set_cons_zero]
        (refine pureE (i := 5) (oi := { dst := some 4, op := Op.assign (Operand.tmp 11), type := 4, pos := "watch.go:33", after := #[eD 3, eC 4, eP 0, eP 1, eP 2, eP 3, eP 4], guard := none }) (N := some 4) #[true, true, true, true, true, true] rfl rfl (by kernel_rfl) (fun _ _ _ _ h => h) ?_; apply Exists.intro; refine ⟨Or.inl ⟨by rfl, ?_⟩, ?_⟩; · (intro w0; go_simp; try with_reducible rfl))
        try simp only [Act.put, List.setIfInBounds_toArray, List.set_cons_succ, List.set_cons_zero]
        refine done_ (by kernel_rfl) ?_; clear hS
        go_wp2_with (first | (refine wl_run (d := some 17) (rn_cadd rfl (by exact rfl) (by exact rfl) _ rfl (by omega)) ?_))
        go_roundw
        case rel => exact ⟨j + 1, n, _, _, by omega, by go_num, rfl, by omega, by rw [hF.out]; exact hn, by rw [hF.out]; exact hw⟩
        case measure => simp [intOf]; omega
    · obtain rfl : j = 9 := by omega
      go_wp2_with (first | (refine wl_run (d := some 7) (rn_clss rfl (by exact rfl) (by exact rfl) true (decide_eq_true (by omega))) ?_) | (refine wl_run (d := some 7) (rn_clss rfl (by exact rfl) (by exact rfl) false (decide_eq_false (by omega))) ?_))
      go_ret
      rw [hn.out]
      exact ⟨_, _, rfl, hw⟩
set_option maxRecDepth 100000 in
theorem wch_Cores {cs : List Cov} {bs : List Bav} {A B : Option Addr} {cap capB : Nat} (hw : Sat E w F)
    (hn : cs.length ≤ 1000) (hr : ∀ w', Sat E w' F → Rd w' 42 (.slice A cs.length cap) cs.length (flat (cs.map Cov.cs))) (hc : ∀ x ∈ cs, NearsRd E F x ∧ NearsIn x)
    (hnb : bs.length ≤ 1000) (hrb : ∀ w', Sat E w' F → Rd w' 44 (.slice B bs.length capB) bs.length (flat (bs.map Bav.cs))) (hf : FarsRd E F bs) (hfi : ∀ b ∈ bs, FarsIn b) :
    Calls Try.prog 8 #[.agg p.cs, .slice A cs.length cap, .slice B bs.length capB] w fun e w' => ∃ A c, e = .returned (.slice A (watchF p cs bs).length c) ∧ Sat E w' (RowN 3 1 (.slice A (watchF p cs bs).length c) (watchF p cs bs).length fN (watchF p cs bs) :: F) := by
  have HR := Kp.mk hr
  have HB := Kp.mk hrb
  have HC := Kp.mk hc
  have HF := Kp.mk hf
  clear hr hrb hc hf
  cases hrt : rightB p with
  | false =>
    have HT := Kp.mk hrt
    have e := Kp.mk (show watchF p cs bs = faultsL ⟨false, false, false, false⟩ 9 by unfold watchF; rw [hrt]; rfl)
    rw [e.out]
    clear hrt
    go_enter Try.func8, Try.ntmps8
    go_wp2_with (first
      | (go_at_call 17; go_must (refine (Calls.mono (wch_right (p := p) hw) ?_)); clear hw; rintro e w ⟨rfl, hw⟩; rw [HT.out]; (try simp only [List.set_cons_succ, List.set_cons_zero, List.setIfInBounds_toArray, Value.cells, List.eraseIdx_cons_succ, List.eraseIdx_cons_zero] at hw))
      | (go_at_call 19; go_must (refine (Calls.mono (wch_list (m := ⟨false, false, false, false⟩) (hw.front 0 rfl)) ?_)); clear hw; rintro e w ⟨A1, c1, rfl, hw⟩; (try simp only [List.set_cons_succ, List.set_cons_zero, List.setIfInBounds_toArray, Value.cells, List.eraseIdx_cons_succ, List.eraseIdx_cons_zero] at hw))
      | (refine wl_box (d := some 3) hw _ (by simp only [Act.eval, Act.put, List.setIfInBounds_toArray, List.set_cons_succ, List.set_cons_zero, gd_s, gd_0, Value.cells]; exact rfl) ?_; clear hw; intro b3 w hw; (try simp only [List.set_cons_succ, List.set_cons_zero, List.setIfInBounds_toArray, Value.cells, List.eraseIdx_cons_succ, List.eraseIdx_cons_zero] at hw)) | (refine wl_alloc (d := some 7) (z := .agg #[.bool false, .bool false, .bool false, .bool false, .bool false, .bool false, .bool false, .bool false, .bool false]) hw (by kernel_rfl) ?_; clear hw; intro b7 w hw; (try simp only [List.set_cons_succ, List.set_cons_zero, List.setIfInBounds_toArray, Value.cells, List.eraseIdx_cons_succ, List.eraseIdx_cons_zero] at hw)) | (refine wb_loadA (d := some 8)  rfl (by first | exact hw.read 0 rfl | exact hw.read 1 rfl | exact hw.read 2 rfl | exact hw.read 3 rfl | exact hw.read 4 rfl) (by rw [plan_agg, Pl.size]) ?_) | (refine wb_loadA (d := some 10)  rfl (by first | exact hw.read 0 rfl | exact hw.read 1 rfl | exact hw.read 2 rfl | exact hw.read 3 rfl | exact hw.read 4 rfl) (by rw [plan_agg, Pl.size]) ?_))
    go_ret
    exact ⟨_, _, rfl, (Sat.gets hw (by repeat (first | exact Gets.nil | exact Gets.refl _ | refine Gets.get 0 rfl ?_ | refine Gets.get 1 rfl ?_ | refine Gets.get 2 rfl ?_ | refine Gets.get 3 rfl ?_ | refine Gets.get 4 rfl ?_ | refine Gets.get 5 rfl ?_ | refine Gets.drop ?_)))⟩
  | true =>
    have HT := Kp.mk hrt
    have e := Kp.mk (show watchF p cs bs = faultsL (marksF p cs bs) 9 by unfold watchF; rw [hrt]; rfl)
    rw [e.out]
    obtain ⟨m, hm⟩ : ∃ m, Kp (marksF p cs bs = m) := ⟨_, Kp.mk rfl⟩
    rw [hm.out]
    go_enter Try.func8, Try.ntmps8
    go_wp2_with (first
      | (go_at_call 17; go_must (refine (Calls.mono (wch_right (p := p) hw) ?_)); clear hw; rintro e w ⟨rfl, hw⟩; rw [HT.out]; (try simp only [List.set_cons_succ, List.set_cons_zero, List.setIfInBounds_toArray, Value.cells, List.eraseIdx_cons_succ, List.eraseIdx_cons_zero] at hw))
      | (go_at_call 18; go_must (refine (Calls.mono (wch_cores (p := p) (cs := cs) (bs := bs) (m0 := ⟨false, false, false, false⟩) rfl hrt hw hn (fun w' hs => HR.out w' (by first | exact hs | exact hs.tail | exact hs.tail.tail | exact hs.tail.tail.tail | exact hs.tail.tail.tail.tail | exact hs.tail.tail.tail.tail.tail | exact hs.tail.tail.tail.tail.tail.tail)) (fun x hx => ⟨⟨(HC.out x hx).1.1, fun w' hs => (HC.out x hx).1.2 w' (by first | exact hs | exact hs.tail | exact hs.tail.tail | exact hs.tail.tail.tail | exact hs.tail.tail.tail.tail | exact hs.tail.tail.tail.tail.tail | exact hs.tail.tail.tail.tail.tail.tail)⟩, (HC.out x hx).2⟩) hnb (fun w' hs => HB.out w' (by first | exact hs | exact hs.tail | exact hs.tail.tail | exact hs.tail.tail.tail | exact hs.tail.tail.tail.tail | exact hs.tail.tail.tail.tail.tail | exact hs.tail.tail.tail.tail.tail.tail)) (fun b hb => ⟨(HF.out b hb).1, fun w' hs => (HF.out b hb).2 w' (by first | exact hs | exact hs.tail | exact hs.tail.tail | exact hs.tail.tail.tail | exact hs.tail.tail.tail.tail | exact hs.tail.tail.tail.tail.tail | exact hs.tail.tail.tail.tail.tail.tail)⟩) hfi) ?_)); clear hw; rintro e w ⟨rfl, hw⟩; rw [hm.out] at hw; (try simp only [List.set_cons_succ, List.set_cons_zero, List.setIfInBounds_toArray, Value.cells, List.eraseIdx_cons_succ, List.eraseIdx_cons_zero] at hw))
      | (go_at_call 19; go_must (refine (Calls.mono (wch_list (m := m) (hw.front 0 rfl)) ?_)); clear hw; rintro e w ⟨A1, c1, rfl, hw⟩; (try simp only [List.set_cons_succ, List.set_cons_zero, List.setIfInBounds_toArray, Value.cells, List.eraseIdx_cons_succ, List.eraseIdx_cons_zero] at hw))
      | (refine wl_box (d := some 3) hw _ (by simp only [Act.eval, Act.put, List.setIfInBounds_toArray, List.set_cons_succ, List.set_cons_zero, gd_s, gd_0, Value.cells]; exact rfl) ?_; clear hw; intro b3 w hw; (try simp only [List.set_cons_succ, List.set_cons_zero, List.setIfInBounds_toArray, Value.cells, List.eraseIdx_cons_succ, List.eraseIdx_cons_zero] at hw)) | (refine wl_alloc (d := some 7) (z := .agg #[.bool false, .bool false, .bool false, .bool false, .bool false, .bool false, .bool false, .bool false, .bool false]) hw (by kernel_rfl) ?_; clear hw; intro b7 w hw; (try simp only [List.set_cons_succ, List.set_cons_zero, List.setIfInBounds_toArray, Value.cells, List.eraseIdx_cons_succ, List.eraseIdx_cons_zero] at hw)) | (refine wb_loadA (d := some 8)  rfl (by first | exact hw.read 0 rfl | exact hw.read 1 rfl | exact hw.read 2 rfl | exact hw.read 3 rfl | exact hw.read 4 rfl) (by rw [plan_agg, Pl.size]) ?_) | (refine wb_loadA (d := some 10)  rfl (by first | exact hw.read 0 rfl | exact hw.read 1 rfl | exact hw.read 2 rfl | exact hw.read 3 rfl | exact hw.read 4 rfl) (by rw [plan_agg, Pl.size]) ?_))
    go_ret
    exact ⟨_, _, rfl, (Sat.gets hw (by repeat (first | exact Gets.nil | exact Gets.refl _ | refine Gets.get 0 rfl ?_ | refine Gets.get 1 rfl ?_ | refine Gets.get 2 rfl ?_ | refine Gets.get 3 rfl ?_ | refine Gets.get 4 rfl ?_ | refine Gets.get 5 rfl ?_ | refine Gets.drop ?_)))⟩
end
end Go.Proofs.Ytklhmlplabkoeaa
