/- The document's watch: bastionref23.Cores. Conditions: none. -/
import Derived.Test.YtklhmlplabkoeaaEdg
import Derived.Test.YtklhmlplabkoeaaWchG
import Derived.Test.YtklhmlplabkoeaaMak
import Derived.Deep.CutRange
set_option linter.unusedVariables false
set_option linter.unusedSimpArgs false
namespace Go.Proofs.Ytklhmlplabkoeaa
open Go.RowKit Go.Bst Go.MapKept Go.Proofs.YtklhmlplabkoeaaW.PrintLast
theorem u_bools : Try.prog.underlying 77 = some (.slice 4) := by kernel_rfl
theorem bool_row : (Try.prog.info? 4).map (fun i => (i.zero, i.size, i.bytes)) = some (some (.bool false), 1, 1) := by kernel_rfl
theorem faults_one (m : Mk) : faultsL m 1 = [] := by rw [faults_no (by rfl), faults_zero]
theorem rd_two {E : Env} {F : List HP} {cs : List Cov} {ga qa cap : Nat} {w : World} (hr : ∀ w', Sat E w' F → Rd w' 42 (.slice (some ⟨ga, qa, none⟩) cs.length cap) cs.length (flat (cs.map Cov.cs))) (hw : Sat E w F) {k : Nat} {y : Cov} (hy : cs[k]? = some y) :
    ∀ w', Sat E w' F → w'.cell? ⟨ga, qa + k * 42 + 6, none⟩ = some (.slice y.A y.ls.length y.cap) := by
  obtain ⟨gb, qb, hBB, hcell⟩ := rd_el (f := Cov.cs) Cov.size (by decide) hr hw hy
  obtain ⟨rfl, rfl⟩ : ga = gb ∧ qa = qb := by simpa using hBB
  exact fun w' h => hcell w' h 6 _ (by simpa using y.c6)
section
variable {E : Env} {w : World} {F : List HP} {p : Pl}
attribute [local irreducible] faultsL marksF Mk.on andI hasF badR knowsB knownF crowdF rowA rowU sharedB unlikeB coreK kR gk gLine gAll dR bR nearP farP lineB mkV wpList Calls Code.wp Code.wpN Oper.wp Go.Proofs.YtklhmlplabkoeaaW.PrintLast.wpAnyLast
theorem mkV_a (m : Mk) : (mkV m)[1]? = some (.bool m.a) := by unfold mkV; rfl
theorem mkV_k (m : Mk) : (mkV m)[2]? = some (.bool m.k) := by unfold mkV; rfl
theorem mkV_u (m : Mk) : (mkV m)[3]? = some (.bool m.u) := by unfold mkV; rfl
theorem mkV_d (m : Mk) : (mkV m)[5]? = some (.bool m.d) := by unfold mkV; rfl
theorem mkV_sa (a k u d z : Bool) : (mkV ⟨a, k, u, d⟩).set 1 (.bool z) = mkV ⟨z, k, u, d⟩ := by unfold mkV; rfl
theorem mkV_sk (a k u d z : Bool) : (mkV ⟨a, k, u, d⟩).set 2 (.bool z) = mkV ⟨a, z, u, d⟩ := by unfold mkV; rfl
theorem mkV_su (a k u d z : Bool) : (mkV ⟨a, k, u, d⟩).set 3 (.bool z) = mkV ⟨a, k, z, d⟩ := by unfold mkV; rfl
theorem mkV_sd (a k u d z : Bool) : (mkV ⟨a, k, u, d⟩).set 5 (.bool z) = mkV ⟨a, k, u, z⟩ := by unfold mkV; rfl
theorem mkV_0 : mkV ⟨false, false, false, false⟩ = List.replicate 9 (.bool false) := by unfold mkV; rfl
set_option maxRecDepth 100000 in
set_option maxHeartbeats 4000000 in
theorem rfw_Faults {g : Nat} {m : Mk} (hw : Sat E w (Row 4 1 (.slice (some ⟨g, 0, none⟩) 9 9) 9 (mkV m) :: F)) :
    Calls Try.prog 25 #[.slice (some ⟨g, 0, none⟩) 9 9] w fun e w' => ∃ A c, e = .returned (.slice A (faultsL m 9).length c) ∧ Sat E w' (RowN 3 1 (.slice A (faultsL m 9).length c) (faultsL m 9).length fN (faultsL m 9) :: Row 4 1 (.slice (some ⟨g, 0, none⟩) 9 9) 9 (mkV m) :: F) := by
  have h1 := Kp.mk (faults_one m)
  go_enter Try.func25, Try.ntmps25
  go_wp2_with (first
    | (refine wl_lit0 (el := 3) (sz := 1) hw (by kernel_rfl) (by kernel_rfl) ?_; clear hw; intro bz w hw; (try simp only [List.set_cons_succ, List.set_cons_zero, List.setIfInBounds_toArray, Value.cells, List.eraseIdx_cons_succ, List.eraseIdx_cons_zero] at hw))
    | (fail))
  go_loopw [4, 3] (fun i o wr => ∃ (j n : Nat) (A : Option Addr) (c : Nat), 1 ≤ j ∧ j ≤ 9 ∧ i = .int .i64 j ∧ o = .slice A n c ∧ n ≤ j ∧ Kp ((faultsL m j).length = n) ∧ Sat E wr (RowN 3 1 (.slice A n c) n fN (faultsL m j) :: Row 4 1 (.slice (some ⟨g, 0, none⟩) 9 9) 9 (mkV m) :: F)) (fun i _ _ => 9 - (intOf i).toNat)
  case atStart => exact ⟨1, 0, _, _, by omega, by omega, rfl, rfl, by omega, Kp.mk (by rw [h1.out]; rfl), by rw [h1.out]; exact hw⟩
  case round =>
    clear hw
    obtain ⟨j, n, A, c, hj1, hj, rfl, rfl, hnj, hn, hw⟩ := hrel
    by_cases hlt : j < 9
    · obtain ⟨z, hz⟩ : ∃ z, Kp (m.on j = z) := ⟨_, Kp.mk rfl⟩
      have hv := Kp.mk (mkV_at m hlt)
      rw [hz.out] at hv
      cases z with
      | true =>
        have hF := Kp.mk (faults_yes hz.out)
        have hF2 := Kp.mk (show (faultsL m (j + 1)).length = n + 1 by rw [hF.out, List.length_append, hn.out]; rfl)
        go_wp2_with (first
          | (refine wl_run (d := some 14) (rn_rowIdx rfl hw 1 rfl rfl j j (Nat.mul_one _) rfl u_bools bool_size hlt) ?_)
          | (refine wl_run (d := some 15) (rn_rowLd1 rfl hw 1 rfl rfl (by decide +kernel) _ hv.out) ?_)
          | (refine wl_lit1 (el := 3) (sz := 1) hw (by simp only [Act.eval, Act.put, List.setIfInBounds_toArray, List.set_cons_succ, List.set_cons_zero, gd_s, gd_0, Value.cells]; exact rfl) (by kernel_rfl) (by kernel_rfl) (by kernel_rfl) (by rfl) (by omega) (by omega) ?_; clear hw; intro bL w hw; (try simp only [List.set_cons_succ, List.set_cons_zero, List.setIfInBounds_toArray, Value.cells, List.eraseIdx_cons_succ, List.eraseIdx_cons_zero] at hw))
          | (refine wl_push (f := fN) (x := j) hw 0 rfl rfl rfl (by as_aux_lemma => kernel_rfl) int_row rfl (by decide) (fN_size _) (fN_one _) (by omega) (by decide) ?_; clear hw; intro A' c' w hw; (try simp only [List.set_cons_succ, List.set_cons_zero, List.setIfInBounds_toArray, Value.cells, List.eraseIdx_cons_succ, List.eraseIdx_cons_zero] at hw))
          | (refine wl_run (d := some 9) (rn_clss rfl (by exact rfl) (by exact rfl) true (decide_eq_true (by omega))) ?_) | (refine wl_run (d := some 9) (rn_clss rfl (by exact rfl) (by exact rfl) false (decide_eq_false (by omega))) ?_) | (refine wl_run (d := some 11) (rn_cadd rfl (by exact rfl) (by exact rfl) _ rfl (by omega)) ?_))
        go_roundw
        case rel => exact ⟨j + 1, n + 1, _, _, by omega, by omega, by go_num, rfl, by omega, hF2, by rw [hF.out]; exact hw⟩
        case measure => simp [intOf]; omega
      | false =>
        have hF := Kp.mk (faults_no hz.out)
        go_wp2_with (first
          | (refine wl_run (d := some 14) (rn_rowIdx rfl hw 1 rfl rfl j j (Nat.mul_one _) rfl u_bools bool_size hlt) ?_)
          | (refine wl_run (d := some 15) (rn_rowLd1 rfl hw 1 rfl rfl (by decide +kernel) _ hv.out) ?_)
          | (refine wl_run (d := some 9) (rn_clss rfl (by exact rfl) (by exact rfl) true (decide_eq_true (by omega))) ?_) | (refine wl_run (d := some 9) (rn_clss rfl (by exact rfl) (by exact rfl) false (decide_eq_false (by omega))) ?_) | (refine wl_run (d := some 11) (rn_cadd rfl (by exact rfl) (by exact rfl) _ rfl (by omega)) ?_))
        go_roundw
        case rel => exact ⟨j + 1, n, _, _, by omega, by omega, by go_num, rfl, by omega, by rw [hF.out]; exact hn, by rw [hF.out]; exact hw⟩
        case measure => simp [intOf]; omega
    · obtain rfl : j = 9 := by omega
      go_wp2_with (first | (refine wl_run (d := some 9) (rn_clss rfl (by exact rfl) (by exact rfl) true (decide_eq_true (by omega))) ?_) | (refine wl_run (d := some 9) (rn_clss rfl (by exact rfl) (by exact rfl) false (decide_eq_false (by omega))) ?_))
      go_ret
      rw [hn.out]
      exact ⟨_, _, rfl, hw⟩
set_option maxRecDepth 100000 in
set_option maxHeartbeats 16000000 in
theorem rfw_Cores {cs : List Cov} {bs : List Bav} {A B : Option Addr} {cap capB : Nat} (hp : p.Ok) (hrt : rightB p = true) (hw : Sat E w F)
    (hn : cs.length ≤ 1000) (hr : ∀ w', Sat E w' F → Rd w' 42 (.slice A cs.length cap) cs.length (flat (cs.map Cov.cs))) (hc : ∀ x ∈ cs, NearsRd E F x ∧ NearsIn x)
    (hnb : bs.length ≤ 1000) (hrb : ∀ w', Sat E w' F → Rd w' 44 (.slice B bs.length capB) bs.length (flat (bs.map Bav.cs))) (hf : FarsRd E F bs) (hfi : ∀ b ∈ bs, FarsIn b) :
    Calls Try.prog 9 #[.agg p.cs, .slice A cs.length cap, .slice B bs.length capB] w fun e w' => ∃ A c, e = .returned (.slice A (faultsL (marksF p cs bs) 9).length c) ∧ Sat E w' (RowN 3 1 (.slice A (faultsL (marksF p cs bs) 9).length c) (faultsL (marksF p cs bs) 9).length fN (faultsL (marksF p cs bs) 9) :: F) := by
  have HR := Kp.mk hr
  have HB := Kp.mk hrb
  have HC := Kp.mk hc
  have HF := Kp.mk hf
  have HFI := Kp.mk hfi
  have h6 := right_six hrt
  have HT := Kp.mk hrt
  clear hr hrb hc hf hfi
  obtain ⟨M, hM⟩ : ∃ M, Kp (cs.length = M) := ⟨_, Kp.mk rfl⟩
  rw [hM.out] at hn ⊢
  obtain ⟨N, hN⟩ : ∃ N, Kp (bs.length = N) := ⟨_, Kp.mk rfl⟩
  rw [hN.out] at hnb ⊢
  go_enter Try.func9, Try.ntmps9
  go_wp2_with (first
    | (go_at_call 20; go_must (refine (Calls.mono (ref_right (p := p) hw hp) ?_)); clear hw; rintro e w ⟨rfl, hw⟩; rw [HT.out]; (try simp only [List.set_cons_succ, List.set_cons_zero, List.setIfInBounds_toArray, Value.cells, List.eraseIdx_cons_succ, List.eraseIdx_cons_zero] at hw))
    | (refine wl_make1 (d := some 19) hw 9 9 rfl rfl u_bools bool_row rfl (by omega) (by omega) (by omega) ?_; clear hw; intro g w hw)
    | (refine wl_box (d := some 3) hw _ (by simp only [Act.eval, Act.put, List.setIfInBounds_toArray, List.set_cons_succ, List.set_cons_zero, gd_s, gd_0, Value.cells]; exact rfl) ?_; clear hw; intro b3 w hw; (try simp only [List.set_cons_succ, List.set_cons_zero, List.setIfInBounds_toArray, Value.cells, List.eraseIdx_cons_succ, List.eraseIdx_cons_zero] at hw)) | (refine wb_loadA (d := some 20)  rfl (by first | exact hw.read 0 rfl | exact hw.read 1 rfl | exact hw.read 2 rfl | exact hw.read 3 rfl | exact hw.read 4 rfl) (by rw [plan_agg, Pl.size]) ?_))
  rw [← mkV_0] at hw
  go_loopw [8] (fun i wr => ∃ (j : Nat) (m : Mk), j ≤ M ∧ i = .int .i64 j ∧ Kp ((m.a || gAll rowA cs j (cs.drop j)) = aR [] cs) ∧ Kp ((m.k || kR p bs j (cs.drop j)) = kR p bs 0 cs) ∧ Kp ((m.u || gAll rowU cs j (cs.drop j)) = uR [] cs) ∧ Kp ((m.d || dR p (cs.drop j)) = dR p cs) ∧ Sat E wr (Row 4 1 (.slice (some ⟨g, 0, none⟩) 9 9) 9 (mkV m) :: pt b3 (.cells p.cs 28 (0, 0)) :: F)) (fun i _ => M - (intOf i).toNat)
  case atStart => exact ⟨0, ⟨false, false, false, false⟩, by omega, rfl, Kp.mk (by rw [List.drop_zero, aR_all, Bool.false_or]), Kp.mk (by rw [List.drop_zero, Bool.false_or]), Kp.mk (by rw [List.drop_zero, uR_all, Bool.false_or]), Kp.mk (by rw [List.drop_zero, Bool.false_or]), (Sat.gets hw (by repeat (first | exact Gets.nil | exact Gets.refl _ | refine Gets.get 0 rfl ?_ | refine Gets.get 1 rfl ?_ | refine Gets.get 2 rfl ?_ | refine Gets.get 3 rfl ?_ | refine Gets.get 4 rfl ?_ | refine Gets.get 5 rfl ?_ | refine Gets.drop ?_)))⟩
  case round =>
    clear hw
    obtain ⟨j, m, hj, rfl, hA, hK, hU, hD, hw⟩ := hrel
    by_cases hlt : j < M
    · obtain ⟨u, hu⟩ : ∃ u, cs[j]? = some u := ⟨_, List.getElem?_eq_getElem (by rw [hM.out]; exact hlt)⟩
      obtain ⟨ga, qa, hAA, hcell⟩ := rd_el (f := Cov.cs) Cov.size (by decide) HR.out (by first | exact hw | exact hw.tail | exact hw.tail.tail | exact hw.tail.tail.tail | exact hw.tail.tail.tail.tail | exact hw.tail.tail.tail.tail.tail | exact hw.tail.tail.tail.tail.tail.tail) hu
      subst hAA
      have hnr := (HC.out u (List.mem_of_getElem? hu)).1
      have hni := Kp.mk (HC.out u (List.mem_of_getElem? hu)).2
      obtain ⟨L, hL⟩ : ∃ L, Kp (u.ls.length = L) := ⟨_, Kp.mk rfl⟩
      obtain ⟨A1, hA1⟩ : ∃ A1, Kp (u.A = A1) := ⟨_, Kp.mk rfl⟩
      obtain ⟨hl1000, hlr⟩ := hnr
      have HLR := Kp.mk hlr
      rw [hA1.out] at HLR
      rw [hL.out] at hl1000
      have HU6 := Kp.mk (show ∀ w', Sat E w' F → w'.cell? ⟨ga, qa + j * 42 + 6, none⟩ = some (.slice A1 L u.cap) from fun w' h => by have := hcell w' h 6 _ (by simpa using u.c6); rw [hA1.out, hL.out] at this; exact this)
      obtain ⟨ma, mk, mu, md⟩ := m
      dsimp only at hA hK hU hD hw
      have hA := hA.out
      have hK := hK.out
      have hU := hU.out
      have hD := hD.out
      rw [drop_get hu, gAll_cons, ← Bool.or_assoc] at hA
      rw [drop_get hu, kR_cons, ← Bool.or_assoc] at hK
      rw [drop_get hu, gAll_cons, ← Bool.or_assoc] at hU
      obtain ⟨zb, hzb⟩ : ∃ zb, Kp (badR p.nw (u.ls.map (nearP p)) [] (u.ls.map (nearP p)) = zb) := ⟨_, Kp.mk rfl⟩
      have hbc : (!crowdF p.nw [] (u.ls.map (nearP p))) = zb := by rw [← hzb.out]; exact (bad_crowd (g := fun k => Int.tmod k p.ns) (near_g p u.ls)).symm
      rw [drop_get hu, dR_cons, hbc, ← Bool.or_assoc] at hD
      have GA := Kp.mk hA
      have GK := Kp.mk hK
      have GU := Kp.mk hU
      have GD := Kp.mk hD
      clear hA hK hU hD hlr hcell hu hbc
      go_upto_region 7 with (first | (refine wl_run (d := some 27) (rn_clss rfl (by exact rfl) (by exact rfl) true (decide_eq_true (by omega))) ?_) | (refine wl_run (d := some 27) (rn_clss rfl (by exact rfl) (by exact rfl) false (decide_eq_false (by omega))) ?_))
      try simp only [Act.put, List.setIfInBounds_toArray, List.set_cons_succ, List.set_cons_zero]
      go_cut [] from 24 to 184 (fun wc => Sat E wc (Row 4 1 (.slice (some ⟨g, 0, none⟩) 9 9) 9 (mkV ⟨ma, mk, mu, md || zb⟩) :: pt b3 (.cells p.cs 28 (0, 0)) :: F))
      case first =>
        as_aux_lemma =>
         cases md
         all_goals (
           go_upto_region 7 with (fail)
           have hS0 := hw
           refine startS (ds := [14]) hS0 #[false, false, false, false, false, false, false, false, false, false, false, false, false, false, false] (by kernel_rfl) rfl (by rfl) ?_
           clear hS0; intro hS
           replace hw := hw.drew; generalize w.drew = w at hw hS ⊢
           (refine pureE (i := 0) (oi := { dst := some 30, op := Op.move (Operand.tmp 7), type := 77, pos := "ref.go:74", after := #[], guard := none }) (N := some 30) #[true, false, false, false, false, false, false, false, false, false, false, false, false, false, false] rfl rfl (by as_aux_lemma => kernel_rfl) (fun _ _ _ _ h => h) ?_; apply Exists.intro; refine ⟨Or.inl ⟨by rfl, ?_⟩, ?_⟩; · (intro w0; go_simp; try with_reducible rfl))
           try simp only [Act.put, List.setIfInBounds_toArray, List.set_cons_succ, List.set_cons_zero]
           (refine pureE (i := 1) (oi := { dst := some 31, op := Op.move (Operand.tmp 7), type := 77, pos := "ref.go:74", after := #[], guard := none }) (N := some 31) #[true, true, false, false, false, false, false, false, false, false, false, false, false, false, false] rfl rfl (by as_aux_lemma => kernel_rfl) (fun _ _ _ _ h => h) ?_; apply Exists.intro; refine ⟨Or.inl ⟨by rfl, ?_⟩, ?_⟩; · (intro w0; go_simp; try with_reducible rfl))
           try simp only [Act.put, List.setIfInBounds_toArray, List.set_cons_succ, List.set_cons_zero]
           (refine takeE (i := 2) (oi := { dst := some 32, op := Op.indexAddr 77 (Operand.tmp 31) (Operand.const (Value.int IntKind.i64 5)), type := 0, pos := "ref.go:74", after := #[eD 1], guard := none }) (N := some 32) #[true, true, true, false, false, false, false, false, false, false, false, false, false, false, false] rfl rfl (by as_aux_lemma => kernel_rfl) (fun _ _ _ _ h => h) hS ?_; apply Exists.intro; refine ⟨Or.inl ⟨by rfl, ?_⟩, ?_⟩; · (intro w0 h; first | (exact rn_rowIdx rfl h 0 rfl rfl 5 5 rfl rfl u_bools bool_size (by omega)) | (exact rn_rdIdx rfl rfl rfl u_cores cov_info hlt) | (go_simp; with_reducible rfl)))
           try simp only [Act.put, List.setIfInBounds_toArray, List.set_cons_succ, List.set_cons_zero]
           (refine takeE (i := 3) (oi := { dst := some 33, op := Op.load 4 (Operand.tmp 32), type := 4, pos := "ref.go:74", after := #[eD 2], guard := none }) (N := some 33) #[true, true, true, true, false, false, false, false, false, false, false, false, false, false, false] rfl rfl (by as_aux_lemma => kernel_rfl) (fun _ _ _ _ h => h) hS ?_; apply Exists.intro; refine ⟨Or.inl ⟨by rfl, ?_⟩, ?_⟩; · (intro w0 h; first | (exact rn_rowLd1 rfl h 0 rfl rfl (by decide +kernel) _ (mkV_d _)) | (exact rn_rdLd1 rfl rfl (by decide +kernel) (HU6.out _ (by first | exact h | exact h.tail | exact h.tail.tail | exact h.tail.tail.tail | exact h.tail.tail.tail.tail | exact h.tail.tail.tail.tail.tail | exact h.tail.tail.tail.tail.tail.tail))) | (go_simp; with_reducible rfl)))
           try simp only [Act.put, List.setIfInBounds_toArray, List.set_cons_succ, List.set_cons_zero]
           (refine pureE (i := 4) (oi := { dst := some 34, op := Op.move (Operand.tmp 33), type := 4, pos := "ref.go:74", after := #[eD 3], guard := none }) (N := some 34) #[true, true, true, true, true, false, false, false, false, false, false, false, false, false, false] rfl rfl (by as_aux_lemma => kernel_rfl) (fun _ _ _ _ h => h) ?_; apply Exists.intro; refine ⟨Or.inl ⟨by rfl, ?_⟩, ?_⟩; · (intro w0; go_simp; try with_reducible rfl))
           try simp only [Act.put, List.setIfInBounds_toArray, List.set_cons_succ, List.set_cons_zero]
           refine pureE (i := 6) (oi := { dst := some 36, op := Op.move (Operand.tmp 1), type := 29, pos := "ref.go:74", after := #[eG 4], guard := some (4, false) }) (N := some 36) #[true, true, true, true, true, false, true, false, false, false, false, false, false, false, false] rfl rfl (by as_aux_lemma => kernel_rfl) (fun _ _ _ _ h => h) ?_; first | (apply Exists.intro; refine ⟨Or.inl ⟨by rfl, ?_⟩, ?_⟩; · (intro w0; go_simp; try with_reducible rfl)) | (refine ⟨undef, Or.inr ⟨by rfl, rfl⟩, ?_⟩)
           try simp only [Act.put, List.setIfInBounds_toArray, List.set_cons_succ, List.set_cons_zero]
           refine pureE (i := 7) (oi := { dst := some 37, op := Op.move (Operand.tmp 8), type := 3, pos := "ref.go:74", after := #[eG 4], guard := some (4, false) }) (N := some 37) #[true, true, true, true, true, false, true, true, false, false, false, false, false, false, false] rfl rfl (by as_aux_lemma => kernel_rfl) (fun _ _ _ _ h => h) ?_; first | (apply Exists.intro; refine ⟨Or.inl ⟨by rfl, ?_⟩, ?_⟩; · (intro w0; go_simp; try with_reducible rfl)) | (refine ⟨undef, Or.inr ⟨by rfl, rfl⟩, ?_⟩)
           try simp only [Act.put, List.setIfInBounds_toArray, List.set_cons_succ, List.set_cons_zero]
           first | (refine takeE (i := 5) (oi := { dst := some 35, op := Op.load 28 (Operand.tmp 3), type := 28, pos := "ref.go:74", after := #[eG 4], guard := some (4, false) }) (N := some 35) #[true, true, true, true, true, true, true, true, false, false, false, false, false, false, false] rfl rfl (by as_aux_lemma => kernel_rfl) (fun _ _ _ _ h => h) hS ?_; apply Exists.intro; refine ⟨Or.inl ⟨by rfl, ?_⟩, ?_⟩; · (intro w0 h; first | (exact rnb_loadA rfl rfl (by first | exact h.read 0 rfl | exact h.read 1 rfl | exact h.read 2 rfl | exact h.read 3 rfl | exact h.read 4 rfl) (by rw [plan_agg, Pl.size])) | (go_simp; with_reducible rfl))) | (refine pureE (i := 5) (oi := { dst := some 35, op := Op.load 28 (Operand.tmp 3), type := 28, pos := "ref.go:74", after := #[eG 4], guard := some (4, false) }) (N := some 35) #[true, true, true, true, true, true, true, true, false, false, false, false, false, false, false] rfl rfl (by as_aux_lemma => kernel_rfl) (fun _ _ _ _ h => h) ⟨undef, Or.inr ⟨by rfl, rfl⟩, ?_⟩)
           try simp only [Act.put, List.setIfInBounds_toArray, List.set_cons_succ, List.set_cons_zero]
           first | (refine takeE (i := 8) (oi := { dst := some 38, op := Op.indexAddr 29 (Operand.tmp 36) (Operand.tmp 37), type := 0, pos := "ref.go:74", after := #[eD 6, eD 7, eG 4], guard := some (4, false) }) (N := some 38) #[true, true, true, true, true, true, true, true, true, false, false, false, false, false, false] rfl rfl (by as_aux_lemma => kernel_rfl) (fun _ _ _ _ h => h) hS ?_; apply Exists.intro; refine ⟨Or.inl ⟨by rfl, ?_⟩, ?_⟩; · (intro w0 h; first | (exact rn_rowIdx rfl h 0 rfl rfl 5 5 rfl rfl u_bools bool_size (by omega)) | (exact rn_rdIdx rfl rfl rfl u_cores cov_info hlt) | (go_simp; with_reducible rfl))) | (refine pureE (i := 8) (oi := { dst := some 38, op := Op.indexAddr 29 (Operand.tmp 36) (Operand.tmp 37), type := 0, pos := "ref.go:74", after := #[eD 6, eD 7, eG 4], guard := some (4, false) }) (N := some 38) #[true, true, true, true, true, true, true, true, true, false, false, false, false, false, false] rfl rfl (by as_aux_lemma => kernel_rfl) (fun _ _ _ _ h => h) ⟨undef, Or.inr ⟨by rfl, rfl⟩, ?_⟩)
           try simp only [Act.put, List.setIfInBounds_toArray, List.set_cons_succ, List.set_cons_zero]
           refine pureE (i := 9) (oi := { dst := some 39, op := Op.fieldAddr 40 (Operand.tmp 38) 2, type := 0, pos := "ref.go:74", after := #[eD 8, eG 4], guard := some (4, false) }) (N := some 39) #[true, true, true, true, true, true, true, true, true, true, false, false, false, false, false] rfl rfl (by as_aux_lemma => kernel_rfl) (fun _ _ _ _ h => h) ?_; first | (apply Exists.intro; refine ⟨Or.inl ⟨by rfl, ?_⟩, ?_⟩; · (intro w0; go_simp; try with_reducible rfl)) | (refine ⟨undef, Or.inr ⟨by rfl, rfl⟩, ?_⟩)
           try simp only [Act.put, List.setIfInBounds_toArray, List.set_cons_succ, List.set_cons_zero]
           first | (refine takeE (i := 10) (oi := { dst := some 40, op := Op.load 34 (Operand.tmp 39), type := 34, pos := "ref.go:74", after := #[eD 9, eG 4], guard := some (4, false) }) (N := some 40) #[true, true, true, true, true, true, true, true, true, true, true, false, false, false, false] rfl rfl (by as_aux_lemma => kernel_rfl) (fun _ _ _ _ h => h) hS ?_; apply Exists.intro; refine ⟨Or.inl ⟨by rfl, ?_⟩, ?_⟩; · (intro w0 h; first | (exact rn_rowLd1 rfl h 0 rfl rfl (by decide +kernel) _ (mkV_d _)) | (exact rn_rdLd1 rfl rfl (by decide +kernel) (HU6.out _ (by first | exact h | exact h.tail | exact h.tail.tail | exact h.tail.tail.tail | exact h.tail.tail.tail.tail | exact h.tail.tail.tail.tail.tail | exact h.tail.tail.tail.tail.tail.tail))) | (go_simp; with_reducible rfl))) | (refine pureE (i := 10) (oi := { dst := some 40, op := Op.load 34 (Operand.tmp 39), type := 34, pos := "ref.go:74", after := #[eD 9, eG 4], guard := some (4, false) }) (N := some 40) #[true, true, true, true, true, true, true, true, true, true, true, false, false, false, false] rfl rfl (by as_aux_lemma => kernel_rfl) (fun _ _ _ _ h => h) ⟨undef, Or.inr ⟨by rfl, rfl⟩, ?_⟩)
           try simp only [Act.put, List.setIfInBounds_toArray, List.set_cons_succ, List.set_cons_zero]
           first | (refine one_ (i := 11) (oi := { dst := some 41, op := Op.call { callee := Callee.value (Operand.func 21), args := #[Operand.tmp 35, Operand.tmp 40], argTypes := #[28, 34] }, type := 4, pos := "ref.go:74", after := #[eD 5, eD 10, eC 4, eG 4], guard := some (4, false) }) (N := some 41) #[true, true, true, true, true, true, true, true, true, true, true, true, false, false, false] rfl rfl (by as_aux_lemma => kernel_rfl) (by decide) (fun K hK => ?_); rw [if_pos (by rfl)]; first | (refine wk_call 21 rfl (by kernel_rfl) ?_; simp only [List.map_toArray, List.map_cons, List.map_nil, Act.eval, gd_s, gd_0]; go_must (refine (Calls.mono (rfw_Near (p := p) (ls := u.ls) hrt hw hL.out hl1000 (fun w' hs => HLR.out w' (by first | exact hs | exact hs.tail | exact hs.tail.tail | exact hs.tail.tail.tail | exact hs.tail.tail.tail.tail | exact hs.tail.tail.tail.tail.tail | exact hs.tail.tail.tail.tail.tail.tail))) ?_)); clear hw; rintro e w ⟨rfl, hw⟩; rw [hzb.out]; (try simp only [List.set_cons_succ, List.set_cons_zero, List.setIfInBounds_toArray, Value.cells, List.eraseIdx_cons_succ, List.eraseIdx_cons_zero] at hw); refine ⟨_, rfl, ?_⟩)) | (refine pureE (i := 11) (oi := { dst := some 41, op := Op.call { callee := Callee.value (Operand.func 21), args := #[Operand.tmp 35, Operand.tmp 40], argTypes := #[28, 34] }, type := 4, pos := "ref.go:74", after := #[eD 5, eD 10, eC 4, eG 4], guard := some (4, false) }) (N := some 41) #[true, true, true, true, true, true, true, true, true, true, true, true, false, false, false] rfl rfl (by as_aux_lemma => kernel_rfl) (fun _ _ _ _ h => h) ⟨undef, Or.inr ⟨by rfl, rfl⟩, ?_⟩)
           (try (refine hK.out _ _ (Sat.gets hw (by repeat (first | exact Gets.nil | exact Gets.refl _ | refine Gets.get 0 rfl ?_ | refine Gets.get 1 rfl ?_ | refine Gets.get 2 rfl ?_ | refine Gets.get 3 rfl ?_ | refine Gets.get 4 rfl ?_ | refine Gets.get 5 rfl ?_ | refine Gets.drop ?_))) (fun hS => ?_); clear hK K)); try simp only [Act.put, List.setIfInBounds_toArray, List.set_cons_succ, List.set_cons_zero]
           (refine pureE (i := 12) (oi := { dst := some 42, op := Op.pick (Operand.tmp 34) (Operand.const (Value.bool true)) (Operand.tmp 41), type := 4, pos := "ref.go:74", after := #[eD 4, eD 11], guard := none }) (N := some 42) #[true, true, true, true, true, true, true, true, true, true, true, true, true, false, false] rfl rfl (by as_aux_lemma => kernel_rfl) (fun _ _ _ _ h => h) ?_; apply Exists.intro; refine ⟨Or.inl ⟨by rfl, ?_⟩, ?_⟩; · (intro w0; go_simp; try with_reducible rfl))
           try simp only [Act.put, List.setIfInBounds_toArray, List.set_cons_succ, List.set_cons_zero]
           (refine takeE (i := 13) (oi := { dst := some 43, op := Op.indexAddr 77 (Operand.tmp 30) (Operand.const (Value.int IntKind.i64 5)), type := 0, pos := "ref.go:74", after := #[eD 0, eP 0, eP 1, eP 2, eP 3, eP 4, eP 5, eP 6, eP 7, eP 8, eP 9, eP 10, eP 11, eP 12], guard := none }) (N := some 43) #[true, true, true, true, true, true, true, true, true, true, true, true, true, true, false] rfl rfl (by as_aux_lemma => kernel_rfl) (fun _ _ _ _ h => h) hS ?_; apply Exists.intro; refine ⟨Or.inl ⟨by rfl, ?_⟩, ?_⟩; · (intro w0 h; first | (exact rn_rowIdx rfl h 0 rfl rfl 5 5 rfl rfl u_bools bool_size (by omega)) | (exact rn_rdIdx rfl rfl rfl u_cores cov_info hlt) | (go_simp; with_reducible rfl)))
           try simp only [Act.put, List.setIfInBounds_toArray, List.set_cons_succ, List.set_cons_zero]
           (refine last_ (i := 14) (oi := { dst := none, op := Op.store 4 (Operand.tmp 43) (Operand.tmp 42), type := 0, pos := "ref.go:74", after := #[eD 13, eD 12, eC 11, eP 0, eP 1, eP 2, eP 3, eP 4, eP 5, eP 6, eP 7, eP 8, eP 9, eP 10, eP 11, eP 12], guard := none }) (N := none) #[true, true, true, true, true, true, true, true, true, true, true, true, true, true, true] rfl rfl (by as_aux_lemma => kernel_rfl) (by decide) (fun K hK => ?_); rw [if_pos (by rfl)]; first | (refine wk_rowStore1 hw rfl rfl 0 rfl (by omega) (.bool _) rfl (by decide +kernel) rfl ?_; clear hw; intro w hw; (try simp only [List.set_cons_succ, List.set_cons_zero, List.setIfInBounds_toArray, Value.cells, List.eraseIdx_cons_succ, List.eraseIdx_cons_zero] at hw); rw [mkV_sd] at hw))
           refine hK.out _ _ ?_; clear hK K; try simp only [Act.put, List.setIfInBounds_toArray, List.set_cons_succ, List.set_cons_zero]
           refine done_ (by as_aux_lemma => kernel_rfl) ?_; clear hS
           go_wp2
           go_meet
           case rel => exact (Sat.gets hw (by repeat (first | exact Gets.nil | exact Gets.refl _ | refine Gets.get 0 rfl ?_ | refine Gets.get 1 rfl ?_ | refine Gets.get 2 rfl ?_ | refine Gets.get 3 rfl ?_ | refine Gets.get 4 rfl ?_ | refine Gets.get 5 rfl ?_ | refine Gets.drop ?_))))
      case rest =>
        clear hw
        have hw := hcut
        clear hcut
        have hdz : (md || zb) = (md || zb) := rfl
        obtain ⟨md2, hmd2⟩ : ∃ md2, Kp ((md || zb) = md2) := ⟨_, Kp.mk rfl⟩
        rw [hmd2.out] at GD hw
        clear hdz
        go_wp2_with (first | (fail))
        go_loopw [9] (fun i wr => ∃ (a : Nat) (m : Mk), a ≤ L ∧ i = .int .i64 a ∧ Kp ((m.a || gLine rowA cs j (u.ls.drop a)) = (ma || gLine rowA cs j u.ls)) ∧ Kp ((m.k || coreK p bs j (u.ls.drop a)) = (mk || coreK p bs j u.ls)) ∧ Kp ((m.u || gLine rowU cs j (u.ls.drop a)) = (mu || gLine rowU cs j u.ls)) ∧ Kp (m.d = md2) ∧ Sat E wr (Row 4 1 (.slice (some ⟨g, 0, none⟩) 9 9) 9 (mkV m) :: pt b3 (.cells p.cs 28 (0, 0)) :: F)) (fun i _ => L - (intOf i).toNat)
        case atStart => exact ⟨0, ⟨ma, mk, mu, md2⟩, by omega, rfl, Kp.mk rfl, Kp.mk rfl, Kp.mk rfl, Kp.mk rfl, hw⟩
        case round =>
          clear hw
          obtain ⟨a, m, ha, rfl, hA, hK, hU, hD, hw⟩ := hrel
          obtain ⟨na, nk, nu, nd⟩ := m
          dsimp only at hA hK hU hD hw
          have hA := hA.out
          have hK := hK.out
          have hU := hU.out
          obtain rfl := hD.out
          by_cases hlt2 : a < L
          · obtain ⟨x, hx⟩ : ∃ x, u.ls[a]? = some x := ⟨_, List.getElem?_eq_getElem (by rw [hL.out]; exact hlt2)⟩
            obtain ⟨gb, qb, hBB, hcell⟩ := rd_el (f := Nev.cs) Nev.size (by decide) HLR.out (by first | exact hw | exact hw.tail | exact hw.tail.tail | exact hw.tail.tail.tail | exact hw.tail.tail.tail.tail | exact hw.tail.tail.tail.tail.tail | exact hw.tail.tail.tail.tail.tail.tail) hx
            subst hBB
            have HX := Kp.mk hcell
            rw [drop_get hx, gLine_cons, ← Bool.or_assoc] at hA
            rw [drop_get hx, coreK_cons, ← Bool.or_assoc] at hK
            rw [drop_get hx, gLine_cons, ← Bool.or_assoc] at hU
            have IA := Kp.mk hA
            have IK := Kp.mk hK
            have IU := Kp.mk hU
            clear hA hK hU hcell hx
            obtain ⟨ok, hok⟩ : ∃ ok, Kp (lineB p x.line = ok) := ⟨_, Kp.mk rfl⟩
            obtain ⟨kn, hkn⟩ : ∃ kn, Kp (knownF p bs x.line j = kn) := ⟨_, Kp.mk rfl⟩
            rw [hkn.out] at IK
            go_upto_region 13 with (first
              | (refine wl_run (rn_rdIdx rfl rfl rfl u_cores cov_info hlt) ?_)
              | (refine wl_run (rn_rdIdx rfl rfl rfl u_nears nev_info hlt2) ?_)
              | (refine wl_run (rn_rdLd1 rfl rfl (by decide +kernel) (HU6.out _ (by first | exact hw | exact hw.tail | exact hw.tail.tail | exact hw.tail.tail.tail | exact hw.tail.tail.tail.tail | exact hw.tail.tail.tail.tail.tail | exact hw.tail.tail.tail.tail.tail.tail))) ?_)
              | (refine wl_run (d := some 61) (rn_rdLdA (m := x.cs) rfl rfl (by rw [nev_agg, Nev.size]) (HX.out _ (by first | exact hw | exact hw.tail | exact hw.tail.tail | exact hw.tail.tail.tail | exact hw.tail.tail.tail.tail | exact hw.tail.tail.tail.tail.tail | exact hw.tail.tail.tail.tail.tail.tail))) ?_)
              | (refine wl_run (d := some 51) (rn_clss rfl (by exact rfl) (by exact rfl) true (decide_eq_true (by omega))) ?_) | (refine wl_run (d := some 51) (rn_clss rfl (by exact rfl) (by exact rfl) false (decide_eq_false (by omega))) ?_) | (refine wl_alloc (d := some 10) hw nev_zero ?_; clear hw; intro b10 w hw; (try simp only [List.set_cons_succ, List.set_cons_zero, List.setIfInBounds_toArray, Value.cells, List.eraseIdx_cons_succ, List.eraseIdx_cons_zero] at hw)) | (refine wb_storeA (x := Operand.tmp 10) hw rfl rfl (by first | exact Upd.mk 0 rfl | exact Upd.mk 1 rfl | exact Upd.mk 2 rfl | exact Upd.mk 3 rfl | exact Upd.mk 4 rfl | exact Upd.mk 5 rfl | exact Upd.mk 6 rfl | exact Upd.mk 7 rfl | exact Upd.mk 8 rfl) (by rw [nev_info, Nev.size]) (by rw [Nev.size, Nev.size]) (by exact Nev.one _) ?_; clear hw; intro w hw; (try simp only [List.set_cons_succ, List.set_cons_zero, List.setIfInBounds_toArray, Value.cells, List.eraseIdx_cons_succ, List.eraseIdx_cons_zero] at hw)))
            try simp only [Act.put, List.setIfInBounds_toArray, List.set_cons_succ, List.set_cons_zero]
            go_cut [75] from 44 to 184 (fun v wc => v = .bool (ok && decide (Int.tmod x.line p.banks < (N : Int))) ∧ Sat E wc (pt b10 (.cells x.cs 38 (0, 0)) :: Row 4 1 (.slice (some ⟨g, 0, none⟩) 9 9) 9 (mkV ⟨na, nk, nu, nd⟩) :: pt b3 (.cells p.cs 28 (0, 0)) :: F))
            case first =>
              as_aux_lemma =>
               obtain ⟨r, hr⟩ : ∃ r, Kp (Int.tmod x.line p.banks = r) := ⟨_, Kp.mk rfl⟩
               have hr0 := hr
               obtain ⟨lx, hlx⟩ : ∃ lx, Kp (x.line = lx) := ⟨_, Kp.mk rfl⟩
               have c0 := Kp.mk (show x.cs[0]? = some (.int .i64 lx) by rw [x.c0, hlx.out])
               rw [hlx.out] at hok hr
               have hrN : r < (N : Int) ∨ ¬ r < (N : Int) := by omega
               cases ok <;> rcases hrN with h1 | h1
               all_goals (
                 go_wp2_with (first
                   | (go_at_call 22; go_must (refine (Calls.mono (rfw_line (p := p) (n := lx) hrt hw) ?_)); clear hw; rintro e w ⟨rfl, hw⟩; rw [hok.out]; (try simp only [List.set_cons_succ, List.set_cons_zero, List.setIfInBounds_toArray, Value.cells, List.eraseIdx_cons_succ, List.eraseIdx_cons_zero] at hw))
                   | (refine wb_load1 (d := some 64) rfl (hw.read 0 rfl) (by decide +kernel) c0.out ?_)
                   | (refine wg_load1 (d := some 68) (by rfl) rfl (hw.read 0 rfl) (by decide +kernel) c0.out ?_)
                   | (refine wg_run (d := some 71) (by rfl) (rn_ctmodE r hr.out rfl (by exact rfl) (by exact rfl) (by omega) (by omega)) ?_)
                   | (refine wb_loadA (d := some 62)  rfl (by first | exact hw.read 0 rfl | exact hw.read 1 rfl | exact hw.read 2 rfl | exact hw.read 3 rfl | exact hw.read 4 rfl) (by rw [plan_agg, Pl.size]) ?_) | (refine wb_load1 (d := some 64)  rfl (by first | exact hw.read 0 rfl | exact hw.read 1 rfl | exact hw.read 2 rfl | exact hw.read 3 rfl | exact hw.read 4 rfl) (by decide +kernel) (by exact Nev.c0 _) ?_) | (refine wg_load1 (d := some 68) (by rfl)  rfl (by first | exact hw.read 0 rfl | exact hw.read 1 rfl | exact hw.read 2 rfl | exact hw.read 3 rfl | exact hw.read 4 rfl) (by decide +kernel) (by exact Nev.c0 _) ?_) | (refine wg_load1 (d := some 70) (by rfl)  rfl (by first | exact hw.read 0 rfl | exact hw.read 1 rfl | exact hw.read 2 rfl | exact hw.read 3 rfl | exact hw.read 4 rfl) (by decide +kernel) (by exact Pl.c1 _) ?_) | (refine wg_run (d := some 71) (by rfl) (rn_irem rfl (by exact rfl) (by exact rfl) (by omega) (by omega)) ?_) | (refine wg_run (d := some 74) (by rfl) (rn_clss rfl (by exact rfl) (by exact rfl) true (decide_eq_true (by omega))) ?_) | (refine wg_run (d := some 74) (by rfl) (rn_clss rfl (by exact rfl) (by exact rfl) false (decide_eq_false (by omega))) ?_))
                 go_meet
                 case rel => exact ⟨by rw [hr0.out]; simp [h1], (Sat.gets hw (by repeat (first | exact Gets.nil | exact Gets.refl _ | refine Gets.get 0 rfl ?_ | refine Gets.get 1 rfl ?_ | refine Gets.get 2 rfl ?_ | refine Gets.get 3 rfl ?_ | refine Gets.get 4 rfl ?_ | refine Gets.get 5 rfl ?_ | refine Gets.drop ?_)))⟩)
            case rest =>
              clear hw
              obtain ⟨rfl, hw⟩ := hcut
              obtain ⟨z, hz⟩ : ∃ z, Kp ((ok && decide (Int.tmod x.line p.banks < (N : Int))) = z) := ⟨_, Kp.mk rfl⟩
              rw [hz.out]
              go_upto_if 75 with (fail)
              try simp only [Act.put, List.setIfInBounds_toArray, List.set_cons_succ, List.set_cons_zero]
              go_cut [11, 12, 13] from 44 to 184 (fun v l i wc => v = .bool kn ∧ Sat E wc (pt b10 (.cells x.cs 38 (0, 0)) :: Row 4 1 (.slice (some ⟨g, 0, none⟩) 9 9) 9 (mkV ⟨na, nk, nu, nd⟩) :: pt b3 (.cells p.cs 28 (0, 0)) :: F))
              case first =>
                as_aux_lemma =>
                 cases z with
                 | false =>
                   have hkf : kn = false := by
                     have h := hz.out
                     rw [Bool.and_eq_false_iff, decide_eq_false_iff_not] at h
                     rw [← hkn.out]
                     cases hk0 : lineB p x.line with
                     | false => exact knownF_no hk0
                     | true =>
                       rcases h with h | h
                       · rw [hok.out] at hk0; rw [hk0] at h; cases h
                       · obtain ⟨k, hk, _⟩ := bank_in hk0
                         exact knownF_out hk (by rw [hN.out]; omega)
                   subst hkf
                   go_wp2
                   go_meet
                   case rel => exact ⟨rfl, hw⟩
                 | true =>
                   have h := hz.out
                   rw [Bool.and_eq_true, decide_eq_true_eq] at h
                   have hk0 : lineB p x.line = true := by rw [hok.out]; exact h.1
                   obtain ⟨k, hk, hk4⟩ := bank_in hk0
                   have hkN : k < N := by omega
                   obtain ⟨bk, hbk⟩ : ∃ bk, bs[k]? = some bk := ⟨_, List.getElem?_eq_getElem (by rw [hN.out]; exact hkN)⟩
                   have hkk := Kp.mk ((knownF_at (c := (j : Int)) hk0 hk hbk).symm.trans hkn.out)
                   obtain ⟨gc, qc, hCC, hcell⟩ := rd_el (f := Bav.cs) Bav.size (by decide) HB.out (by first | exact hw | exact hw.tail | exact hw.tail.tail | exact hw.tail.tail.tail | exact hw.tail.tail.tail.tail | exact hw.tail.tail.tail.tail.tail | exact hw.tail.tail.tail.tail.tail.tail) hbk
                   subst hCC
                   obtain ⟨hbl, hbr⟩ := HF.out bk (List.mem_of_getElem? hbk)
                   obtain ⟨LB, hLB⟩ : ∃ LB, Kp (bk.ls.length = LB) := ⟨_, Kp.mk rfl⟩
                   obtain ⟨A3, hA3⟩ : ∃ A3, Kp (bk.A = A3) := ⟨_, Kp.mk rfl⟩
                   have HBR := Kp.mk hbr
                   rw [hA3.out] at HBR
                   rw [hLB.out] at hbl
                   have HB6 := Kp.mk (show ∀ w', Sat E w' F → w'.cell? ⟨gc, qc + k * 44 + 43, none⟩ = some (.slice A3 LB bk.cap) from fun w' h => by have := hcell w' h 43 _ (by simpa using bk.c43); rw [hA3.out, hLB.out] at this; exact this)
                   obtain ⟨lx, hlx⟩ : ∃ lx, Kp (x.line = lx) := ⟨_, Kp.mk rfl⟩
                   have c0 := Kp.mk (show x.cs[0]? = some (.int .i64 lx) by rw [x.c0, hlx.out])
                   rw [hlx.out] at hk hkk
                   have HK := Kp.mk hk
                   clear hk hk0 h hcell hbk hbr
                   go_wp2_with (first
                     | (refine wb_load1 (d := some 78) rfl (hw.read 0 rfl) (by decide +kernel) c0.out ?_)
                     | (refine wl_run (d := some 81) (rn_ctmodE (k : Int) HK.out rfl (by exact rfl) (by exact rfl) (by omega) (by omega)) ?_)
                     | (refine wl_run (d := some 82) (rn_rdIdx rfl rfl rfl u_banks bav_info hkN) ?_)
                     | (refine wl_run (d := some 84) (rn_rdLd1 rfl rfl (by decide +kernel) (HB6.out _ (by first | exact hw | exact hw.tail | exact hw.tail.tail | exact hw.tail.tail.tail | exact hw.tail.tail.tail.tail | exact hw.tail.tail.tail.tail.tail | exact hw.tail.tail.tail.tail.tail.tail))) ?_)
                     | (refine wb_load1 (d := some 78)  rfl (by first | exact hw.read 0 rfl | exact hw.read 1 rfl | exact hw.read 2 rfl | exact hw.read 3 rfl | exact hw.read 4 rfl) (by decide +kernel) (by exact Nev.c0 _) ?_) | (refine wb_load1 (d := some 80)  rfl (by first | exact hw.read 0 rfl | exact hw.read 1 rfl | exact hw.read 2 rfl | exact hw.read 3 rfl | exact hw.read 4 rfl) (by decide +kernel) (by exact Pl.c1 _) ?_) | (refine wl_run (d := some 81) (rn_irem rfl (by exact rfl) (by exact rfl) (by omega) (by omega)) ?_))
                   go_loopw [13, 11] (fun i v wr => ∃ (b : Nat) (kn2 : Bool), b ≤ LB ∧ i = .int .i64 b ∧ v = .bool kn2 ∧ Kp ((kn2 || knowsB lx j (bk.ls.drop b)) = kn) ∧ Sat E wr (pt b10 (.cells x.cs 38 (0, 0)) :: Row 4 1 (.slice (some ⟨g, 0, none⟩) 9 9) 9 (mkV ⟨na, nk, nu, nd⟩) :: pt b3 (.cells p.cs 28 (0, 0)) :: F)) (fun i _ _ => LB - (intOf i).toNat)
                   case atStart => exact ⟨0, false, by omega, rfl, rfl, Kp.mk (by rw [List.drop_zero, hkk.out, Bool.false_or]), hw⟩
                   case round =>
                     clear hw
                     obtain ⟨b, kn2, hb, rfl, rfl, hkr, hw⟩ := hrel
                     by_cases hlt3 : b < LB
                     · obtain ⟨y, hy⟩ : ∃ y, bk.ls[b]? = some y := ⟨_, List.getElem?_eq_getElem (by rw [hLB.out]; exact hlt3)⟩
                       obtain ⟨gd, qd, hDD, hcell⟩ := rd_el (f := Fav.cs) Fav.size (by decide) HBR.out (by first | exact hw | exact hw.tail | exact hw.tail.tail | exact hw.tail.tail.tail | exact hw.tail.tail.tail.tail | exact hw.tail.tail.tail.tail.tail | exact hw.tail.tail.tail.tail.tail.tail) hy
                       subst hDD
                       have HY := Kp.mk hcell
                       have HY0 := Kp.mk (show ∀ w', Sat E w' F → w'.cell? ⟨gd, qd + b * 36, none⟩ = some (.int .i64 y.line) from fun w' h => hcell w' h 0 _ (by simpa using y.c0))
                       have hkr := hkr.out
                       rw [drop_get hy, knows_cons, ← Bool.or_assoc] at hkr
                       obtain ⟨hz2, hhz⟩ : ∃ hz2, Kp (hasF y j = hz2) := ⟨_, Kp.mk rfl⟩
                       rw [hhz.out] at hkr
                       have HKR := Kp.mk hkr
                       clear hcell hy hkr
                       have hcs : kn2 = true ∨ (kn2 = false ∧ ¬ y.line = lx) ∨ (kn2 = false ∧ y.line = lx) := by
                         cases kn2
                         · by_cases h : y.line = lx
                           · exact .inr (.inr ⟨rfl, h⟩)
                           · exact .inr (.inl ⟨rfl, h⟩)
                         · exact .inl rfl
                       rcases hcs with h1 | ⟨h1, h2⟩ | ⟨h1, h2⟩
                       all_goals (
                         subst h1
                         go_upto_region 18 with (first | (refine wl_run (d := some 88) (rn_clss rfl (by exact rfl) (by exact rfl) true (decide_eq_true (by omega))) ?_) | (refine wl_run (d := some 88) (rn_clss rfl (by exact rfl) (by exact rfl) false (decide_eq_false (by omega))) ?_))
                         have hS0 := hw
                         refine startS (ds := []) hS0 #[false, false, false, false, false, false, false, false, false, false, false, false, false, false, false, false, false, false, false, false] (by kernel_rfl) rfl (by rfl) ?_
                         clear hS0; intro hS
                         replace hw := hw.drew; generalize w.drew = w at hw hS ⊢
                         (refine pureE (i := 0) (oi := { dst := some 91, op := Op.move (Operand.tmp 11), type := 4, pos := "ref.go:81", after := #[], guard := none }) (N := some 91) #[true, false, false, false, false, false, false, false, false, false, false, false, false, false, false, false, false, false, false, false] rfl rfl (by as_aux_lemma => kernel_rfl) (fun _ _ _ _ h => h) ?_; apply Exists.intro; refine ⟨Or.inl ⟨by rfl, ?_⟩, ?_⟩; · (intro w0; go_simp; try with_reducible rfl))
                         try simp only [Act.put, List.setIfInBounds_toArray, List.set_cons_succ, List.set_cons_zero]
                         (refine pureE (i := 1) (oi := { dst := some 92, op := Op.move (Operand.tmp 91), type := 4, pos := "ref.go:81", after := #[eD 0], guard := none }) (N := some 92) #[true, true, false, false, false, false, false, false, false, false, false, false, false, false, false, false, false, false, false, false] rfl rfl (by as_aux_lemma => kernel_rfl) (fun _ _ _ _ h => h) ?_; apply Exists.intro; refine ⟨Or.inl ⟨by rfl, ?_⟩, ?_⟩; · (intro w0; go_simp; try with_reducible rfl))
                         try simp only [Act.put, List.setIfInBounds_toArray, List.set_cons_succ, List.set_cons_zero]
                         refine pureE (i := 2) (oi := { dst := some 93, op := Op.move (Operand.tmp 12), type := 43, pos := "ref.go:81", after := #[eG 1], guard := some (1, false) }) (N := some 93) #[true, true, true, false, false, false, false, false, false, false, false, false, false, false, false, false, false, false, false, false] rfl rfl (by as_aux_lemma => kernel_rfl) (fun _ _ _ _ h => h) ?_; first | (apply Exists.intro; refine ⟨Or.inl ⟨by rfl, ?_⟩, ?_⟩; · (intro w0; go_simp; try with_reducible rfl)) | (refine ⟨undef, Or.inr ⟨by rfl, rfl⟩, ?_⟩)
                         try simp only [Act.put, List.setIfInBounds_toArray, List.set_cons_succ, List.set_cons_zero]
                         refine pureE (i := 3) (oi := { dst := some 94, op := Op.move (Operand.tmp 13), type := 3, pos := "ref.go:81", after := #[eG 1], guard := some (1, false) }) (N := some 94) #[true, true, true, true, false, false, false, false, false, false, false, false, false, false, false, false, false, false, false, false] rfl rfl (by as_aux_lemma => kernel_rfl) (fun _ _ _ _ h => h) ?_; first | (apply Exists.intro; refine ⟨Or.inl ⟨by rfl, ?_⟩, ?_⟩; · (intro w0; go_simp; try with_reducible rfl)) | (refine ⟨undef, Or.inr ⟨by rfl, rfl⟩, ?_⟩)
                         try simp only [Act.put, List.setIfInBounds_toArray, List.set_cons_succ, List.set_cons_zero]
                         refine pureE (i := 7) (oi := { dst := some 98, op := Op.fieldAddr 38 (Operand.tmp 10) 0, type := 0, pos := "ref.go:81", after := #[eG 1], guard := some (1, false) }) (N := some 98) #[true, true, true, true, false, false, false, true, false, false, false, false, false, false, false, false, false, false, false, false] rfl rfl (by as_aux_lemma => kernel_rfl) (fun _ _ _ _ h => h) ?_; first | (apply Exists.intro; refine ⟨Or.inl ⟨by rfl, ?_⟩, ?_⟩; · (intro w0; go_simp; try with_reducible rfl)) | (refine ⟨undef, Or.inr ⟨by rfl, rfl⟩, ?_⟩)
                         try simp only [Act.put, List.setIfInBounds_toArray, List.set_cons_succ, List.set_cons_zero]
                         first | (refine takeE (i := 4) (oi := { dst := some 95, op := Op.indexAddr 43 (Operand.tmp 93) (Operand.tmp 94), type := 0, pos := "ref.go:81", after := #[eD 2, eD 3, eG 1], guard := some (1, false) }) (N := some 95) #[true, true, true, true, true, false, false, true, false, false, false, false, false, false, false, false, false, false, false, false] rfl rfl (by as_aux_lemma => kernel_rfl) (fun _ _ _ _ h => h) hS ?_; apply Exists.intro; refine ⟨Or.inl ⟨by rfl, ?_⟩, ?_⟩; · (intro w0 h; first | (exact rn_rdIdx rfl rfl rfl u_fars fav_info hlt3) | (go_simp; with_reducible rfl))) | (refine pureE (i := 4) (oi := { dst := some 95, op := Op.indexAddr 43 (Operand.tmp 93) (Operand.tmp 94), type := 0, pos := "ref.go:81", after := #[eD 2, eD 3, eG 1], guard := some (1, false) }) (N := some 95) #[true, true, true, true, true, false, false, true, false, false, false, false, false, false, false, false, false, false, false, false] rfl rfl (by as_aux_lemma => kernel_rfl) (fun _ _ _ _ h => h) ⟨undef, Or.inr ⟨by rfl, rfl⟩, ?_⟩)
                         try simp only [Act.put, List.setIfInBounds_toArray, List.set_cons_succ, List.set_cons_zero]
                         refine pureE (i := 5) (oi := { dst := some 96, op := Op.fieldAddr 81 (Operand.tmp 95) 0, type := 0, pos := "ref.go:81", after := #[eD 4, eG 1], guard := some (1, false) }) (N := some 96) #[true, true, true, true, true, true, false, true, false, false, false, false, false, false, false, false, false, false, false, false] rfl rfl (by as_aux_lemma => kernel_rfl) (fun _ _ _ _ h => h) ?_; first | (apply Exists.intro; refine ⟨Or.inl ⟨by rfl, ?_⟩, ?_⟩; · (intro w0; go_simp; try with_reducible rfl)) | (refine ⟨undef, Or.inr ⟨by rfl, rfl⟩, ?_⟩)
                         try simp only [Act.put, List.setIfInBounds_toArray, List.set_cons_succ, List.set_cons_zero]
                         first | (refine takeE (i := 6) (oi := { dst := some 97, op := Op.load 3 (Operand.tmp 96), type := 3, pos := "ref.go:81", after := #[eD 5, eG 1], guard := some (1, false) }) (N := some 97) #[true, true, true, true, true, true, true, true, false, false, false, false, false, false, false, false, false, false, false, false] rfl rfl (by as_aux_lemma => kernel_rfl) (fun _ _ _ _ h => h) hS ?_; apply Exists.intro; refine ⟨Or.inl ⟨by rfl, ?_⟩, ?_⟩; · (intro w0 h; first | (exact rnb_load1 rfl rfl (by first | exact h.read 0 rfl | exact h.read 1 rfl) (by decide +kernel) c0.out) | (exact rn_rdLd1 rfl rfl (by decide +kernel) (HY0.out _ (by first | exact h | exact h.tail | exact h.tail.tail | exact h.tail.tail.tail | exact h.tail.tail.tail.tail | exact h.tail.tail.tail.tail.tail | exact h.tail.tail.tail.tail.tail.tail))) | (exact rn_rdLdA (m := y.cs) rfl rfl (by rw [fav_agg, Fav.size]) (HY.out _ (by first | exact h | exact h.tail | exact h.tail.tail | exact h.tail.tail.tail | exact h.tail.tail.tail.tail | exact h.tail.tail.tail.tail.tail | exact h.tail.tail.tail.tail.tail.tail))) | (go_simp; with_reducible rfl))) | (refine pureE (i := 6) (oi := { dst := some 97, op := Op.load 3 (Operand.tmp 96), type := 3, pos := "ref.go:81", after := #[eD 5, eG 1], guard := some (1, false) }) (N := some 97) #[true, true, true, true, true, true, true, true, false, false, false, false, false, false, false, false, false, false, false, false] rfl rfl (by as_aux_lemma => kernel_rfl) (fun _ _ _ _ h => h) ⟨undef, Or.inr ⟨by rfl, rfl⟩, ?_⟩)
                         try simp only [Act.put, List.setIfInBounds_toArray, List.set_cons_succ, List.set_cons_zero]
                         first | (refine takeE (i := 8) (oi := { dst := some 99, op := Op.load 3 (Operand.tmp 98), type := 3, pos := "ref.go:81", after := #[eD 7, eG 1], guard := some (1, false) }) (N := some 99) #[true, true, true, true, true, true, true, true, true, false, false, false, false, false, false, false, false, false, false, false] rfl rfl (by as_aux_lemma => kernel_rfl) (fun _ _ _ _ h => h) hS ?_; apply Exists.intro; refine ⟨Or.inl ⟨by rfl, ?_⟩, ?_⟩; · (intro w0 h; first | (exact rnb_load1 rfl rfl (by first | exact h.read 0 rfl | exact h.read 1 rfl) (by decide +kernel) c0.out) | (exact rnb_load1 rfl rfl (by first | exact h.read 0 rfl | exact h.read 1 rfl | exact h.read 2 rfl | exact h.read 3 rfl | exact h.read 4 rfl) (by decide +kernel) (by exact Nev.c0 _)) | (go_simp; with_reducible rfl))) | (refine pureE (i := 8) (oi := { dst := some 99, op := Op.load 3 (Operand.tmp 98), type := 3, pos := "ref.go:81", after := #[eD 7, eG 1], guard := some (1, false) }) (N := some 99) #[true, true, true, true, true, true, true, true, true, false, false, false, false, false, false, false, false, false, false, false] rfl rfl (by as_aux_lemma => kernel_rfl) (fun _ _ _ _ h => h) ⟨undef, Or.inr ⟨by rfl, rfl⟩, ?_⟩)
                         try simp only [Act.put, List.setIfInBounds_toArray, List.set_cons_succ, List.set_cons_zero]
                         refine pureE (i := 9) (oi := { dst := some 100, op := Op.binOp BinOp.eql 3 (Operand.tmp 97) (Operand.tmp 99) 3, type := 4, pos := "ref.go:81", after := #[eD 6, eD 8, eG 1], guard := some (1, false) }) (N := some 100) #[true, true, true, true, true, true, true, true, true, true, false, false, false, false, false, false, false, false, false, false] rfl rfl (by as_aux_lemma => kernel_rfl) (fun _ _ _ _ h => h) ?_; first | (apply Exists.intro; refine ⟨Or.inl ⟨by rfl, ?_⟩, ?_⟩; · (intro w0; first | (exact (rn_ceql rfl (by exact rfl) (by exact rfl) true (decide_eq_true (by omega)))) | (exact (rn_ceql rfl (by exact rfl) (by exact rfl) false (decide_eq_false (by omega)))) | (go_simp; try with_reducible rfl))) | (refine ⟨undef, Or.inr ⟨by rfl, rfl⟩, ?_⟩)
                         try simp only [Act.put, List.setIfInBounds_toArray, List.set_cons_succ, List.set_cons_zero]
                         refine pureE (i := 10) (oi := { dst := some 101, op := Op.move (Operand.tmp 100), type := 4, pos := "ref.go:81", after := #[eD 9, eC 1, eG 1], guard := some (1, false) }) (N := some 101) #[true, true, true, true, true, true, true, true, true, true, true, false, false, false, false, false, false, false, false, false] rfl rfl (by as_aux_lemma => kernel_rfl) (fun _ _ _ _ h => h) ?_; first | (apply Exists.intro; refine ⟨Or.inl ⟨by rfl, ?_⟩, ?_⟩; · (intro w0; go_simp; try with_reducible rfl)) | (refine ⟨undef, Or.inr ⟨by rfl, rfl⟩, ?_⟩)
                         try simp only [Act.put, List.setIfInBounds_toArray, List.set_cons_succ, List.set_cons_zero]
                         refine pureE (i := 11) (oi := { dst := some 102, op := Op.move (Operand.tmp 12), type := 43, pos := "ref.go:81", after := #[eG 10], guard := some (10, true) }) (N := some 102) #[true, true, true, true, true, true, true, true, true, true, true, true, false, false, false, false, false, false, false, false] rfl rfl (by as_aux_lemma => kernel_rfl) (fun _ _ _ _ h => h) ?_; first | (apply Exists.intro; refine ⟨Or.inl ⟨by rfl, ?_⟩, ?_⟩; · (intro w0; go_simp; try with_reducible rfl)) | (refine ⟨undef, Or.inr ⟨by rfl, rfl⟩, ?_⟩)
                         try simp only [Act.put, List.setIfInBounds_toArray, List.set_cons_succ, List.set_cons_zero]
                         refine pureE (i := 12) (oi := { dst := some 103, op := Op.move (Operand.tmp 13), type := 3, pos := "ref.go:81", after := #[eG 10], guard := some (10, true) }) (N := some 103) #[true, true, true, true, true, true, true, true, true, true, true, true, true, false, false, false, false, false, false, false] rfl rfl (by as_aux_lemma => kernel_rfl) (fun _ _ _ _ h => h) ?_; first | (apply Exists.intro; refine ⟨Or.inl ⟨by rfl, ?_⟩, ?_⟩; · (intro w0; go_simp; try with_reducible rfl)) | (refine ⟨undef, Or.inr ⟨by rfl, rfl⟩, ?_⟩)
                         try simp only [Act.put, List.setIfInBounds_toArray, List.set_cons_succ, List.set_cons_zero]
                         refine pureE (i := 15) (oi := { dst := some 106, op := Op.move (Operand.tmp 8), type := 3, pos := "ref.go:81", after := #[eG 10], guard := some (10, true) }) (N := some 106) #[true, true, true, true, true, true, true, true, true, true, true, true, true, false, false, true, false, false, false, false] rfl rfl (by as_aux_lemma => kernel_rfl) (fun _ _ _ _ h => h) ?_; first | (apply Exists.intro; refine ⟨Or.inl ⟨by rfl, ?_⟩, ?_⟩; · (intro w0; go_simp; try with_reducible rfl)) | (refine ⟨undef, Or.inr ⟨by rfl, rfl⟩, ?_⟩)
                         try simp only [Act.put, List.setIfInBounds_toArray, List.set_cons_succ, List.set_cons_zero]
                         first | (refine takeE (i := 13) (oi := { dst := some 104, op := Op.indexAddr 43 (Operand.tmp 102) (Operand.tmp 103), type := 0, pos := "ref.go:81", after := #[eD 11, eD 12, eG 10], guard := some (10, true) }) (N := some 104) #[true, true, true, true, true, true, true, true, true, true, true, true, true, true, false, true, false, false, false, false] rfl rfl (by as_aux_lemma => kernel_rfl) (fun _ _ _ _ h => h) hS ?_; apply Exists.intro; refine ⟨Or.inl ⟨by rfl, ?_⟩, ?_⟩; · (intro w0 h; first | (exact rn_rdIdx rfl rfl rfl u_fars fav_info hlt3) | (go_simp; with_reducible rfl))) | (refine pureE (i := 13) (oi := { dst := some 104, op := Op.indexAddr 43 (Operand.tmp 102) (Operand.tmp 103), type := 0, pos := "ref.go:81", after := #[eD 11, eD 12, eG 10], guard := some (10, true) }) (N := some 104) #[true, true, true, true, true, true, true, true, true, true, true, true, true, true, false, true, false, false, false, false] rfl rfl (by as_aux_lemma => kernel_rfl) (fun _ _ _ _ h => h) ⟨undef, Or.inr ⟨by rfl, rfl⟩, ?_⟩)
                         try simp only [Act.put, List.setIfInBounds_toArray, List.set_cons_succ, List.set_cons_zero]
                         first | (refine takeE (i := 14) (oi := { dst := some 105, op := Op.load 81 (Operand.tmp 104), type := 81, pos := "ref.go:81", after := #[eD 13, eG 10], guard := some (10, true) }) (N := some 105) #[true, true, true, true, true, true, true, true, true, true, true, true, true, true, true, true, false, false, false, false] rfl rfl (by as_aux_lemma => kernel_rfl) (fun _ _ _ _ h => h) hS ?_; apply Exists.intro; refine ⟨Or.inl ⟨by rfl, ?_⟩, ?_⟩; · (intro w0 h; first | (exact rnb_load1 rfl rfl (by first | exact h.read 0 rfl | exact h.read 1 rfl) (by decide +kernel) c0.out) | (exact rn_rdLd1 rfl rfl (by decide +kernel) (HY0.out _ (by first | exact h | exact h.tail | exact h.tail.tail | exact h.tail.tail.tail | exact h.tail.tail.tail.tail | exact h.tail.tail.tail.tail.tail | exact h.tail.tail.tail.tail.tail.tail))) | (exact rn_rdLdA (m := y.cs) rfl rfl (by rw [fav_agg, Fav.size]) (HY.out _ (by first | exact h | exact h.tail | exact h.tail.tail | exact h.tail.tail.tail | exact h.tail.tail.tail.tail | exact h.tail.tail.tail.tail.tail | exact h.tail.tail.tail.tail.tail.tail))) | (go_simp; with_reducible rfl))) | (refine pureE (i := 14) (oi := { dst := some 105, op := Op.load 81 (Operand.tmp 104), type := 81, pos := "ref.go:81", after := #[eD 13, eG 10], guard := some (10, true) }) (N := some 105) #[true, true, true, true, true, true, true, true, true, true, true, true, true, true, true, true, false, false, false, false] rfl rfl (by as_aux_lemma => kernel_rfl) (fun _ _ _ _ h => h) ⟨undef, Or.inr ⟨by rfl, rfl⟩, ?_⟩)
                         try simp only [Act.put, List.setIfInBounds_toArray, List.set_cons_succ, List.set_cons_zero]
                         first | (refine one_ (i := 16) (oi := { dst := some 107, op := Op.call { callee := Callee.value (Operand.func 23), args := #[Operand.tmp 105, Operand.tmp 106], argTypes := #[81, 3] }, type := 4, pos := "ref.go:81", after := #[eD 14, eD 15, eC 10, eG 10], guard := some (10, true) }) (N := some 107) #[true, true, true, true, true, true, true, true, true, true, true, true, true, true, true, true, true, false, false, false] rfl rfl (by as_aux_lemma => kernel_rfl) (by decide) (fun K hK => ?_); rw [if_pos (by rfl)]; first | (refine wk_call 23 rfl (by kernel_rfl) ?_; simp only [List.map_toArray, List.map_cons, List.map_nil, Act.eval, gd_s, gd_0]; go_must (refine (Calls.mono (rfw_has (x := y) (c := (j : Int)) (by omega) hw) ?_)); clear hw; rintro e w ⟨rfl, hw⟩; rw [hhz.out]; (try simp only [List.set_cons_succ, List.set_cons_zero, List.setIfInBounds_toArray, Value.cells, List.eraseIdx_cons_succ, List.eraseIdx_cons_zero] at hw); refine ⟨_, rfl, ?_⟩)) | (refine pureE (i := 16) (oi := { dst := some 107, op := Op.call { callee := Callee.value (Operand.func 23), args := #[Operand.tmp 105, Operand.tmp 106], argTypes := #[81, 3] }, type := 4, pos := "ref.go:81", after := #[eD 14, eD 15, eC 10, eG 10], guard := some (10, true) }) (N := some 107) #[true, true, true, true, true, true, true, true, true, true, true, true, true, true, true, true, true, false, false, false] rfl rfl (by as_aux_lemma => kernel_rfl) (fun _ _ _ _ h => h) ⟨undef, Or.inr ⟨by rfl, rfl⟩, ?_⟩)
                         (try (refine hK.out _ _ (Sat.gets hw (by repeat (first | exact Gets.nil | exact Gets.refl _ | refine Gets.get 0 rfl ?_ | refine Gets.get 1 rfl ?_ | refine Gets.get 2 rfl ?_ | refine Gets.get 3 rfl ?_ | refine Gets.get 4 rfl ?_ | refine Gets.get 5 rfl ?_ | refine Gets.drop ?_))) (fun hS => ?_); clear hK K)); try simp only [Act.put, List.setIfInBounds_toArray, List.set_cons_succ, List.set_cons_zero]
                         refine pureE (i := 17) (oi := { dst := some 108, op := Op.pick (Operand.tmp 101) (Operand.tmp 107) (Operand.const (Value.bool false)), type := 4, pos := "ref.go:81", after := #[eD 10, eD 16, eG 1], guard := some (1, false) }) (N := some 108) #[true, true, true, true, true, true, true, true, true, true, true, true, true, true, true, true, true, true, false, false] rfl rfl (by as_aux_lemma => kernel_rfl) (fun _ _ _ _ h => h) ?_; first | (apply Exists.intro; refine ⟨Or.inl ⟨by rfl, ?_⟩, ?_⟩; · (intro w0; go_simp; try with_reducible rfl)) | (refine ⟨undef, Or.inr ⟨by rfl, rfl⟩, ?_⟩)
                         try simp only [Act.put, List.setIfInBounds_toArray, List.set_cons_succ, List.set_cons_zero]
                         (refine pureE (i := 18) (oi := { dst := some 109, op := Op.pick (Operand.tmp 92) (Operand.const (Value.bool true)) (Operand.tmp 108), type := 4, pos := "ref.go:81", after := #[eD 1, eD 17], guard := none }) (N := some 109) #[true, true, true, true, true, true, true, true, true, true, true, true, true, true, true, true, true, true, true, false] rfl rfl (by as_aux_lemma => kernel_rfl) (fun _ _ _ _ h => h) ?_; apply Exists.intro; refine ⟨Or.inl ⟨by rfl, ?_⟩, ?_⟩; · (intro w0; go_simp; try with_reducible rfl))
                         try simp only [Act.put, List.setIfInBounds_toArray, List.set_cons_succ, List.set_cons_zero]
                         (refine pureE (i := 19) (oi := { dst := some 11, op := Op.assign (Operand.tmp 109), type := 4, pos := "ref.go:81", after := #[eD 18, eC 16, eP 0, eP 1, eP 2, eP 3, eP 4, eP 5, eP 6, eP 7, eP 8, eP 9, eP 10, eP 11, eP 12, eP 13, eP 14, eP 15, eP 16, eP 17, eP 18], guard := none }) (N := some 11) #[true, true, true, true, true, true, true, true, true, true, true, true, true, true, true, true, true, true, true, true] rfl rfl (by as_aux_lemma => kernel_rfl) (fun _ _ _ _ h => h) ?_; apply Exists.intro; refine ⟨Or.inl ⟨by rfl, ?_⟩, ?_⟩; · (intro w0; go_simp; try with_reducible rfl))
                         try simp only [Act.put, List.setIfInBounds_toArray, List.set_cons_succ, List.set_cons_zero]
                         refine done_ (by as_aux_lemma => kernel_rfl) ?_; clear hS
                         go_wp2_with (first | (refine wl_run (d := some 90) (rn_cadd rfl (by exact rfl) (by exact rfl) _ rfl (by omega)) ?_))
                         go_roundw
                         case rel => exact ⟨b + 1, _, by omega, by go_num, rfl, by first | exact Kp.mk (by rw [← HKR.out]; first | rfl | simp [h2]), hw⟩
                         case measure => simp [intOf]; omega)
                     · obtain rfl : LB = b := by omega
                       have hkr := hkr.out
                       rw [List.drop_of_length_le (by rw [hLB.out]; exact Nat.le_refl _), knows_nil, Bool.or_false] at hkr
                       subst hkr
                       go_wp2_with (first | (refine wl_run (d := some 88) (rn_clss rfl (by exact rfl) (by exact rfl) true (decide_eq_true (by omega))) ?_) | (refine wl_run (d := some 88) (rn_clss rfl (by exact rfl) (by exact rfl) false (decide_eq_false (by omega))) ?_))
                       go_meet
                       case rel => exact ⟨rfl, hw⟩
              case rest =>
                clear hw
                obtain ⟨rfl, hw⟩ := hcut
                go_upto_region 19 with (fail)
                try simp only [Act.put, List.setIfInBounds_toArray, List.set_cons_succ, List.set_cons_zero]
                go_cut [] from 44 to 184 (fun wc => Sat E wc (pt b10 (.cells x.cs 38 (0, 0)) :: Row 4 1 (.slice (some ⟨g, 0, none⟩) 9 9) 9 (mkV ⟨na, nk || !kn, nu, nd⟩) :: pt b3 (.cells p.cs 28 (0, 0)) :: F))
                case first =>
                  as_aux_lemma =>
                   cases nk
                   all_goals (
                     go_wp2_with (first
                       | (refine wl_run (rn_rowIdx rfl hw 1 rfl rfl 2 2 rfl rfl u_bools bool_size (by omega)) ?_)
                       | (refine wl_run (d := some 113) (rn_rowLd1 rfl hw 1 rfl rfl (by decide +kernel) _ (mkV_k _)) ?_)
                       | (refine wl_rowStore1 hw rfl rfl 1 rfl (by omega) (.bool _) rfl (by decide +kernel) rfl ?_; clear hw; intro w hw; (try simp only [List.set_cons_succ, List.set_cons_zero, List.setIfInBounds_toArray, Value.cells, List.eraseIdx_cons_succ, List.eraseIdx_cons_zero] at hw); rw [mkV_sk] at hw)
                       | (fail))
                     go_meet
                     case rel => exact hw)
                case rest =>
                  clear hw
                  have hw := hcut
                  clear hcut
                  obtain ⟨nk2, hnk2⟩ : ∃ nk2, Kp ((nk || !kn) = nk2) := ⟨_, Kp.mk rfl⟩
                  rw [hnk2.out] at IK hw
                  go_wp2_with (first | (fail))
                  go_loopw [14] (fun i wr => ∃ (k : Nat) (a2 u2 : Bool), k ≤ M ∧ i = .int .i64 k ∧ Kp ((a2 || gk rowA x j k (cs.drop k)) = (na || gk rowA x j 0 cs)) ∧ Kp ((u2 || gk rowU x j k (cs.drop k)) = (nu || gk rowU x j 0 cs)) ∧ Sat E wr (pt b10 (.cells x.cs 38 (0, 0)) :: Row 4 1 (.slice (some ⟨g, 0, none⟩) 9 9) 9 (mkV ⟨a2, nk2, u2, nd⟩) :: pt b3 (.cells p.cs 28 (0, 0)) :: F)) (fun i _ => M - (intOf i).toNat)
                  case atStart => exact ⟨0, na, nu, by omega, rfl, Kp.mk (by rw [List.drop_zero]), Kp.mk (by rw [List.drop_zero]), hw⟩
                  case round =>
                    clear hw
                    obtain ⟨k, a2, u2, hk, rfl, hqa, hqu, hw⟩ := hrel
                    have hqa := hqa.out
                    have hqu := hqu.out
                    by_cases hlt3 : k < M
                    · obtain ⟨v, hv⟩ : ∃ v, cs[k]? = some v := ⟨_, List.getElem?_eq_getElem (by rw [hM.out]; exact hlt3)⟩
                      have hcell := rd_two HR.out (by first | exact hw | exact hw.tail | exact hw.tail.tail | exact hw.tail.tail.tail | exact hw.tail.tail.tail.tail | exact hw.tail.tail.tail.tail.tail | exact hw.tail.tail.tail.tail.tail.tail) hv
                      obtain ⟨L2, hL2⟩ : ∃ L2, Kp (v.ls.length = L2) := ⟨_, Kp.mk rfl⟩
                      obtain ⟨A2, hA2⟩ : ∃ A2, Kp (v.A = A2) := ⟨_, Kp.mk rfl⟩
                      obtain ⟨hv1000, hvr⟩ := (HC.out v (List.mem_of_getElem? hv)).1
                      rw [hA2.out, hL2.out] at hcell
                      have HV6 := Kp.mk hcell
                      have HVR := Kp.mk hvr
                      rw [hA2.out] at HVR
                      rw [hL2.out] at hv1000
                      by_cases hkj : k = j
                      · subst hkj
                        as_aux_lemma =>
                         rw [drop_get hv, gk_same] at hqa hqu
                         have HQA := Kp.mk hqa
                         have HQU := Kp.mk hqu
                         clear hqa hqu hcell hv hvr
                         go_wp2_with (first | (refine wl_run (d := some 122) (rn_clss rfl (by exact rfl) (by exact rfl) true (decide_eq_true (by omega))) ?_) | (refine wl_run (d := some 122) (rn_clss rfl (by exact rfl) (by exact rfl) false (decide_eq_false (by omega))) ?_))
                         go_loopw [15] (fun i wr => i = .int .i64 0 ∧ Sat E wr (pt b10 (.cells x.cs 38 (0, 0)) :: Row 4 1 (.slice (some ⟨g, 0, none⟩) 9 9) 9 (mkV ⟨a2, nk2, u2, nd⟩) :: pt b3 (.cells p.cs 28 (0, 0)) :: F)) (fun i _ => 0)
                         case atStart => exact ⟨rfl, hw⟩
                         case round =>
                           clear hw
                           obtain ⟨rfl, hw⟩ := hrel
                           have hz0 : L2 = 0 ∨ 0 < L2 := by omega
                           rcases hz0 with hz0 | hz0
                           all_goals (
                             go_wp2_with (first
                               | (refine wl_run (rn_rdIdx rfl rfl rfl u_cores cov_info hlt3) ?_)
                               | (refine wl_run (rn_rdLd1 rfl rfl (by decide +kernel) (HV6.out _ (by first | exact hw | exact hw.tail | exact hw.tail.tail | exact hw.tail.tail.tail | exact hw.tail.tail.tail.tail | exact hw.tail.tail.tail.tail.tail | exact hw.tail.tail.tail.tail.tail.tail))) ?_)
                               | (refine wl_run (d := some 124) (rn_cadd rfl (by exact rfl) (by exact rfl) _ rfl (by omega)) ?_) | (refine wl_run (d := some 132) (rn_clss rfl (by exact rfl) (by exact rfl) true (decide_eq_true (by omega))) ?_) | (refine wl_run (d := some 132) (rn_clss rfl (by exact rfl) (by exact rfl) false (decide_eq_false (by omega))) ?_) | (refine wg_run (d := some 136) (by rfl) (rn_cneq rfl (by exact rfl) (by exact rfl) true (decide_eq_true (by omega))) ?_) | (refine wg_run (d := some 136) (by rfl) (rn_cneq rfl (by exact rfl) (by exact rfl) false (decide_eq_false (by omega))) ?_))
                             go_roundw
                             case rel => exact ⟨k + 1, a2, u2, by omega, by go_num, HQA, HQU, hw⟩
                             case measure => simp [intOf]; omega)
                      · rw [drop_get hv, gk_else hkj, ← Bool.or_assoc] at hqa hqu
                        have HQA := Kp.mk hqa
                        have HQU := Kp.mk hqu
                        clear hqa hqu hcell hv hvr
                        go_wp2_with (first | (refine wl_run (d := some 122) (rn_clss rfl (by exact rfl) (by exact rfl) true (decide_eq_true (by omega))) ?_) | (refine wl_run (d := some 122) (rn_clss rfl (by exact rfl) (by exact rfl) false (decide_eq_false (by omega))) ?_))
                        go_loopw [15] (fun i wr => ∃ (b : Nat) (a3 u3 : Bool), b ≤ L2 ∧ i = .int .i64 b ∧ Kp ((a3 || rowA x (v.ls.drop b)) = (a2 || rowA x v.ls)) ∧ Kp ((u3 || rowU x (v.ls.drop b)) = (u2 || rowU x v.ls)) ∧ Sat E wr (pt b10 (.cells x.cs 38 (0, 0)) :: Row 4 1 (.slice (some ⟨g, 0, none⟩) 9 9) 9 (mkV ⟨a3, nk2, u3, nd⟩) :: pt b3 (.cells p.cs 28 (0, 0)) :: F)) (fun i _ => L2 - (intOf i).toNat)
                        case atStart => exact ⟨0, a2, u2, by omega, rfl, Kp.mk rfl, Kp.mk rfl, hw⟩
                        case round =>
                          clear hw
                          obtain ⟨b, a3, u3, hb, rfl, hS1, hS2, hw⟩ := hrel
                          by_cases hlt4 : b < L2
                          · obtain ⟨y, hy⟩ : ∃ y, v.ls[b]? = some y := ⟨_, List.getElem?_eq_getElem (by rw [hL2.out]; exact hlt4)⟩
                            obtain ⟨gd, qd, hDD, hcell⟩ := rd_el (f := Nev.cs) Nev.size (by decide) HVR.out (by first | exact hw | exact hw.tail | exact hw.tail.tail | exact hw.tail.tail.tail | exact hw.tail.tail.tail.tail | exact hw.tail.tail.tail.tail.tail | exact hw.tail.tail.tail.tail.tail.tail) hy
                            subst hDD
                            have HY := Kp.mk hcell
                            have hS1 := hS1.out
                            have hS2 := hS2.out
                            rw [drop_get hy, rowA_cons, ← Bool.or_assoc] at hS1
                            rw [drop_get hy, rowU_cons, ← Bool.or_assoc] at hS2
                            have hsh := sharedB_eq x y
                            obtain ⟨z, hz⟩ : ∃ z, Kp ((!same x.data.c y.data.c) = z) := ⟨_, Kp.mk rfl⟩
                            have hun := unlikeB_eq x y
                            rw [hz.out] at hun
                            rw [hun] at hS2
                            clear hcell hy hun
                            by_cases c1 : x.line = y.line
                            · obtain ⟨s, hs⟩ : ∃ s, Kp (sharedB x y = s) := ⟨_, Kp.mk rfl⟩
                              rw [hs.out] at hS1 hS2 hsh
                              simp only [c1, decide_true, Bool.true_and] at hS1 hS2
                              have HS1 := Kp.mk hS1
                              have HS2 := Kp.mk hS2
                              have HSH := Kp.mk hsh
                              clear hS1 hS2 hsh
                              go_upto_region 28 with (first
                                | (refine wl_run (rn_rdIdx rfl rfl rfl u_cores cov_info hlt3) ?_)
                                | (refine wl_run (rn_rdIdx rfl rfl rfl u_nears nev_info hlt4) ?_)
                                | (refine wl_run (rn_rdLd1 rfl rfl (by decide +kernel) (HV6.out _ (by first | exact hw | exact hw.tail | exact hw.tail.tail | exact hw.tail.tail.tail | exact hw.tail.tail.tail.tail | exact hw.tail.tail.tail.tail.tail | exact hw.tail.tail.tail.tail.tail.tail))) ?_)
                                | (refine wl_run (d := some 147) (rn_rdLdA (m := y.cs) rfl rfl (by rw [nev_agg, Nev.size]) (HY.out _ (by first | exact hw | exact hw.tail | exact hw.tail.tail | exact hw.tail.tail.tail | exact hw.tail.tail.tail.tail | exact hw.tail.tail.tail.tail.tail | exact hw.tail.tail.tail.tail.tail.tail))) ?_)
                                | (refine wl_run (d := some 132) (rn_clss rfl (by exact rfl) (by exact rfl) true (decide_eq_true (by omega))) ?_) | (refine wl_run (d := some 132) (rn_clss rfl (by exact rfl) (by exact rfl) false (decide_eq_false (by omega))) ?_) | (refine wg_run (d := some 136) (by rfl) (rn_cneq rfl (by exact rfl) (by exact rfl) true (decide_eq_true (by omega))) ?_) | (refine wg_run (d := some 136) (by rfl) (rn_cneq rfl (by exact rfl) (by exact rfl) false (decide_eq_false (by omega))) ?_) | (refine wl_run (d := some 139) (rn_cadd rfl (by exact rfl) (by exact rfl) _ rfl (by omega)) ?_) | (refine wl_alloc (d := some 16) hw nev_zero ?_; clear hw; intro b16 w hw; (try simp only [List.set_cons_succ, List.set_cons_zero, List.setIfInBounds_toArray, Value.cells, List.eraseIdx_cons_succ, List.eraseIdx_cons_zero] at hw)) | (refine wb_storeA (x := Operand.tmp 16) hw rfl rfl (by first | exact Upd.mk 0 rfl | exact Upd.mk 1 rfl | exact Upd.mk 2 rfl | exact Upd.mk 3 rfl | exact Upd.mk 4 rfl | exact Upd.mk 5 rfl | exact Upd.mk 6 rfl | exact Upd.mk 7 rfl | exact Upd.mk 8 rfl) (by rw [nev_info, Nev.size]) (by rw [Nev.size, Nev.size]) (by exact Nev.one _) ?_; clear hw; intro w hw; (try simp only [List.set_cons_succ, List.set_cons_zero, List.setIfInBounds_toArray, Value.cells, List.eraseIdx_cons_succ, List.eraseIdx_cons_zero] at hw)) | (refine wb_load1 (d := some 149)  rfl (by first | exact hw.read 0 rfl | exact hw.read 1 rfl | exact hw.read 2 rfl | exact hw.read 3 rfl | exact hw.read 4 rfl) (by decide +kernel) (by exact Nev.c0 _) ?_) | (refine wb_load1 (d := some 151)  rfl (by first | exact hw.read 0 rfl | exact hw.read 1 rfl | exact hw.read 2 rfl | exact hw.read 3 rfl | exact hw.read 4 rfl) (by decide +kernel) (by exact Nev.c0 _) ?_) | (refine wl_run (d := some 152) (rn_ceql rfl (by exact rfl) (by exact rfl) true (decide_eq_true (by omega))) ?_) | (refine wl_run (d := some 152) (rn_ceql rfl (by exact rfl) (by exact rfl) false (decide_eq_false (by omega))) ?_))
                              try simp only [Act.put, List.setIfInBounds_toArray, List.set_cons_succ, List.set_cons_zero]
                              go_cut [17] from 125 to 184 (fun v wc => v = .bool s ∧ Sat E wc (pt b16 (.cells y.cs 38 (0, 0)) :: pt b10 (.cells x.cs 38 (0, 0)) :: Row 4 1 (.slice (some ⟨g, 0, none⟩) 9 9) 9 (mkV ⟨a3, nk2, u3, nd⟩) :: pt b3 (.cells p.cs 28 (0, 0)) :: F))
                              case first =>
                                as_aux_lemma =>
                                 have hc : (¬ x.state = 1) ∨ (x.state = 1 ∧ ¬ y.state = 1) ∨ (x.state = 1 ∧ y.state = 1) := by omega
                                 rcases hc with c2 | ⟨c2, c3⟩ | ⟨c2, c3⟩
                                 all_goals (
                                   go_wp2_with (first | (refine wb_load1 (d := some 154)  rfl (by first | exact hw.read 0 rfl | exact hw.read 1 rfl | exact hw.read 2 rfl | exact hw.read 3 rfl | exact hw.read 4 rfl) (by decide +kernel) (by exact Nev.c1 _) ?_) | (refine wl_run (d := some 155) (rn_ceql rfl (by exact rfl) (by exact rfl) true (decide_eq_true (by omega))) ?_) | (refine wl_run (d := some 155) (rn_ceql rfl (by exact rfl) (by exact rfl) false (decide_eq_false (by omega))) ?_) | (refine wg_load1 (d := some 158) (by rfl)  rfl (by first | exact hw.read 0 rfl | exact hw.read 1 rfl | exact hw.read 2 rfl | exact hw.read 3 rfl | exact hw.read 4 rfl) (by decide +kernel) (by exact Nev.c1 _) ?_) | (refine wg_run (d := some 159) (by rfl) (rn_ceql rfl (by exact rfl) (by exact rfl) true (decide_eq_true (by omega))) ?_) | (refine wg_run (d := some 159) (by rfl) (rn_ceql rfl (by exact rfl) (by exact rfl) false (decide_eq_false (by omega))) ?_))
                                   go_meet
                                   case rel => exact ⟨by rw [HSH.out]; first | (simp [c2]; done) | (simp [c2, c3]; done), hw⟩)
                              case rest =>
                                clear hw
                                obtain ⟨rfl, hw⟩ := hcut
                                go_upto_region 29 with (fail)
                                try simp only [Act.put, List.setIfInBounds_toArray, List.set_cons_succ, List.set_cons_zero]
                                go_cut [] from 125 to 184 (fun wc => Sat E wc (pt b16 (.cells y.cs 38 (0, 0)) :: pt b10 (.cells x.cs 38 (0, 0)) :: Row 4 1 (.slice (some ⟨g, 0, none⟩) 9 9) 9 (mkV ⟨a3 || !s, nk2, u3, nd⟩) :: pt b3 (.cells p.cs 28 (0, 0)) :: F))
                                case first =>
                                  as_aux_lemma =>
                                   cases a3
                                   all_goals (
                                     go_wp2_with (first
                                       | (refine wl_run (rn_rowIdx rfl hw 2 rfl rfl 1 1 rfl rfl u_bools bool_size (by omega)) ?_)
                                       | (refine wl_run (d := some 164) (rn_rowLd1 rfl hw 2 rfl rfl (by decide +kernel) _ (mkV_a _)) ?_)
                                       | (refine wl_rowStore1 hw rfl rfl 2 rfl (by omega) (.bool _) rfl (by decide +kernel) rfl ?_; clear hw; intro w hw; (try simp only [List.set_cons_succ, List.set_cons_zero, List.setIfInBounds_toArray, Value.cells, List.eraseIdx_cons_succ, List.eraseIdx_cons_zero] at hw); rw [mkV_sa] at hw)
                                       | (fail))
                                     go_meet
                                     case rel => exact hw)
                                case rest =>
                                  clear hw
                                  have hw := hcut
                                  clear hcut
                                  obtain ⟨a4, ha4⟩ : ∃ a4, Kp ((a3 || !s) = a4) := ⟨_, Kp.mk rfl⟩
                                  rw [ha4.out] at HS1 hw
                                  as_aux_lemma =>
                                   cases u3 <;> cases s
                                   all_goals (
                                     go_wp2_with (first
                                       | (refine wl_run (rn_rowIdx rfl hw 2 rfl rfl 3 3 rfl rfl u_bools bool_size (by omega)) ?_)
                                       | (refine wl_run (d := some 173) (rn_rowLd1 rfl hw 2 rfl rfl (by decide +kernel) _ (mkV_u _)) ?_)
                                       | (refine wl_rowStore1 hw rfl rfl 2 rfl (by omega) (.bool _) rfl (by decide +kernel) rfl ?_; clear hw; intro w hw; (try simp only [List.set_cons_succ, List.set_cons_zero, List.setIfInBounds_toArray, Value.cells, List.eraseIdx_cons_succ, List.eraseIdx_cons_zero] at hw); rw [mkV_su] at hw)
                                       | (refine wg_run (by rfl) (rn_neqB rfl x.data.c y.data.c rfl rfl line_kinds (by omega) line_sm line_eqg x.data.hf y.data.hf _ hz.out) ?_)
                                       | (refine wl_run (d := some 139) (rn_cadd rfl (by exact rfl) (by exact rfl) _ rfl (by omega)) ?_) | (refine wg_loadP (d := some 178) (by rfl)  rfl (by first | exact hw.read 0 rfl | exact hw.read 1 rfl | exact hw.read 2 rfl | exact hw.read 3 rfl | exact hw.read 4 rfl) (by kernel_rfl) (by exact Nev.x2 _) (by rw [Nev.size]; decide) ?_) | (refine wg_loadP (d := some 180) (by rfl)  rfl (by first | exact hw.read 0 rfl | exact hw.read 1 rfl | exact hw.read 2 rfl | exact hw.read 3 rfl | exact hw.read 4 rfl) (by kernel_rfl) (by exact Nev.x2 _) (by rw [Nev.size]; decide) ?_))
                                     go_roundw
                                     case rel => exact ⟨b + 1, _, _, by omega, by go_num, HS1, HS2, (Sat.gets hw (by repeat (first | exact Gets.nil | exact Gets.refl _ | refine Gets.get 0 rfl ?_ | refine Gets.get 1 rfl ?_ | refine Gets.get 2 rfl ?_ | refine Gets.get 3 rfl ?_ | refine Gets.get 4 rfl ?_ | refine Gets.get 5 rfl ?_ | refine Gets.drop ?_)))⟩
                                     case measure => simp [intOf]; omega)
                            · have HS1 := Kp.mk (show (a3 || rowA x (v.ls.drop (b + 1))) = (a2 || rowA x v.ls) by rw [← hS1]; simp [c1])
                              as_aux_lemma =>
                               have HS2 := Kp.mk (show (u3 || rowU x (v.ls.drop (b + 1))) = (u2 || rowU x v.ls) by rw [← hS2]; simp [c1])
                               clear hS1 hS2 hsh
                               go_wp2_with (first
                                 | (refine wl_run (rn_rdIdx rfl rfl rfl u_cores cov_info hlt3) ?_)
                                 | (refine wl_run (rn_rdIdx rfl rfl rfl u_nears nev_info hlt4) ?_)
                                 | (refine wl_run (rn_rdLd1 rfl rfl (by decide +kernel) (HV6.out _ (by first | exact hw | exact hw.tail | exact hw.tail.tail | exact hw.tail.tail.tail | exact hw.tail.tail.tail.tail | exact hw.tail.tail.tail.tail.tail | exact hw.tail.tail.tail.tail.tail.tail))) ?_)
                                 | (refine wl_run (d := some 147) (rn_rdLdA (m := y.cs) rfl rfl (by rw [nev_agg, Nev.size]) (HY.out _ (by first | exact hw | exact hw.tail | exact hw.tail.tail | exact hw.tail.tail.tail | exact hw.tail.tail.tail.tail | exact hw.tail.tail.tail.tail.tail | exact hw.tail.tail.tail.tail.tail.tail))) ?_)
                                 | (refine wl_run (d := some 132) (rn_clss rfl (by exact rfl) (by exact rfl) true (decide_eq_true (by omega))) ?_) | (refine wl_run (d := some 132) (rn_clss rfl (by exact rfl) (by exact rfl) false (decide_eq_false (by omega))) ?_) | (refine wg_run (d := some 136) (by rfl) (rn_cneq rfl (by exact rfl) (by exact rfl) true (decide_eq_true (by omega))) ?_) | (refine wg_run (d := some 136) (by rfl) (rn_cneq rfl (by exact rfl) (by exact rfl) false (decide_eq_false (by omega))) ?_) | (refine wl_run (d := some 139) (rn_cadd rfl (by exact rfl) (by exact rfl) _ rfl (by omega)) ?_) | (refine wl_alloc (d := some 16) hw nev_zero ?_; clear hw; intro b16 w hw; (try simp only [List.set_cons_succ, List.set_cons_zero, List.setIfInBounds_toArray, Value.cells, List.eraseIdx_cons_succ, List.eraseIdx_cons_zero] at hw)) | (refine wb_storeA (x := Operand.tmp 16) hw rfl rfl (by first | exact Upd.mk 0 rfl | exact Upd.mk 1 rfl | exact Upd.mk 2 rfl | exact Upd.mk 3 rfl | exact Upd.mk 4 rfl | exact Upd.mk 5 rfl | exact Upd.mk 6 rfl | exact Upd.mk 7 rfl | exact Upd.mk 8 rfl) (by rw [nev_info, Nev.size]) (by rw [Nev.size, Nev.size]) (by exact Nev.one _) ?_; clear hw; intro w hw; (try simp only [List.set_cons_succ, List.set_cons_zero, List.setIfInBounds_toArray, Value.cells, List.eraseIdx_cons_succ, List.eraseIdx_cons_zero] at hw)) | (refine wb_load1 (d := some 149)  rfl (by first | exact hw.read 0 rfl | exact hw.read 1 rfl | exact hw.read 2 rfl | exact hw.read 3 rfl | exact hw.read 4 rfl) (by decide +kernel) (by exact Nev.c0 _) ?_) | (refine wb_load1 (d := some 151)  rfl (by first | exact hw.read 0 rfl | exact hw.read 1 rfl | exact hw.read 2 rfl | exact hw.read 3 rfl | exact hw.read 4 rfl) (by decide +kernel) (by exact Nev.c0 _) ?_) | (refine wl_run (d := some 152) (rn_ceql rfl (by exact rfl) (by exact rfl) true (decide_eq_true (by omega))) ?_) | (refine wl_run (d := some 152) (rn_ceql rfl (by exact rfl) (by exact rfl) false (decide_eq_false (by omega))) ?_))
                               go_roundw
                               case rel => exact ⟨b + 1, a3, u3, by omega, by go_num, HS1, HS2, (Sat.gets hw (by repeat (first | exact Gets.nil | exact Gets.refl _ | refine Gets.get 0 rfl ?_ | refine Gets.get 1 rfl ?_ | refine Gets.get 2 rfl ?_ | refine Gets.get 3 rfl ?_ | refine Gets.get 4 rfl ?_ | refine Gets.get 5 rfl ?_ | refine Gets.drop ?_)))⟩
                               case measure => simp [intOf]; omega
                          · obtain rfl : L2 = b := by omega
                            as_aux_lemma =>
                             have hS1 := hS1.out
                             have hS2 := hS2.out
                             rw [List.drop_of_length_le (by rw [hL2.out]; exact Nat.le_refl _), rowA_nil, Bool.or_false] at hS1
                             rw [List.drop_of_length_le (by rw [hL2.out]; exact Nat.le_refl _), rowU_nil, Bool.or_false] at hS2
                             have hQA := HQA.out
                             have hQU := HQU.out
                             rw [← hS1] at hQA
                             rw [← hS2] at hQU
                             have TA := Kp.mk hQA
                             have TU := Kp.mk hQU
                             clear hS1 hS2 hQA hQU
                             go_wp2_with (first
                               | (refine wl_run (rn_rdIdx rfl rfl rfl u_cores cov_info hlt3) ?_)
                               | (refine wl_run (rn_rdLd1 rfl rfl (by decide +kernel) (HV6.out _ (by first | exact hw | exact hw.tail | exact hw.tail.tail | exact hw.tail.tail.tail | exact hw.tail.tail.tail.tail | exact hw.tail.tail.tail.tail.tail | exact hw.tail.tail.tail.tail.tail.tail))) ?_)
                               | (refine wl_run (d := some 124) (rn_cadd rfl (by exact rfl) (by exact rfl) _ rfl (by omega)) ?_) | (refine wl_run (d := some 132) (rn_clss rfl (by exact rfl) (by exact rfl) true (decide_eq_true (by omega))) ?_) | (refine wl_run (d := some 132) (rn_clss rfl (by exact rfl) (by exact rfl) false (decide_eq_false (by omega))) ?_) | (refine wg_run (d := some 136) (by rfl) (rn_cneq rfl (by exact rfl) (by exact rfl) true (decide_eq_true (by omega))) ?_) | (refine wg_run (d := some 136) (by rfl) (rn_cneq rfl (by exact rfl) (by exact rfl) false (decide_eq_false (by omega))) ?_))
                             go_roundw
                             case rel => exact ⟨k + 1, _, _, by omega, by go_num, TA, TU, hw⟩
                             case measure => simp [intOf]; omega
                    · obtain rfl : M = k := by omega
                      as_aux_lemma =>
                       rw [List.drop_of_length_le (by rw [hM.out]; exact Nat.le_refl _), gk_nil, Bool.or_false] at hqa
                       rw [List.drop_of_length_le (by rw [hM.out]; exact Nat.le_refl _), gk_nil, Bool.or_false] at hqu
                       have hA2 := IA.out
                       have hU2 := IU.out
                       rw [← hqa] at hA2
                       rw [← hqu] at hU2
                       have TA := Kp.mk hA2
                       have TU := Kp.mk hU2
                       clear hqa hqu hA2 hU2
                       go_wp2_with (first | (refine wl_run (d := some 53) (rn_cadd rfl (by exact rfl) (by exact rfl) _ rfl (by omega)) ?_) | (refine wl_run (d := some 122) (rn_clss rfl (by exact rfl) (by exact rfl) true (decide_eq_true (by omega))) ?_) | (refine wl_run (d := some 122) (rn_clss rfl (by exact rfl) (by exact rfl) false (decide_eq_false (by omega))) ?_))
                       go_roundw
                       case rel => exact ⟨a + 1, Mk.mk _ _ _ _, by omega, by go_num, TA, IK, TU, Kp.mk rfl, (Sat.gets hw (by repeat (first | exact Gets.nil | exact Gets.refl _ | refine Gets.get 0 rfl ?_ | refine Gets.get 1 rfl ?_ | refine Gets.get 2 rfl ?_ | refine Gets.get 3 rfl ?_ | refine Gets.get 4 rfl ?_ | refine Gets.get 5 rfl ?_ | refine Gets.drop ?_)))⟩
                       case measure => simp [intOf]; omega
          · obtain rfl : L = a := by omega
            as_aux_lemma =>
             rw [List.drop_of_length_le (by rw [hL.out]; exact Nat.le_refl _), gLine_nil, Bool.or_false] at hA
             rw [List.drop_of_length_le (by rw [hL.out]; exact Nat.le_refl _), coreK_nil, Bool.or_false] at hK
             rw [List.drop_of_length_le (by rw [hL.out]; exact Nat.le_refl _), gLine_nil, Bool.or_false] at hU
             have hA2 := GA.out
             have hK2 := GK.out
             have hU2 := GU.out
             rw [← hA] at hA2
             rw [← hK] at hK2
             rw [← hU] at hU2
             have IA := Kp.mk hA2
             have IK := Kp.mk hK2
             have IU := Kp.mk hU2
             clear hA hK hU hA2 hK2 hU2
             go_wp2_with (first
               | (refine wl_run (rn_rdIdx rfl rfl rfl u_cores cov_info hlt) ?_)
               | (refine wl_run (rn_rdLd1 rfl rfl (by decide +kernel) (HU6.out _ (by first | exact hw | exact hw.tail | exact hw.tail.tail | exact hw.tail.tail.tail | exact hw.tail.tail.tail.tail | exact hw.tail.tail.tail.tail.tail | exact hw.tail.tail.tail.tail.tail.tail))) ?_)
               | (refine wl_run (d := some 29) (rn_cadd rfl (by exact rfl) (by exact rfl) _ rfl (by omega)) ?_) | (refine wl_run (d := some 51) (rn_clss rfl (by exact rfl) (by exact rfl) true (decide_eq_true (by omega))) ?_) | (refine wl_run (d := some 51) (rn_clss rfl (by exact rfl) (by exact rfl) false (decide_eq_false (by omega))) ?_))
             go_roundw
             case rel => exact ⟨j + 1, Mk.mk _ _ _ _, by omega, by go_num, IA, IK, IU, GD, (Sat.gets hw (by repeat (first | exact Gets.nil | exact Gets.refl _ | refine Gets.get 0 rfl ?_ | refine Gets.get 1 rfl ?_ | refine Gets.get 2 rfl ?_ | refine Gets.get 3 rfl ?_ | refine Gets.get 4 rfl ?_ | refine Gets.get 5 rfl ?_ | refine Gets.drop ?_)))⟩
             case measure => simp [intOf]; omega
    · obtain rfl : M = j := by omega
      as_aux_lemma =>
       have hA := hA.out
       have hK := hK.out
       have hU := hU.out
       have hD := hD.out
       have hdr : cs.drop M = [] := List.drop_of_length_le (by rw [hM.out]; exact Nat.le_refl _)
       rw [hdr, gAll_nil, Bool.or_false] at hA
       rw [hdr, kR_nil, Bool.or_false] at hK
       rw [hdr, gAll_nil, Bool.or_false] at hU
       rw [hdr, dR_nil, Bool.or_false] at hD
       obtain ⟨ma, mk, mu, md⟩ := m
       dsimp only at hA hK hU hD hw
       have GA := Kp.mk hA
       have GK := Kp.mk hK
       have GU := Kp.mk hU
       have GD := Kp.mk hD
       clear hA hK hU hD hdr
       go_wp2_with (first | (refine wl_run (d := some 27) (rn_clss rfl (by exact rfl) (by exact rfl) true (decide_eq_true (by omega))) ?_) | (refine wl_run (d := some 27) (rn_clss rfl (by exact rfl) (by exact rfl) false (decide_eq_false (by omega))) ?_))
       go_loopw [18] (fun i wr => ∃ (k : Nat) (d2 : Bool), k ≤ N ∧ i = .int .i64 k ∧ Kp ((d2 || bR p k (bs.drop k)) = (md || bR p 0 bs)) ∧ Sat E wr (Row 4 1 (.slice (some ⟨g, 0, none⟩) 9 9) 9 (mkV ⟨ma, mk, mu, d2⟩) :: pt b3 (.cells p.cs 28 (0, 0)) :: F)) (fun i _ => N - (intOf i).toNat)
       case atStart => exact ⟨0, md, by omega, rfl, Kp.mk (by rw [List.drop_zero]), hw⟩
       case round =>
         clear hw
         obtain ⟨k, d2, hk, rfl, hqb, hw⟩ := hrel
         by_cases hlt3 : k < N
         · obtain ⟨y, hy⟩ : ∃ y, bs[k]? = some y := ⟨_, List.getElem?_eq_getElem (by rw [hN.out]; exact hlt3)⟩
           obtain ⟨gc, qc, hCC, hcell⟩ := rd_el (f := Bav.cs) Bav.size (by decide) HB.out (by first | exact hw | exact hw.tail | exact hw.tail.tail | exact hw.tail.tail.tail | exact hw.tail.tail.tail.tail | exact hw.tail.tail.tail.tail.tail | exact hw.tail.tail.tail.tail.tail.tail) hy
           subst hCC
           obtain ⟨hl1000, hlr⟩ := HF.out y (List.mem_of_getElem? hy)
           have hfi := Kp.mk (HFI.out y (List.mem_of_getElem? hy))
           obtain ⟨L, hL⟩ : ∃ L, Kp (y.ls.length = L) := ⟨_, Kp.mk rfl⟩
           obtain ⟨A1, hA1⟩ : ∃ A1, Kp (y.A = A1) := ⟨_, Kp.mk rfl⟩
           have HB6 := Kp.mk (show ∀ w', Sat E w' F → w'.cell? ⟨gc, qc + k * 44 + 43, none⟩ = some (.slice A1 L y.cap) from fun w' h => by have := hcell w' h 43 _ (by simpa using y.c43); rw [hA1.out, hL.out] at this; exact this)
           have HLR := Kp.mk hlr
           rw [hA1.out] at HLR
           rw [hL.out] at hl1000
           obtain ⟨zb, hzb⟩ : ∃ zb, Kp (badR p.fw (y.ls.map (farP p (k : Int))) [] (y.ls.map (farP p (k : Int))) = zb) := ⟨_, Kp.mk rfl⟩
           have hbc : (!crowdF p.fw [] (y.ls.map (farP p (k : Int)))) = zb := by rw [← hzb.out]; exact (bad_crowd (g := fun q => Int.tmod (Int.tdiv q p.banks) p.fs) (far_g p (k : Int) y.ls)).symm
           have hqb := hqb.out
           rw [drop_get hy, bR_cons, hbc, ← Bool.or_assoc] at hqb
           have HQB := Kp.mk hqb
           clear hlr hcell hy hqb hbc
           cases d2
           all_goals (
             go_upto_region 34 with (first | (refine wl_run (d := some 188) (rn_clss rfl (by exact rfl) (by exact rfl) true (decide_eq_true (by omega))) ?_) | (refine wl_run (d := some 188) (rn_clss rfl (by exact rfl) (by exact rfl) false (decide_eq_false (by omega))) ?_))
             have hS0 := hw
             refine startS (ds := [15]) hS0 #[false, false, false, false, false, false, false, false, false, false, false, false, false, false, false, false] (by kernel_rfl) rfl (by rfl) ?_
             clear hS0; intro hS
             replace hw := hw.drew; generalize w.drew = w at hw hS ⊢
             (refine pureE (i := 0) (oi := { dst := some 191, op := Op.move (Operand.tmp 7), type := 77, pos := "ref.go:98", after := #[], guard := none }) (N := some 191) #[true, false, false, false, false, false, false, false, false, false, false, false, false, false, false, false] rfl rfl (by as_aux_lemma => kernel_rfl) (fun _ _ _ _ h => h) ?_; apply Exists.intro; refine ⟨Or.inl ⟨by rfl, ?_⟩, ?_⟩; · (intro w0; go_simp; try with_reducible rfl))
             try simp only [Act.put, List.setIfInBounds_toArray, List.set_cons_succ, List.set_cons_zero]
             (refine pureE (i := 1) (oi := { dst := some 192, op := Op.move (Operand.tmp 7), type := 77, pos := "ref.go:98", after := #[], guard := none }) (N := some 192) #[true, true, false, false, false, false, false, false, false, false, false, false, false, false, false, false] rfl rfl (by as_aux_lemma => kernel_rfl) (fun _ _ _ _ h => h) ?_; apply Exists.intro; refine ⟨Or.inl ⟨by rfl, ?_⟩, ?_⟩; · (intro w0; go_simp; try with_reducible rfl))
             try simp only [Act.put, List.setIfInBounds_toArray, List.set_cons_succ, List.set_cons_zero]
             (refine takeE (i := 2) (oi := { dst := some 193, op := Op.indexAddr 77 (Operand.tmp 192) (Operand.const (Value.int IntKind.i64 5)), type := 0, pos := "ref.go:98", after := #[eD 1], guard := none }) (N := some 193) #[true, true, true, false, false, false, false, false, false, false, false, false, false, false, false, false] rfl rfl (by as_aux_lemma => kernel_rfl) (fun _ _ _ _ h => h) hS ?_; apply Exists.intro; refine ⟨Or.inl ⟨by rfl, ?_⟩, ?_⟩; · (intro w0 h; first | (exact rn_rowIdx rfl h 0 rfl rfl 5 5 rfl rfl u_bools bool_size (by omega)) | (exact rn_rdIdx rfl rfl rfl u_banks bav_info hlt3) | (go_simp; with_reducible rfl)))
             try simp only [Act.put, List.setIfInBounds_toArray, List.set_cons_succ, List.set_cons_zero]
             (refine takeE (i := 3) (oi := { dst := some 194, op := Op.load 4 (Operand.tmp 193), type := 4, pos := "ref.go:98", after := #[eD 2], guard := none }) (N := some 194) #[true, true, true, true, false, false, false, false, false, false, false, false, false, false, false, false] rfl rfl (by as_aux_lemma => kernel_rfl) (fun _ _ _ _ h => h) hS ?_; apply Exists.intro; refine ⟨Or.inl ⟨by rfl, ?_⟩, ?_⟩; · (intro w0 h; first | (exact rn_rowLd1 rfl h 0 rfl rfl (by decide +kernel) _ (mkV_d _)) | (exact rn_rdLd1 rfl rfl (by decide +kernel) (HB6.out _ (by first | exact h | exact h.tail | exact h.tail.tail | exact h.tail.tail.tail | exact h.tail.tail.tail.tail | exact h.tail.tail.tail.tail.tail | exact h.tail.tail.tail.tail.tail.tail))) | (go_simp; with_reducible rfl)))
             try simp only [Act.put, List.setIfInBounds_toArray, List.set_cons_succ, List.set_cons_zero]
             (refine pureE (i := 4) (oi := { dst := some 195, op := Op.move (Operand.tmp 194), type := 4, pos := "ref.go:98", after := #[eD 3], guard := none }) (N := some 195) #[true, true, true, true, true, false, false, false, false, false, false, false, false, false, false, false] rfl rfl (by as_aux_lemma => kernel_rfl) (fun _ _ _ _ h => h) ?_; apply Exists.intro; refine ⟨Or.inl ⟨by rfl, ?_⟩, ?_⟩; · (intro w0; go_simp; try with_reducible rfl))
             try simp only [Act.put, List.setIfInBounds_toArray, List.set_cons_succ, List.set_cons_zero]
             refine pureE (i := 6) (oi := { dst := some 197, op := Op.move (Operand.tmp 2), type := 30, pos := "ref.go:98", after := #[eG 4], guard := some (4, false) }) (N := some 197) #[true, true, true, true, true, false, true, false, false, false, false, false, false, false, false, false] rfl rfl (by as_aux_lemma => kernel_rfl) (fun _ _ _ _ h => h) ?_; first | (apply Exists.intro; refine ⟨Or.inl ⟨by rfl, ?_⟩, ?_⟩; · (intro w0; go_simp; try with_reducible rfl)) | (refine ⟨undef, Or.inr ⟨by rfl, rfl⟩, ?_⟩)
             try simp only [Act.put, List.setIfInBounds_toArray, List.set_cons_succ, List.set_cons_zero]
             refine pureE (i := 7) (oi := { dst := some 198, op := Op.move (Operand.tmp 18), type := 3, pos := "ref.go:98", after := #[eG 4], guard := some (4, false) }) (N := some 198) #[true, true, true, true, true, false, true, true, false, false, false, false, false, false, false, false] rfl rfl (by as_aux_lemma => kernel_rfl) (fun _ _ _ _ h => h) ?_; first | (apply Exists.intro; refine ⟨Or.inl ⟨by rfl, ?_⟩, ?_⟩; · (intro w0; go_simp; try with_reducible rfl)) | (refine ⟨undef, Or.inr ⟨by rfl, rfl⟩, ?_⟩)
             try simp only [Act.put, List.setIfInBounds_toArray, List.set_cons_succ, List.set_cons_zero]
             refine pureE (i := 11) (oi := { dst := some 202, op := Op.move (Operand.tmp 18), type := 3, pos := "ref.go:98", after := #[eG 4], guard := some (4, false) }) (N := some 202) #[true, true, true, true, true, false, true, true, false, false, false, true, false, false, false, false] rfl rfl (by as_aux_lemma => kernel_rfl) (fun _ _ _ _ h => h) ?_; first | (apply Exists.intro; refine ⟨Or.inl ⟨by rfl, ?_⟩, ?_⟩; · (intro w0; go_simp; try with_reducible rfl)) | (refine ⟨undef, Or.inr ⟨by rfl, rfl⟩, ?_⟩)
             try simp only [Act.put, List.setIfInBounds_toArray, List.set_cons_succ, List.set_cons_zero]
             first | (refine takeE (i := 5) (oi := { dst := some 196, op := Op.load 28 (Operand.tmp 3), type := 28, pos := "ref.go:98", after := #[eG 4], guard := some (4, false) }) (N := some 196) #[true, true, true, true, true, true, true, true, false, false, false, true, false, false, false, false] rfl rfl (by as_aux_lemma => kernel_rfl) (fun _ _ _ _ h => h) hS ?_; apply Exists.intro; refine ⟨Or.inl ⟨by rfl, ?_⟩, ?_⟩; · (intro w0 h; first | (exact rnb_loadA rfl rfl (by first | exact h.read 0 rfl | exact h.read 1 rfl | exact h.read 2 rfl | exact h.read 3 rfl | exact h.read 4 rfl) (by rw [plan_agg, Pl.size])) | (go_simp; with_reducible rfl))) | (refine pureE (i := 5) (oi := { dst := some 196, op := Op.load 28 (Operand.tmp 3), type := 28, pos := "ref.go:98", after := #[eG 4], guard := some (4, false) }) (N := some 196) #[true, true, true, true, true, true, true, true, false, false, false, true, false, false, false, false] rfl rfl (by as_aux_lemma => kernel_rfl) (fun _ _ _ _ h => h) ⟨undef, Or.inr ⟨by rfl, rfl⟩, ?_⟩)
             try simp only [Act.put, List.setIfInBounds_toArray, List.set_cons_succ, List.set_cons_zero]
             first | (refine takeE (i := 8) (oi := { dst := some 199, op := Op.indexAddr 30 (Operand.tmp 197) (Operand.tmp 198), type := 0, pos := "ref.go:98", after := #[eD 6, eD 7, eG 4], guard := some (4, false) }) (N := some 199) #[true, true, true, true, true, true, true, true, true, false, false, true, false, false, false, false] rfl rfl (by as_aux_lemma => kernel_rfl) (fun _ _ _ _ h => h) hS ?_; apply Exists.intro; refine ⟨Or.inl ⟨by rfl, ?_⟩, ?_⟩; · (intro w0 h; first | (exact rn_rowIdx rfl h 0 rfl rfl 5 5 rfl rfl u_bools bool_size (by omega)) | (exact rn_rdIdx rfl rfl rfl u_banks bav_info hlt3) | (go_simp; with_reducible rfl))) | (refine pureE (i := 8) (oi := { dst := some 199, op := Op.indexAddr 30 (Operand.tmp 197) (Operand.tmp 198), type := 0, pos := "ref.go:98", after := #[eD 6, eD 7, eG 4], guard := some (4, false) }) (N := some 199) #[true, true, true, true, true, true, true, true, true, false, false, true, false, false, false, false] rfl rfl (by as_aux_lemma => kernel_rfl) (fun _ _ _ _ h => h) ⟨undef, Or.inr ⟨by rfl, rfl⟩, ?_⟩)
             try simp only [Act.put, List.setIfInBounds_toArray, List.set_cons_succ, List.set_cons_zero]
             refine pureE (i := 9) (oi := { dst := some 200, op := Op.fieldAddr 45 (Operand.tmp 199) 6, type := 0, pos := "ref.go:98", after := #[eD 8, eG 4], guard := some (4, false) }) (N := some 200) #[true, true, true, true, true, true, true, true, true, true, false, true, false, false, false, false] rfl rfl (by as_aux_lemma => kernel_rfl) (fun _ _ _ _ h => h) ?_; first | (apply Exists.intro; refine ⟨Or.inl ⟨by rfl, ?_⟩, ?_⟩; · (intro w0; go_simp; try with_reducible rfl)) | (refine ⟨undef, Or.inr ⟨by rfl, rfl⟩, ?_⟩)
             try simp only [Act.put, List.setIfInBounds_toArray, List.set_cons_succ, List.set_cons_zero]
             first | (refine takeE (i := 10) (oi := { dst := some 201, op := Op.load 43 (Operand.tmp 200), type := 43, pos := "ref.go:98", after := #[eD 9, eG 4], guard := some (4, false) }) (N := some 201) #[true, true, true, true, true, true, true, true, true, true, true, true, false, false, false, false] rfl rfl (by as_aux_lemma => kernel_rfl) (fun _ _ _ _ h => h) hS ?_; apply Exists.intro; refine ⟨Or.inl ⟨by rfl, ?_⟩, ?_⟩; · (intro w0 h; first | (exact rn_rowLd1 rfl h 0 rfl rfl (by decide +kernel) _ (mkV_d _)) | (exact rn_rdLd1 rfl rfl (by decide +kernel) (HB6.out _ (by first | exact h | exact h.tail | exact h.tail.tail | exact h.tail.tail.tail | exact h.tail.tail.tail.tail | exact h.tail.tail.tail.tail.tail | exact h.tail.tail.tail.tail.tail.tail))) | (go_simp; with_reducible rfl))) | (refine pureE (i := 10) (oi := { dst := some 201, op := Op.load 43 (Operand.tmp 200), type := 43, pos := "ref.go:98", after := #[eD 9, eG 4], guard := some (4, false) }) (N := some 201) #[true, true, true, true, true, true, true, true, true, true, true, true, false, false, false, false] rfl rfl (by as_aux_lemma => kernel_rfl) (fun _ _ _ _ h => h) ⟨undef, Or.inr ⟨by rfl, rfl⟩, ?_⟩)
             try simp only [Act.put, List.setIfInBounds_toArray, List.set_cons_succ, List.set_cons_zero]
             first | (refine one_ (i := 12) (oi := { dst := some 203, op := Op.call { callee := Callee.value (Operand.func 24), args := #[Operand.tmp 196, Operand.tmp 201, Operand.tmp 202], argTypes := #[28, 43, 3] }, type := 4, pos := "ref.go:98", after := #[eD 5, eD 10, eD 11, eC 4, eG 4], guard := some (4, false) }) (N := some 203) #[true, true, true, true, true, true, true, true, true, true, true, true, true, false, false, false] rfl rfl (by as_aux_lemma => kernel_rfl) (by decide) (fun K hK => ?_); rw [if_pos (by rfl)]; first | (refine wk_call 24 rfl (by kernel_rfl) ?_; simp only [List.map_toArray, List.map_cons, List.map_nil, Act.eval, gd_s, gd_0]; go_must (refine (Calls.mono (rfw_Far (p := p) (ls := y.ls) (i0 := (k : Int)) hrt hfi.out hw hL.out hl1000 (fun w' hs => HLR.out w' (by first | exact hs | exact hs.tail | exact hs.tail.tail | exact hs.tail.tail.tail | exact hs.tail.tail.tail.tail | exact hs.tail.tail.tail.tail.tail | exact hs.tail.tail.tail.tail.tail.tail))) ?_)); clear hw; rintro e w ⟨rfl, hw⟩; rw [hzb.out]; (try simp only [List.set_cons_succ, List.set_cons_zero, List.setIfInBounds_toArray, Value.cells, List.eraseIdx_cons_succ, List.eraseIdx_cons_zero] at hw); refine ⟨_, rfl, ?_⟩)) | (refine pureE (i := 12) (oi := { dst := some 203, op := Op.call { callee := Callee.value (Operand.func 24), args := #[Operand.tmp 196, Operand.tmp 201, Operand.tmp 202], argTypes := #[28, 43, 3] }, type := 4, pos := "ref.go:98", after := #[eD 5, eD 10, eD 11, eC 4, eG 4], guard := some (4, false) }) (N := some 203) #[true, true, true, true, true, true, true, true, true, true, true, true, true, false, false, false] rfl rfl (by as_aux_lemma => kernel_rfl) (fun _ _ _ _ h => h) ⟨undef, Or.inr ⟨by rfl, rfl⟩, ?_⟩)
             (try (refine hK.out _ _ (Sat.gets hw (by repeat (first | exact Gets.nil | exact Gets.refl _ | refine Gets.get 0 rfl ?_ | refine Gets.get 1 rfl ?_ | refine Gets.get 2 rfl ?_ | refine Gets.get 3 rfl ?_ | refine Gets.get 4 rfl ?_ | refine Gets.get 5 rfl ?_ | refine Gets.drop ?_))) (fun hS => ?_); clear hK K)); try simp only [Act.put, List.setIfInBounds_toArray, List.set_cons_succ, List.set_cons_zero]
             (refine pureE (i := 13) (oi := { dst := some 204, op := Op.pick (Operand.tmp 195) (Operand.const (Value.bool true)) (Operand.tmp 203), type := 4, pos := "ref.go:98", after := #[eD 4, eD 12], guard := none }) (N := some 204) #[true, true, true, true, true, true, true, true, true, true, true, true, true, true, false, false] rfl rfl (by as_aux_lemma => kernel_rfl) (fun _ _ _ _ h => h) ?_; apply Exists.intro; refine ⟨Or.inl ⟨by rfl, ?_⟩, ?_⟩; · (intro w0; go_simp; try with_reducible rfl))
             try simp only [Act.put, List.setIfInBounds_toArray, List.set_cons_succ, List.set_cons_zero]
             (refine takeE (i := 14) (oi := { dst := some 205, op := Op.indexAddr 77 (Operand.tmp 191) (Operand.const (Value.int IntKind.i64 5)), type := 0, pos := "ref.go:98", after := #[eD 0, eP 0, eP 1, eP 2, eP 3, eP 4, eP 5, eP 6, eP 7, eP 8, eP 9, eP 10, eP 11, eP 12, eP 13], guard := none }) (N := some 205) #[true, true, true, true, true, true, true, true, true, true, true, true, true, true, true, false] rfl rfl (by as_aux_lemma => kernel_rfl) (fun _ _ _ _ h => h) hS ?_; apply Exists.intro; refine ⟨Or.inl ⟨by rfl, ?_⟩, ?_⟩; · (intro w0 h; first | (exact rn_rowIdx rfl h 0 rfl rfl 5 5 rfl rfl u_bools bool_size (by omega)) | (exact rn_rdIdx rfl rfl rfl u_banks bav_info hlt3) | (go_simp; with_reducible rfl)))
             try simp only [Act.put, List.setIfInBounds_toArray, List.set_cons_succ, List.set_cons_zero]
             (refine last_ (i := 15) (oi := { dst := none, op := Op.store 4 (Operand.tmp 205) (Operand.tmp 204), type := 0, pos := "ref.go:98", after := #[eD 14, eD 13, eC 12, eP 0, eP 1, eP 2, eP 3, eP 4, eP 5, eP 6, eP 7, eP 8, eP 9, eP 10, eP 11, eP 12, eP 13], guard := none }) (N := none) #[true, true, true, true, true, true, true, true, true, true, true, true, true, true, true, true] rfl rfl (by as_aux_lemma => kernel_rfl) (by decide) (fun K hK => ?_); rw [if_pos (by rfl)]; first | (refine wk_rowStore1 hw rfl rfl 0 rfl (by omega) (.bool _) rfl (by decide +kernel) rfl ?_; clear hw; intro w hw; (try simp only [List.set_cons_succ, List.set_cons_zero, List.setIfInBounds_toArray, Value.cells, List.eraseIdx_cons_succ, List.eraseIdx_cons_zero] at hw); rw [mkV_sd] at hw))
             refine hK.out _ _ ?_; clear hK K; try simp only [Act.put, List.setIfInBounds_toArray, List.set_cons_succ, List.set_cons_zero]
             refine done_ (by as_aux_lemma => kernel_rfl) ?_; clear hS
             go_wp2_with (first | (refine wl_run (d := some 190) (rn_cadd rfl (by exact rfl) (by exact rfl) _ rfl (by omega)) ?_))
             go_roundw
             case rel => exact ⟨k + 1, _, by omega, by go_num, HQB, hw⟩
             case measure => simp [intOf]; omega)
         · obtain rfl : N = k := by omega
           have hqb := hqb.out
           rw [List.drop_of_length_le (by rw [hN.out]; exact Nat.le_refl _), bR_nil, Bool.or_false] at hqb
           have GB := Kp.mk hqb
           clear hqb
           have em := Kp.mk (show marksF p cs bs = Mk.mk ma mk mu d2 by unfold marksF; rw [← GA.out, ← GK.out, ← GU.out, ← GD.out, GB.out])
           go_wp2_with (first
             | (go_at_call 25; go_must (refine (Calls.mono (rfw_Faults (m := ⟨ma, mk, mu, d2⟩) hw) ?_)); clear hw; rintro e w ⟨A4, c4, rfl, hw⟩; (try simp only [List.set_cons_succ, List.set_cons_zero, List.setIfInBounds_toArray, Value.cells, List.eraseIdx_cons_succ, List.eraseIdx_cons_zero] at hw))
             | (refine wl_run (d := some 188) (rn_clss rfl (by exact rfl) (by exact rfl) true (decide_eq_true (by omega))) ?_) | (refine wl_run (d := some 188) (rn_clss rfl (by exact rfl) (by exact rfl) false (decide_eq_false (by omega))) ?_))
           go_ret
           rw [em.out]
           exact ⟨_, _, rfl, (Sat.gets hw (by repeat (first | exact Gets.nil | exact Gets.refl _ | refine Gets.get 0 rfl ?_ | refine Gets.get 1 rfl ?_ | refine Gets.get 2 rfl ?_ | refine Gets.get 3 rfl ?_ | refine Gets.get 4 rfl ?_ | refine Gets.get 5 rfl ?_ | refine Gets.drop ?_)))⟩
end
end Go.Proofs.Ytklhmlplabkoeaa
