/- watch: a crowd of lines, each where it is; a core's, a bank's. Conditions: none. -/
import Derived.Test.YtklhmlplabkoeaaEdg
import Derived.Test.YtklhmlplabkoeaaWchR
set_option linter.unusedVariables false
set_option linter.unusedSimpArgs false
namespace Go.Proofs.Ytklhmlplabkoeaa
open Go.RowKit Go.Bst Go.MapKept Go.Proofs.YtklhmlplabkoeaaW.PrintLast
section
variable {E : Env} {w : World} {F : List HP} {p : Pl}
attribute [local irreducible] andI hasF knowsB knownF crowdF cntM pairM nearP farP lineB upd wpList Calls Code.wp Code.wpN Oper.wp Go.Proofs.YtklhmlplabkoeaaW.PrintLast.wpAnyLast
theorem crowd_stop {most : Int} {s : List (Int × Int)} {a k : Int} {ok : Bool} {r : List Trip} (h : ¬ (ok = true ∧ ((s.countP (fun q => q.1 == a) : Nat) : Int) + 1 ≤ most ∧ (a, k) ∉ s)) : crowdF most s ((a, k, ok) :: r) = false := by unfold crowdF; rw [if_neg h]
theorem crowd_go {most : Int} {s : List (Int × Int)} {a k : Int} {ok : Bool} {r : List Trip} (h : ok = true ∧ ((s.countP (fun q => q.1 == a) : Nat) : Int) + 1 ≤ most ∧ (a, k) ∉ s) : crowdF most s ((a, k, ok) :: r) = crowdF most ((a, k) :: s) r := by
  rw [crowdF.eq_def]
  exact if_pos h
theorem crowd_nil {most : Int} {s : List (Int × Int)} : crowdF most s [] = true := by unfold crowdF; rfl
set_option maxRecDepth 100000 in
set_option maxHeartbeats 4000000 in
theorem wch_crowdN {ls : List Nev} {A : Option Addr} {n cap : Nat} {most : Int} {bp : Nat} (hp : ∀ w', Sat E w' F → w'.heap[bp]? = some (.cells p.cs 28 (0, 0))) (hin : ∀ x ∈ ls, i64B x.line) (hrt : rightB p = true) (hw : Sat E w F)
    (hn : ls.length = n) (hn2 : n ≤ 1000) (hr : ∀ w', Sat E w' F → Rd w' 34 (.slice A ls.length cap) ls.length (flat (ls.map Nev.cs))) :
    Calls Try.prog 44 #[.slice A n cap, .int .i64 most, .func (.func 45) #[] #[.pointer (some ⟨bp, 0, none⟩)]] w fun e w' => e = .returned (.bool (crowdF most [] (ls.map (nearP p)))) ∧ Sat E w' F := by
  have HR := Kp.mk hr
  have HN := Kp.mk hn
  have HI := Kp.mk hin
  have HP := Kp.mk hp; clear hp
  clear hr hn hin
  go_enter Try.func44, Try.ntmps44
  go_wp2_with (first
    | (refine wl_makeMap (d := some 14) hw (IsKey (.int .i64)) ?_; clear hw; intro m1 w hw; replace hw := Mf_congr hw (g := cntM []) (fun k _ => (cntM_nil k).symm))
    | (refine wl_makeMap (d := some 15) hw IsPair ?_; clear hw; intro m2 w hw; replace hw := Mf_congr hw (g := pairM []) (fun k _ => (pairM_nil k).symm)))
  go_loopw [18] (fun i wr => ∃ (j : Nat) (s : List (Int × Int)), j ≤ n ∧ i = .int .i64 j ∧ s.length ≤ j ∧ Kp (crowdF most s ((ls.drop j).map (nearP p)) = crowdF most [] (ls.map (nearP p))) ∧ Sat E wr (Mf m2 IsPair (pairM s) :: Mf m1 (IsKey (.int .i64)) (cntM s) :: F)) (fun i _ => n - (intOf i).toNat)
  case atStart => exact ⟨0, [], by omega, rfl, by simp, Kp.mk rfl, hw⟩
  case round =>
    clear hw
    obtain ⟨j, s, hj, rfl, hsj, hR, hw⟩ := hrel
    by_cases hlt : j < n
    · obtain ⟨x, hx⟩ : ∃ x, ls[j]? = some x := ⟨_, List.getElem?_eq_getElem (by rw [HN.out]; exact hlt)⟩
      obtain ⟨ga, qa, rfl, hcell⟩ := rd_el (f := Nev.cs) Nev.size (by decide) HR.out (by first | exact hw | exact hw.tail | exact hw.tail.tail | exact hw.tail.tail.tail | exact hw.tail.tail.tail.tail | exact hw.tail.tail.tail.tail.tail | exact hw.tail.tail.tail.tail.tail.tail) hx
      have HC := Kp.mk hcell
      have hxi := HI.out x (List.mem_of_getElem? hx)
      obtain ⟨a, k, ok, hT⟩ : ∃ a k ok, Kp (nearP p x = (a, k, ok)) := ⟨_, _, _, Kp.mk rfl⟩
      have hpair : IsPair (.agg #[.int .i64 a, .int .i64 k]) := near_pair hrt hxi hT.out
      have hR := hR.out
      rw [drop_get hx, List.map_cons, hT.out] at hR
      obtain ⟨c, hc⟩ : ∃ c, Kp (s.countP (fun q => q.1 == a) = c) := ⟨_, Kp.mk rfl⟩
      have hc1000 : c ≤ 1000 := by rw [← hc.out]; exact Nat.le_trans List.countP_le_length (by omega)
      have hg0 := Kp.mk (show (cntM s (.int .i64 a)).getD (.int .i64 0) = .int .i64 c by rw [cntM_get, hc.out])
      have hup := Kp.mk (show ∀ v, IsKey (.int .i64) v → upd (cntM s) (.int .i64 a) (some (.int .i64 ((c : Int) + 1))) v = cntM ((a, k) :: s) v from fun v hv => cntM_upd hc.out v hv)
      have hg1 := Kp.mk (show (cntM ((a, k) :: s) (.int .i64 a)).getD (.int .i64 0) = .int .i64 ((c : Int) + 1) by rw [← hup.out (.int .i64 a) rfl, upd_same]; rfl)
      have hg2 := Kp.mk (pairM_get s a k)
      have hup2 := Kp.mk (show ∀ v, IsPair v → upd (pairM s) (.agg #[.int .i64 a, .int .i64 k]) (some (.bool true)) v = pairM ((a, k) :: s) v from fun v _ => pairM_upd s a k v)
      obtain ⟨z, hz⟩ : ∃ z, Kp (decide ((a, k) ∈ s) = z) := ⟨_, Kp.mk rfl⟩
      rw [hz.out] at hg2
      clear hcell hx
      have hcase : ok = false ∨ (ok = true ∧ most < (c : Int) + 1) ∨ (ok = true ∧ (c : Int) + 1 ≤ most) := by
        cases ok
        · exact .inl rfl
        · rcases Int.lt_or_le most ((c : Int) + 1) with h | h
          · exact .inr (.inl ⟨rfl, h⟩)
          · exact .inr (.inr ⟨rfl, h⟩)
      by_cases hbad : ok = false ∨ (ok = true ∧ most < (c : Int) + 1) ∨ (ok = true ∧ (c : Int) + 1 ≤ most ∧ z = true)
      · have HF := Kp.mk (show crowdF most [] (ls.map (nearP p)) = false by
          rw [← hR]
          refine crowd_stop fun hh => ?_
          rw [hc.out] at hh
          rcases hbad with h | ⟨_, h⟩ | ⟨_, _, h⟩
          · rw [hh.1] at h; cases h
          · omega
          · rw [← hz.out, decide_eq_true_eq] at h; exact hh.2.2 h)
        clear hR hcase
        rcases hbad with h1 | ⟨h1, h2⟩ | ⟨h1, h2, h3⟩
        all_goals (
          subst h1
          (try subst h3)
          go_wp2_with (first
            | (refine wl_run (d := some 20) (rn_rdIdx rfl rfl rfl u_nears nev_info hlt) ?_)
            | (refine wl_run (d := some 21) (rn_rdLdA (m := x.cs) rfl rfl (by rw [nev_agg, Nev.size]) (HC.out _ (by first | exact hw | exact hw.tail | exact hw.tail.tail | exact hw.tail.tail.tail | exact hw.tail.tail.tail.tail | exact hw.tail.tail.tail.tail.tail | exact hw.tail.tail.tail.tail.tail.tail))) ?_)
            | (refine wl_callV (dd := some 25) 45 rfl (by kernel_rfl) ?_; simp only [List.map_toArray, List.map_cons, List.map_nil, Act.eval, gd_s, gd_0, List.append_toArray, List.cons_append, List.nil_append]; go_must (refine (Calls.mono (wch_near1 (x := x) (p := p) (fun w' hs => HP.out w' (by first | exact hs | exact hs.tail | exact hs.tail.tail | exact hs.tail.tail.tail | exact hs.tail.tail.tail.tail | exact hs.tail.tail.tail.tail.tail | exact hs.tail.tail.tail.tail.tail.tail)) hrt hw) ?_)); clear hw; rintro e w ⟨rfl, hw⟩; rw [hT.out]; dsimp only; refine ⟨_, rfl, ?_⟩)
            | (refine wl_lookup (d := some 31) (key := .int .i64 a) hw rfl 2 rfl KI u_map1 zz_int rfl (by exact rfl) _ hg0.out ?_)
            | (refine wl_mapUpdate (key := .int .i64 a) hw rfl 2 rfl KI u_map1 rfl (by exact rfl) (.int .i64 ((c : Int) + 1)) rfl ?_; clear hw; intro w hw; (try simp only [List.set_cons_succ, List.set_cons_zero, List.setIfInBounds_toArray, Value.cells, List.eraseIdx_cons_succ, List.eraseIdx_cons_zero] at hw); replace hw := Mf_congr (hw.front 2 rfl) hup.out; (try simp only [List.set_cons_succ, List.set_cons_zero, List.setIfInBounds_toArray, Value.cells, List.eraseIdx_cons_succ, List.eraseIdx_cons_zero] at hw))
            | (refine wl_want (by rfl) (fun K hK => ?_); refine wk_lookup (d := some 38) (key := .int .i64 a) hw rfl 0 rfl KI u_map1 zz_int rfl (by exact rfl) _ hg1.out ?_; refine hK _ _ ?_; clear hK K)
            | (refine wl_want (by rfl) (fun K hK => ?_); refine wk_run (rn_build #[.int .i64 a, .int .i64 k] rfl (by simp only [List.map_cons, List.map_nil, Act.eval, Act.put, List.setIfInBounds_toArray, List.set_cons_succ, List.set_cons_zero, gd_s, gd_0, U_cells, Y_cells, Value.cells]; exact rfl) (by kernel_rfl)) ?_; refine hK _ _ ?_; clear hK K)
            | (refine wl_want (by rfl) (fun K hK => ?_); refine wk_lookup (d := some 47) (key := .agg #[.int .i64 a, .int .i64 k]) hw rfl 2 rfl KPr u_map2 zz_bool rfl hpair _ hg2.out ?_; refine hK _ _ ?_; clear hK K)
            | (refine wl_run (rn_build #[.int .i64 a, .int .i64 k] rfl (by simp only [List.map_cons, List.map_nil, Act.eval, Act.put, List.setIfInBounds_toArray, List.set_cons_succ, List.set_cons_zero, gd_s, gd_0, U_cells, Y_cells, Value.cells]; exact rfl) (by kernel_rfl)) ?_)
            | (refine wl_mapUpdate (key := .agg #[.int .i64 a, .int .i64 k]) hw rfl 2 rfl KPr u_map2 rfl hpair (.bool true) rfl ?_; clear hw; intro w hw; (try simp only [List.set_cons_succ, List.set_cons_zero, List.setIfInBounds_toArray, Value.cells, List.eraseIdx_cons_succ, List.eraseIdx_cons_zero] at hw); replace hw := Mf_congr (hw.front 2 rfl) hup2.out; (try simp only [List.set_cons_succ, List.set_cons_zero, List.setIfInBounds_toArray, Value.cells, List.eraseIdx_cons_succ, List.eraseIdx_cons_zero] at hw))
            | (refine wl_run (d := some 19) (rn_clss rfl (by exact rfl) (by exact rfl) true (decide_eq_true (by omega))) ?_) | (refine wl_run (d := some 19) (rn_clss rfl (by exact rfl) (by exact rfl) false (decide_eq_false (by omega))) ?_) | (refine wl_alloc (d := some 10) hw nev_zero ?_; clear hw; intro b10 w hw; (try simp only [List.set_cons_succ, List.set_cons_zero, List.setIfInBounds_toArray, Value.cells, List.eraseIdx_cons_succ, List.eraseIdx_cons_zero] at hw)) | (refine wb_storeA (x := Operand.tmp 10) hw rfl rfl (by first | exact Upd.mk 0 rfl | exact Upd.mk 1 rfl | exact Upd.mk 2 rfl | exact Upd.mk 3 rfl | exact Upd.mk 4 rfl | exact Upd.mk 5 rfl | exact Upd.mk 6 rfl | exact Upd.mk 7 rfl | exact Upd.mk 8 rfl) (by rw [nev_info, Nev.size]) (by rw [Nev.size, Nev.size]) (by exact Nev.one _) ?_; clear hw; intro w hw; (try simp only [List.set_cons_succ, List.set_cons_zero, List.setIfInBounds_toArray, Value.cells, List.eraseIdx_cons_succ, List.eraseIdx_cons_zero] at hw)) | (refine wb_loadA (d := some 24)  rfl (by first | exact hw.read 0 rfl | exact hw.read 1 rfl | exact hw.read 2 rfl | exact hw.read 3 rfl | exact hw.read 4 rfl) (by rw [nev_agg, Nev.size]) ?_) | (refine wl_run (d := some 32) (rn_cadd rfl (by exact rfl) (by exact rfl) _ rfl (by omega)) ?_) | (refine wg_run (d := some 40) (by rfl) (rn_cgtr rfl (by exact rfl) (by exact rfl) true (decide_eq_true (by omega))) ?_) | (refine wg_run (d := some 40) (by rfl) (rn_cgtr rfl (by exact rfl) (by exact rfl) false (decide_eq_false (by omega))) ?_))
          go_ret
          rw [HF.out]
          exact ⟨rfl, (Sat.gets hw (by repeat (first | exact Gets.nil | exact Gets.refl _ | refine Gets.get 0 rfl ?_ | refine Gets.get 1 rfl ?_ | refine Gets.get 2 rfl ?_ | refine Gets.get 3 rfl ?_ | refine Gets.get 4 rfl ?_ | refine Gets.get 5 rfl ?_ | refine Gets.drop ?_)))⟩)
      · obtain ⟨h1, h2, h3⟩ : ok = true ∧ (c : Int) + 1 ≤ most ∧ z = false := by
          rcases hcase with h | ⟨h, h'⟩ | ⟨h, h'⟩
          · exact absurd (.inl h) hbad
          · exact absurd (.inr (.inl ⟨h, h'⟩)) hbad
          · refine ⟨h, h', ?_⟩
            cases z
            · rfl
            · exact absurd (.inr (.inr ⟨h, h', rfl⟩)) hbad
        have hns : (a, k) ∉ s := by have := hz.out; rw [h3, decide_eq_false_iff_not] at this; exact this
        rw [crowd_go ⟨h1, by rw [hc.out]; exact h2, hns⟩] at hR
        have HR2 := Kp.mk hR
        clear hR hcase hbad hns
        subst h1
        subst h3
        go_wp2_with (first
          | (refine wl_run (d := some 20) (rn_rdIdx rfl rfl rfl u_nears nev_info hlt) ?_)
          | (refine wl_run (d := some 21) (rn_rdLdA (m := x.cs) rfl rfl (by rw [nev_agg, Nev.size]) (HC.out _ (by first | exact hw | exact hw.tail | exact hw.tail.tail | exact hw.tail.tail.tail | exact hw.tail.tail.tail.tail | exact hw.tail.tail.tail.tail.tail | exact hw.tail.tail.tail.tail.tail.tail))) ?_)
          | (refine wl_callV (dd := some 25) 45 rfl (by kernel_rfl) ?_; simp only [List.map_toArray, List.map_cons, List.map_nil, Act.eval, gd_s, gd_0, List.append_toArray, List.cons_append, List.nil_append]; go_must (refine (Calls.mono (wch_near1 (x := x) (p := p) (fun w' hs => HP.out w' (by first | exact hs | exact hs.tail | exact hs.tail.tail | exact hs.tail.tail.tail | exact hs.tail.tail.tail.tail | exact hs.tail.tail.tail.tail.tail | exact hs.tail.tail.tail.tail.tail.tail)) hrt hw) ?_)); clear hw; rintro e w ⟨rfl, hw⟩; rw [hT.out]; dsimp only; refine ⟨_, rfl, ?_⟩)
          | (refine wl_lookup (d := some 31) (key := .int .i64 a) hw rfl 2 rfl KI u_map1 zz_int rfl (by exact rfl) _ hg0.out ?_)
          | (refine wl_mapUpdate (key := .int .i64 a) hw rfl 2 rfl KI u_map1 rfl (by exact rfl) (.int .i64 ((c : Int) + 1)) rfl ?_; clear hw; intro w hw; (try simp only [List.set_cons_succ, List.set_cons_zero, List.setIfInBounds_toArray, Value.cells, List.eraseIdx_cons_succ, List.eraseIdx_cons_zero] at hw); replace hw := Mf_congr (hw.front 2 rfl) hup.out; (try simp only [List.set_cons_succ, List.set_cons_zero, List.setIfInBounds_toArray, Value.cells, List.eraseIdx_cons_succ, List.eraseIdx_cons_zero] at hw))
          | (refine wl_want (by rfl) (fun K hK => ?_); refine wk_lookup (d := some 38) (key := .int .i64 a) hw rfl 0 rfl KI u_map1 zz_int rfl (by exact rfl) _ hg1.out ?_; refine hK _ _ ?_; clear hK K)
          | (refine wl_want (by rfl) (fun K hK => ?_); refine wk_run (rn_build #[.int .i64 a, .int .i64 k] rfl (by simp only [List.map_cons, List.map_nil, Act.eval, Act.put, List.setIfInBounds_toArray, List.set_cons_succ, List.set_cons_zero, gd_s, gd_0, U_cells, Y_cells, Value.cells]; exact rfl) (by kernel_rfl)) ?_; refine hK _ _ ?_; clear hK K)
          | (refine wl_want (by rfl) (fun K hK => ?_); refine wk_lookup (d := some 47) (key := .agg #[.int .i64 a, .int .i64 k]) hw rfl 2 rfl KPr u_map2 zz_bool rfl hpair _ hg2.out ?_; refine hK _ _ ?_; clear hK K)
          | (refine wl_run (rn_build #[.int .i64 a, .int .i64 k] rfl (by simp only [List.map_cons, List.map_nil, Act.eval, Act.put, List.setIfInBounds_toArray, List.set_cons_succ, List.set_cons_zero, gd_s, gd_0, U_cells, Y_cells, Value.cells]; exact rfl) (by kernel_rfl)) ?_)
          | (refine wl_mapUpdate (key := .agg #[.int .i64 a, .int .i64 k]) hw rfl 2 rfl KPr u_map2 rfl hpair (.bool true) rfl ?_; clear hw; intro w hw; (try simp only [List.set_cons_succ, List.set_cons_zero, List.setIfInBounds_toArray, Value.cells, List.eraseIdx_cons_succ, List.eraseIdx_cons_zero] at hw); replace hw := Mf_congr (hw.front 2 rfl) hup2.out; (try simp only [List.set_cons_succ, List.set_cons_zero, List.setIfInBounds_toArray, Value.cells, List.eraseIdx_cons_succ, List.eraseIdx_cons_zero] at hw))
          | (refine wl_run (d := some 19) (rn_clss rfl (by exact rfl) (by exact rfl) true (decide_eq_true (by omega))) ?_) | (refine wl_run (d := some 19) (rn_clss rfl (by exact rfl) (by exact rfl) false (decide_eq_false (by omega))) ?_) | (refine wl_alloc (d := some 10) hw nev_zero ?_; clear hw; intro b10 w hw; (try simp only [List.set_cons_succ, List.set_cons_zero, List.setIfInBounds_toArray, Value.cells, List.eraseIdx_cons_succ, List.eraseIdx_cons_zero] at hw)) | (refine wb_storeA (x := Operand.tmp 10) hw rfl rfl (by first | exact Upd.mk 0 rfl | exact Upd.mk 1 rfl | exact Upd.mk 2 rfl | exact Upd.mk 3 rfl | exact Upd.mk 4 rfl | exact Upd.mk 5 rfl | exact Upd.mk 6 rfl | exact Upd.mk 7 rfl | exact Upd.mk 8 rfl) (by rw [nev_info, Nev.size]) (by rw [Nev.size, Nev.size]) (by exact Nev.one _) ?_; clear hw; intro w hw; (try simp only [List.set_cons_succ, List.set_cons_zero, List.setIfInBounds_toArray, Value.cells, List.eraseIdx_cons_succ, List.eraseIdx_cons_zero] at hw)) | (refine wb_loadA (d := some 24)  rfl (by first | exact hw.read 0 rfl | exact hw.read 1 rfl | exact hw.read 2 rfl | exact hw.read 3 rfl | exact hw.read 4 rfl) (by rw [nev_agg, Nev.size]) ?_) | (refine wl_run (d := some 32) (rn_cadd rfl (by exact rfl) (by exact rfl) _ rfl (by omega)) ?_) | (refine wg_run (d := some 40) (by rfl) (rn_cgtr rfl (by exact rfl) (by exact rfl) true (decide_eq_true (by omega))) ?_) | (refine wg_run (d := some 40) (by rfl) (rn_cgtr rfl (by exact rfl) (by exact rfl) false (decide_eq_false (by omega))) ?_) | (refine wl_run (d := some 53) (rn_cadd rfl (by exact rfl) (by exact rfl) _ rfl (by omega)) ?_))
        go_roundw
        case rel => exact ⟨j + 1, (a, k) :: s, by omega, by go_num, by rw [List.length_cons]; omega, HR2, (Sat.gets hw (by repeat (first | exact Gets.nil | exact Gets.refl _ | refine Gets.get 0 rfl ?_ | refine Gets.get 1 rfl ?_ | refine Gets.get 2 rfl ?_ | refine Gets.get 3 rfl ?_ | refine Gets.get 4 rfl ?_ | refine Gets.get 5 rfl ?_ | refine Gets.drop ?_)))⟩
        case measure => simp [intOf]; omega
    · obtain rfl : n = j := by omega
      have hR := hR.out
      rw [List.drop_of_length_le (by rw [HN.out]; exact Nat.le_refl _)] at hR
      have HT := Kp.mk (show crowdF most [] (ls.map (nearP p)) = true by rw [← hR, List.map_nil, crowd_nil])
      clear hR
      go_wp2_with (first | (refine wl_run (d := some 19) (rn_clss rfl (by exact rfl) (by exact rfl) true (decide_eq_true (by omega))) ?_) | (refine wl_run (d := some 19) (rn_clss rfl (by exact rfl) (by exact rfl) false (decide_eq_false (by omega))) ?_))
      go_ret
      rw [HT.out]
      exact ⟨rfl, (Sat.gets hw (by repeat (first | exact Gets.nil | exact Gets.refl _ | refine Gets.get 0 rfl ?_ | refine Gets.get 1 rfl ?_ | refine Gets.get 2 rfl ?_ | refine Gets.get 3 rfl ?_ | refine Gets.get 4 rfl ?_ | refine Gets.get 5 rfl ?_ | refine Gets.drop ?_)))⟩
end
end Go.Proofs.Ytklhmlplabkoeaa
