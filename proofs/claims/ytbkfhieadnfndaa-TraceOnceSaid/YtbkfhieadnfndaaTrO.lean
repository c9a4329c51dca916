/- The law TraceOnce: at no time has a core two operations that aren't done; each one is done once. Conditions: none. -/
import Derived.Test.YtbkfhieadnfndaaTrS
set_option linter.unusedVariables false
set_option linter.unusedSimpArgs false
namespace Go.Proofs.Ytbkfhieadnfndaa
open Go.RowKit Go.Bst Go.MapKept
attribute [local irreducible] wpList Calls Code.wp Code.wpN Oper.wp Go.Proofs.YtbkfhieadnfndaaW.PrintLast.wpAnyLast

def Counts (f : Value → Option Value) (es : List Ent) : Prop := ∀ c : Int, (f (.int .i64 c)).getD (.int .i64 0) = .int .i64 (cnt es c)
theorem Counts.upd {f : Value → Option Value} {es es' : List Ent} (h : Counts f es) {c d : Int} (hc : ∀ c2, cnt es' c2 = if c2 = c then d else cnt es c2) : Counts (upd f (.int .i64 c) (some (.int .i64 d))) es' := by
  intro c2
  rw [hc]
  by_cases q : c2 = c
  · subst q; rw [upd_same, if_pos rfl]; rfl
  · rw [upd_ne _ _ _ (by intro e; injection e with _ e; exact q e), if_neg q]; exact h c2
set_option maxRecDepth 1000000 in
set_option maxHeartbeats 4000000 in
theorem trace_once {W : World} {n0 : Int} {v : Value} {l : List (Array Value)} (hr : Rd W 9 v l.length (flat l)) (hm : ∀ c ∈ l, fitAll callK19 c.toList) :
    Calls Try.prog 7 #[.int .i64 n0, v] W fun e w' => e = .returned (.bool true) ∧ Sat (World.env W) w' [Old W] := by
  obtain ⟨A, cap, rfl, hcap⟩ := hr.form
  have hw : Sat (World.env W) W [Old W] := Sat.init W
  by_cases hlen : 100 < l.length
  · have hlen' : (100 : Int) < (l.length : Int) := by omega
    go_enter Try.func7, Try.ntmps7
    go_wp2_with (go_at_call 24; refine (trace_speaks hw).mono ?_; clear hw; rintro e w ⟨rfl, hw⟩)
    go_ret
    exact ⟨rfl, hw⟩
  · obtain ⟨cores, hcores⟩ : ∃ cores : Int, (n0 < 0 ∧ cores = 0) ∨ (0 ≤ n0 ∧ cores = n0) := by
      rcases Int.lt_or_le n0 0 with h | h
      · exact ⟨0, .inl ⟨h, rfl⟩⟩
      · exact ⟨n0, .inr ⟨h, rfl⟩⟩
    have HC := Kp.mk hcores
    clear hcores
    have HM := Kp.mk hm
    clear hm
    have hll : l.length ≤ 100 := by omega
    go_enter Try.func7, Try.ntmps7
    go_wp2_with (first
      | (go_at_call 24; refine (trace_speaks hw).mono ?_; clear hw; rintro e w ⟨rfl, hw⟩)
      | (go_at_call 25; refine (trace_new hw HC.out).mono ?_; clear hw; rintro e w ⟨lg, rfl, hw⟩)
      | (refine wl_makeMap hw (IsKey (.int .i64)) ?_; clear hw; intro m w hw))
    have hw := hw.front 1 rfl
    (try simp only [List.set_cons_succ, List.set_cons_zero, List.setIfInBounds_toArray, Value.cells, List.eraseIdx_cons_succ, List.eraseIdx_cons_zero] at hw)
    go_loopw [7, 20] (fun s i wr => ∃ k : Nat, k ≤ l.length ∧ i = .int .i64 k ∧ ∃ es ended f, s = .int .i64 (ended : List Nat).length ∧ (es : List Ent).length ≤ k ∧ Counts f es ∧ Sat (World.env W) wr [Log lg cores es ended, Mf m (IsKey (.int .i64)) f, Old W]) (fun _ i _ => l.length - (intOf i).toNat)
    case atStart => exact ⟨0, by omega, rfl, [], [], _, rfl, by simp, fun c => rfl, hw⟩
    case round =>
      clear hw
      obtain ⟨k, hk, rfl, es, ended, f, rfl, hek, hf, hw⟩ := hrel
      have hok := (Log_open hw).1
      have hle := hok.le
      by_cases hlt : k < l.length
      · obtain ⟨cs, hcs0⟩ : ∃ cs, l[k]? = some cs := ⟨_, List.getElem?_eq_getElem hlt⟩
        obtain ⟨t, c, at', kk, a, n, v, w', res, hc, he, hres, hat⟩ := Call19.form (HM.out cs (List.mem_of_getElem? hcs0))
        obtain ⟨ad, rfl, hca⟩ := (hr.sub (hw.subOld 2 rfl)).addr (by omega)
        have ca := Kp.mk (cells_at (sz := 9) hca (fun x hx => by have := fitAll_len (HM.out x hx); rw [show callK19.length = 9 from rfl] at this; simpa using this) hcs0)
        have hsz : cs.size = 9 := by rw [hc]; rfl
        have hone : cs.all (·.oneCell') = true := by rw [hc]; exact ccs_one _ _ _ _ _ _ _ _ _
        have Hcs := Kp.mk (show cs = #[.bool t, .int .i64 c, .int .i64 at', .int .i64 kk, .int .i64 a, .int .i64 n, .int .u64 v, .int .u64 w', .int .u64 res] from hc)
        have hlt' : (k : Int) < (l.length : Int) := by omega
        have hk0 : (k : Int) + 1 ≤ 9223372036854775807 := by omega
        clear hca hcs0 hc
        have Hok := Kp.mk hok
        have Hf := Kp.mk hf
        have HE := Kp.mk he
        have HR := Kp.mk hres
        have HA := Kp.mk hat
        clear hok hf he hres hat
        go_upto_if 25 with (first
          | (refine wl_ldA (m := cs) (ad := ad.add (k * 9)) rfl (by rw [call19_agg, hsz]) ca.out ?_)
          | (refine wl_alloc hw call19_zero ?_; clear hw; intro b w hw; (try simp only [List.set_cons_succ, List.set_cons_zero, List.setIfInBounds_toArray, Value.cells, List.eraseIdx_cons_succ, List.eraseIdx_cons_zero] at hw))
          | (refine wl_store_all (vs := cs) hw rfl 0 rfl rfl (by rw [call19_size, hsz]) (by rw [hsz]; rfl) hone ?_; clear hw; intro w hw; (try simp only [List.set_cons_succ, List.set_cons_zero, List.setIfInBounds_toArray, Value.cells, List.eraseIdx_cons_succ, List.eraseIdx_cons_zero] at hw); rw [Hcs.out] at hw)
          | (refine wl_load1 hw rfl 0 rfl (by kernel_rfl) (by simp only [List.getElem?_toArray, List.getElem?_cons_succ, List.getElem?_cons_zero]; exact rfl) ?_))
        simp only [Act.put, List.setIfInBounds_toArray, List.set_cons_succ, List.set_cons_zero]
        go_cut [7] from 21 to 68 (fun s wc => ∃ es ended f, s = .int .i64 (ended : List Nat).length ∧ (es : List Ent).length ≤ k + 1 ∧ Counts f es ∧ Sat (World.env W) wc [pt b (.cells #[.bool t, .int .i64 c, .int .i64 at', .int .i64 kk, .int .i64 a, .int .i64 n, .int .u64 v, .int .u64 w', .int .u64 res] 61 (0, 0)), Log lg cores es ended, Mf m (IsKey (.int .i64)) f, Old W])
        case first =>
          by_cases hrange : 0 ≤ c ∧ c < cores
          · cases hi : openOf es c with
            | none =>
              cases t with
              | true =>
                go_wp2_with (first
                  | (refine wl_load1 hw rfl 0 rfl (by kernel_rfl) (by simp only [List.getElem?_toArray, List.getElem?_cons_succ, List.getElem?_cons_zero]; exact rfl) ?_)
                  | (go_at_call 26; go_must (refine (trace_end_none (hw.front 1 rfl) hrange hi).mono ?_); clear hw; rintro e w ⟨rfl, hw⟩; (try simp only [List.set_cons_succ, List.set_cons_zero, List.setIfInBounds_toArray, Value.cells, List.eraseIdx_cons_succ, List.eraseIdx_cons_zero] at hw)))
                go_meet
                case rel => exact ⟨es, ended, f, rfl, by omega, Hf.out, hw.front 1 rfl⟩
              | false =>
                have hv0 : (f (.int .i64 c)).getD (.int .i64 0) = .int .i64 0 := by rw [Hf.out]; simp [cnt, hi]
                go_wp2_with (first
                  | (refine wl_load (n := 5) hw rfl 0 rfl (by rw [op_agg]) (by simp) ?_; rw [show (#[Value.bool false, .int .i64 c, .int .i64 at', .int .i64 kk, .int .i64 a, .int .i64 n, .int .u64 v, .int .u64 w', .int .u64 res] : Array Value).extract 3 (3 + 5) = opcs kk a n v w' from rfl])
                  | (refine wl_load1 hw rfl 0 rfl (by kernel_rfl) (by simp only [List.getElem?_toArray, List.getElem?_cons_succ, List.getElem?_cons_zero]; exact rfl) ?_)
                  | (refine wl_load1 hw rfl 1 rfl (by kernel_rfl) (by simp only [List.getElem?_toArray, List.getElem?_cons_succ, List.getElem?_cons_zero]; exact rfl) ?_)
                  | (go_at_call 28; go_must (refine (trace_begin (hw.front 1 rfl) hrange hi HE.out (by omega)).mono ?_); clear hw; rintro e w ⟨rfl, hw⟩; (try simp only [List.set_cons_succ, List.set_cons_zero, List.setIfInBounds_toArray, Value.cells, List.eraseIdx_cons_succ, List.eraseIdx_cons_zero] at hw))
                  | (refine wl_lookup hw rfl 2 rfl KK u_mii z_int rfl (key_ok _) _ hv0 ?_)
                  | (refine wl_mapUpdate hw rfl 2 rfl KK u_mii rfl (key_ok _) (.int .i64 1) rfl ?_; clear hw; intro w hw; (try simp only [List.set_cons_succ, List.set_cons_zero, List.setIfInBounds_toArray, Value.cells, List.eraseIdx_cons_succ, List.eraseIdx_cons_zero] at hw)))
                go_meet
                case rel => exact ⟨_, ended, _, rfl, by simp; omega, Hf.out.upd (fun c2 => cnt_begin rfl hi c2), hw.front 1 rfl⟩
            | some i =>
              obtain ⟨en, hen, hcore, hdone⟩ := openOf_some hi
              cases t with
              | true =>
                have hv0 : (f (.int .i64 c)).getD (.int .i64 0) = .int .i64 1 := by rw [Hf.out]; simp [cnt, hi]
                have hd0 : ((ended.length : Nat) : Int) + 1 ≤ 9223372036854775807 := by omega
                go_wp2_with (first
                  | (refine wl_load1 hw rfl 0 rfl (by kernel_rfl) (by simp only [List.getElem?_toArray, List.getElem?_cons_succ, List.getElem?_cons_zero]; exact rfl) ?_)
                  | (refine wl_load1 hw rfl 1 rfl (by kernel_rfl) (by simp only [List.getElem?_toArray, List.getElem?_cons_succ, List.getElem?_cons_zero]; exact rfl) ?_)
                  | (go_at_call 26; go_must (refine (trace_end (hw.front 1 rfl) hrange hi hen HR.out HA.out (by omega)).mono ?_); clear hw; rintro e w ⟨rfl, hw⟩; (try simp only [List.set_cons_succ, List.set_cons_zero, List.setIfInBounds_toArray, Value.cells, List.eraseIdx_cons_succ, List.eraseIdx_cons_zero] at hw))
                  | (refine wl_lookup hw rfl 2 rfl KK u_mii z_int rfl (key_ok _) _ hv0 ?_)
                  | (refine wl_mapUpdate hw rfl 2 rfl KK u_mii rfl (key_ok _) (.int .i64 0) rfl ?_; clear hw; intro w hw; (try simp only [List.set_cons_succ, List.set_cons_zero, List.setIfInBounds_toArray, Value.cells, List.eraseIdx_cons_succ, List.eraseIdx_cons_zero] at hw)))
                go_meet
                case rel => exact ⟨_, _, _, by simp, by simp; omega, Hf.out.upd (fun c2 => by rw [cnt_end Hok.out hen hdone, hcore]), hw.front 1 rfl⟩
              | false =>
                go_wp2_with (first
                  | (refine wl_load (n := 5) hw rfl 0 rfl (by rw [op_agg]) (by simp) ?_; rw [show (#[Value.bool false, .int .i64 c, .int .i64 at', .int .i64 kk, .int .i64 a, .int .i64 n, .int .u64 v, .int .u64 w', .int .u64 res] : Array Value).extract 3 (3 + 5) = opcs kk a n v w' from rfl])
                  | (refine wl_load1 hw rfl 0 rfl (by kernel_rfl) (by simp only [List.getElem?_toArray, List.getElem?_cons_succ, List.getElem?_cons_zero]; exact rfl) ?_)
                  | (go_at_call 28; go_must (refine (trace_begin_busy (hw.front 1 rfl) hrange hi).mono ?_); clear hw; rintro e w ⟨rfl, hw⟩; (try simp only [List.set_cons_succ, List.set_cons_zero, List.setIfInBounds_toArray, Value.cells, List.eraseIdx_cons_succ, List.eraseIdx_cons_zero] at hw)))
                go_meet
                case rel => exact ⟨es, ended, f, rfl, by omega, Hf.out, hw.front 1 rfl⟩
          · have hout : c < 0 ∨ (0 ≤ c ∧ cores ≤ c) := by omega
            clear hrange
            cases t with
            | true =>
              go_wp2_with (first
                | (refine wl_load1 hw rfl 0 rfl (by kernel_rfl) (by simp only [List.getElem?_toArray, List.getElem?_cons_succ, List.getElem?_cons_zero]; exact rfl) ?_)
                | (go_at_call 26; go_must (refine (trace_end_range (hw.front 1 rfl) hout).mono ?_); clear hw; rintro e w ⟨rfl, hw⟩; (try simp only [List.set_cons_succ, List.set_cons_zero, List.setIfInBounds_toArray, Value.cells, List.eraseIdx_cons_succ, List.eraseIdx_cons_zero] at hw)))
              go_meet
              case rel => exact ⟨es, ended, f, rfl, by omega, Hf.out, hw.front 1 rfl⟩
            | false =>
              go_wp2_with (first
                | (refine wl_load (n := 5) hw rfl 0 rfl (by rw [op_agg]) (by simp) ?_; rw [show (#[Value.bool false, .int .i64 c, .int .i64 at', .int .i64 kk, .int .i64 a, .int .i64 n, .int .u64 v, .int .u64 w', .int .u64 res] : Array Value).extract 3 (3 + 5) = opcs kk a n v w' from rfl])
                | (refine wl_load1 hw rfl 0 rfl (by kernel_rfl) (by simp only [List.getElem?_toArray, List.getElem?_cons_succ, List.getElem?_cons_zero]; exact rfl) ?_)
                | (go_at_call 28; go_must (refine (trace_begin_range (hw.front 1 rfl) hout).mono ?_); clear hw; rintro e w ⟨rfl, hw⟩; (try simp only [List.set_cons_succ, List.set_cons_zero, List.setIfInBounds_toArray, Value.cells, List.eraseIdx_cons_succ, List.eraseIdx_cons_zero] at hw)))
              go_meet
              case rel => exact ⟨es, ended, f, rfl, by omega, Hf.out, hw.front 1 rfl⟩
        case rest =>
          clear hw Hok Hf hek hle
          obtain ⟨es, ended, f, rfl, hek, hf, hw⟩ := hcut
          have hcv := hf c
          have Hf := Kp.mk hf
          clear hf
          have h01 : cnt es c = 0 ∨ cnt es c = 1 := by unfold cnt; split <;> simp
          rcases h01 with h01 | h01
          all_goals
            rw [h01] at hcv
            clear h01
            go_wp2_with (first
              | (refine wl_load1 hw rfl 0 rfl (by kernel_rfl) (by simp only [List.getElem?_toArray, List.getElem?_cons_succ, List.getElem?_cons_zero]; exact rfl) ?_)
              | (refine wl_want (by rfl) (fun K hK => ?_); refine wk_load1 hw rfl 0 rfl (by kernel_rfl) (by simp only [List.getElem?_toArray, List.getElem?_cons_succ, List.getElem?_cons_zero]; exact rfl) ?_; refine hK _ _ ?_; clear hK K)
              | (refine wl_lookup hw rfl 2 rfl KK u_mii z_int rfl (key_ok _) _ hcv ?_)
              | (refine wl_want (by rfl) (fun K hK => ?_); refine wk_lookup hw rfl 2 rfl KK u_mii z_int rfl (key_ok _) _ hcv ?_; refine hK _ _ ?_; clear hK K))
            go_roundw
            case rel => exact ⟨k + 1, by omega, by go_num, es, ended, f, rfl, by omega, Hf.out, hw.tail⟩
            case measure => simp [intOf]; omega
      · have hle' : ((ended.length : Nat) : Int) ≤ (es.length : Nat) := by omega
        go_wp2_with (first
          | (go_at_call 34; go_must (refine (trace_done hw (by omega)).mono ?_); clear hw; rintro e w ⟨v, rfl, hw⟩; (try simp only [List.set_cons_succ, List.set_cons_zero, List.setIfInBounds_toArray, Value.cells, List.eraseIdx_cons_succ, List.eraseIdx_cons_zero] at hw); obtain ⟨A, c, rfl, _, _⟩ := Row_val hw 0 rfl)
          | (go_at_call 33; go_must (refine (trace_list (hw.front 1 rfl) (by omega)).mono ?_); clear hw; rintro e w ⟨v, rfl, hw⟩; (try simp only [List.set_cons_succ, List.set_cons_zero, List.setIfInBounds_toArray, Value.cells, List.eraseIdx_cons_succ, List.eraseIdx_cons_zero] at hw); obtain ⟨A, c, rfl, _, _⟩ := Row_val hw 0 rfl))
        go_ret
        exact ⟨rfl, hw.tail.tail.tail.tail⟩
end Go.Proofs.Ytbkfhieadnfndaa
