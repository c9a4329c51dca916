/- The law TraceTells: what is told of an operation is what was noted of it. Conditions: none. -/
import Derived.Test.YtbkfhieadnfndaaTrS
set_option linter.unusedVariables false
set_option linter.unusedSimpArgs false
namespace Go.Proofs.Ytbkfhieadnfndaa
open Go.RowKit Go.Bst Go.MapKept
attribute [local irreducible] wpList Calls Code.wp Code.wpN Oper.wp Go.Proofs.YtbkfhieadnfndaaW.PrintLast.wpAnyLast

section
variable {E : Env} {w : World} {l : Nat} {cores : Int} {es : List Ent} {ended : List Nat} {F : List HP}
theorem trace_begin_any {c k a n v w' at' : Int} (hw : Sat E w (Log l cores es ended :: F)) (he : (Ent.mk c k a n v w' at' 0 false 0).Ok) (hl : es.length ≤ 1000000) :
    Calls Try.prog 28 #[.pointer (some ⟨l, 0, none⟩), .int .i64 c, .agg (opcs k a n v w'), .int .i64 at'] w fun e w1 => ∃ (r : Int) (es' : List Ent), e = .returned (.int .i64 r) ∧ es'.length ≤ es.length + 1 ∧ Sat E w1 (Log l cores es' ended :: F) := by
  by_cases hrange : 0 ≤ c ∧ c < cores
  · cases hi : openOf es c with
    | none => exact (trace_begin hw hrange hi he hl).mono fun e w1 ⟨h1, h2⟩ => ⟨_, _, h1, by simp, h2⟩
    | some i => exact (trace_begin_busy hw hrange hi).mono fun e w1 ⟨h1, h2⟩ => ⟨_, _, h1, by simp, h2⟩
  · exact (trace_begin_range hw (by omega)).mono fun e w1 ⟨h1, h2⟩ => ⟨_, _, h1, by simp, h2⟩
theorem trace_end_any {c res at' : Int} (hw : Sat E w (Log l cores es ended :: F)) (hr : SK.fits (.int .u64) (.int .u64 res)) (ha : SK.fits (.int .i64) (.int .i64 at')) (hl : es.length ≤ 1000000) :
    Calls Try.prog 26 #[.pointer (some ⟨l, 0, none⟩), .int .i64 c, .int .u64 res, .int .i64 at'] w fun e w1 => ∃ (r : Int) (es' : List Ent) (ended' : List Nat), e = .returned (.int .i64 r) ∧ es'.length = es.length ∧ Sat E w1 (Log l cores es' ended' :: F) := by
  by_cases hrange : 0 ≤ c ∧ c < cores
  · cases hi : openOf es c with
    | none => exact (trace_end_none hw hrange hi).mono fun e w1 ⟨h1, h2⟩ => ⟨_, _, _, h1, rfl, h2⟩
    | some i =>
      obtain ⟨en, hen, _, _⟩ := openOf_some hi
      exact (trace_end hw hrange hi hen hr ha hl).mono fun e w1 ⟨h1, h2⟩ => ⟨_, _, _, h1, by simp, h2⟩
  · exact (trace_end_range hw (by omega)).mono fun e w1 ⟨h1, h2⟩ => ⟨_, _, _, h1, rfl, h2⟩
end
theorem wk_neq {P : Program} {K : Act → World → Prop} {Q : Exit → Act → World → Prop} {dd : Option Tmp} {tt : TypeId} {pos : String} {after : Array Edge} {g : Option (Nat × Bool)} {a : Act} {w : World} {x y : Operand} {yt : TypeId} {d : Nat} {t : TypeId} {ks : List SK}
    (xs ys : Array Value) (e1 : a.eval x = .agg xs) (e2 : a.eval y = .agg ys) (h : skinds P d t = some ks) (hd : d ≤ 10000) (ha : aggSize P t ≠ none) (hg : P.eqGuardType P.depth t = false) (hx : fitAll ks xs.toList) (hy : fitAll ks ys.toList)
    (b : Bool) (hb : (!same xs ys) = b) (hk : K (a.put dd (.bool b)) w) : Oper.wp P { dst := dd, op := .binOp .neq t x y yt, type := tt, pos := pos, after := after, guard := g } a w K Q := by
  subst hb; exact wk_run (rn_neq_agg rfl xs ys e1 e2 h hd ha hg hx hy) hk

theorem rn_eqlB {P : Program} {o : Oper} {a : Act} {w : World} {x y : Operand} {yt : TypeId} {d : Nat} {t : TypeId} {ks : List SK} (ho : o.op = .binOp .eql t x y yt) (xs ys : Array Value) (e1 : a.eval x = .agg xs) (e2 : a.eval y = .agg ys) (h : skinds P d t = some ks) (hd : d ≤ 10000) (ha : aggSize P t ≠ none) (hg : P.eqGuardType P.depth t = false) (hx : fitAll ks xs.toList) (hy : fitAll ks ys.toList)
    (b : Bool) (hb : same xs ys = b) : (execOp a.eval o).run P w = .ok (.value (.bool b)) w := by subst hb; exact rn_eql_agg ho xs ys e1 e2 h hd ha hg hx hy
set_option maxRecDepth 1000000 in
set_option maxHeartbeats 4000000 in
theorem trace_tells {W : World} {n0 : Int} {v : Value} {l : List (Array Value)} {core at0 res0 k0 a0 b0 v0 w0 : Int} (hr : Rd W 9 v l.length (flat l)) (hm : ∀ c ∈ l, fitAll callK19 c.toList)
    (he0 : (Ent.mk core k0 a0 b0 v0 w0 at0 0 false 0).Ok) (hr0 : SK.fits (.int .u64) (.int .u64 res0)) (ha0 : SK.fits (.int .i64) (.int .i64 at0)) :
    Calls Try.prog 8 #[.int .i64 n0, v, .agg (opcs k0 a0 b0 v0 w0), .int .i64 core, .int .i64 at0, .int .u64 res0] W fun e w' => e = .returned (.bool true) ∧ Sat (World.env W) w' [Old W] := by
  obtain ⟨A, cap, rfl, hcap⟩ := hr.form
  have hw : Sat (World.env W) W [Old W] := Sat.init W
  have HE0 := Kp.mk he0
  have HR0 := Kp.mk hr0
  have HA0 := Kp.mk ha0
  clear he0 hr0 ha0
  by_cases hlen : 100 < l.length
  · have hlen' : (100 : Int) < (l.length : Int) := by omega
    go_enter Try.func8, Try.ntmps8
    go_wp2_with (first
      | (refine wl_box hw _ (by simp only [Act.eval, Act.put, List.setIfInBounds_toArray, List.set_cons_succ, List.set_cons_zero, gd_s, gd_0, Value.cells]; exact rfl) ?_; clear hw; intro ob w hw; (try simp only [List.set_cons_succ, List.set_cons_zero, List.setIfInBounds_toArray, Value.cells, List.eraseIdx_cons_succ, List.eraseIdx_cons_zero] at hw))
      | (go_at_call 24; refine (trace_speaks hw).mono ?_; clear hw; rintro e w ⟨rfl, hw⟩))
    go_ret
    exact ⟨rfl, hw.tail⟩
  · obtain ⟨cores, hcores⟩ : ∃ cores : Int, (n0 < 0 ∧ cores = 0) ∨ (0 ≤ n0 ∧ cores = n0) := by
      rcases Int.lt_or_le n0 0 with h | h
      · exact ⟨0, .inl ⟨h, rfl⟩⟩
      · exact ⟨n0, .inr ⟨h, rfl⟩⟩
    have HC := Kp.mk hcores
    clear hcores
    have HM := Kp.mk hm
    clear hm
    have hll : l.length ≤ 100 := by omega
    go_enter Try.func8, Try.ntmps8
    go_wp2_with (first
      | (refine wl_box hw _ (by simp only [Act.eval, Act.put, List.setIfInBounds_toArray, List.set_cons_succ, List.set_cons_zero, gd_s, gd_0, Value.cells]; exact rfl) ?_; clear hw; intro ob w hw; (try simp only [List.set_cons_succ, List.set_cons_zero, List.setIfInBounds_toArray, Value.cells, List.eraseIdx_cons_succ, List.eraseIdx_cons_zero] at hw))
      | (go_at_call 24; refine (trace_speaks hw).mono ?_; clear hw; rintro e w ⟨rfl, hw⟩)
      | (go_at_call 25; refine (trace_new hw HC.out).mono ?_; clear hw; rintro e w ⟨lg, rfl, hw⟩))
    go_loopw [30] (fun i wr => ∃ k : Nat, k ≤ l.length ∧ i = .int .i64 k ∧ ∃ es ended, (es : List Ent).length ≤ k ∧ Sat (World.env W) wr [Log lg cores es ended, pt ob (.cells (opcs k0 a0 b0 v0 w0) 59 (0, 0)), Old W]) (fun i _ => l.length - (intOf i).toNat)
    case atStart => exact ⟨0, by omega, rfl, [], [], by simp, hw⟩
    case round =>
      clear hw
      obtain ⟨k, hk, rfl, es, ended, hek, hw⟩ := hrel
      by_cases hlt : k < l.length
      · obtain ⟨cs, hcs0⟩ : ∃ cs, l[k]? = some cs := ⟨_, List.getElem?_eq_getElem hlt⟩
        obtain ⟨t, c, at', kk, a, n, v, w', res, hc, he, hres, hat⟩ := Call19.form (HM.out cs (List.mem_of_getElem? hcs0))
        obtain ⟨ad, rfl, hca⟩ := (hr.sub (hw.subOld 2 rfl)).addr (by omega)
        have ca := Kp.mk (cells_at (sz := 9) hca (fun x hx => by have := fitAll_len (HM.out x hx); rw [show callK19.length = 9 from rfl] at this; simpa using this) hcs0)
        have hsz : cs.size = 9 := by rw [hc]; rfl
        have hone : cs.all (·.oneCell') = true := by rw [hc]; exact ccs_one _ _ _ _ _ _ _ _ _
        have Hcs := Kp.mk (show cs = #[.bool t, .int .i64 c, .int .i64 at', .int .i64 kk, .int .i64 a, .int .i64 n, .int .u64 v, .int .u64 w', .int .u64 res] from hc)
        have hlt' : (k : Int) < (l.length : Int) := by omega
        have hk0 : (k : Int) + 1 ≤ 9223372036854775807 := by omega
        clear hca hcs0 hc
        have HE := Kp.mk he
        have HR := Kp.mk hres
        have HA := Kp.mk hat
        clear he hres hat
        go_upto_if 35 with (first
          | (refine wl_ldA (m := cs) (ad := ad.add (k * 9)) rfl (by rw [call19_agg, hsz]) ca.out ?_)
          | (refine wl_alloc hw call19_zero ?_; clear hw; intro b w hw; (try simp only [List.set_cons_succ, List.set_cons_zero, List.setIfInBounds_toArray, Value.cells, List.eraseIdx_cons_succ, List.eraseIdx_cons_zero] at hw))
          | (refine wl_store_all (vs := cs) hw rfl 0 rfl rfl (by rw [call19_size, hsz]) (by rw [hsz]; rfl) hone ?_; clear hw; intro w hw; (try simp only [List.set_cons_succ, List.set_cons_zero, List.setIfInBounds_toArray, Value.cells, List.eraseIdx_cons_succ, List.eraseIdx_cons_zero] at hw); rw [Hcs.out] at hw)
          | (refine wl_load1 hw rfl 0 rfl (by kernel_rfl) (by simp only [List.getElem?_toArray, List.getElem?_cons_succ, List.getElem?_cons_zero]; exact rfl) ?_))
        simp only [Act.put, List.setIfInBounds_toArray, List.set_cons_succ, List.set_cons_zero]
        cases t
        · go_wp2_with (first
            | (refine wl_load (n := 5) hw rfl 0 rfl (by rw [op_agg]) (by simp) ?_; rw [show (#[Value.bool false, .int .i64 c, .int .i64 at', .int .i64 kk, .int .i64 a, .int .i64 n, .int .u64 v, .int .u64 w', .int .u64 res] : Array Value).extract 3 (3 + 5) = opcs kk a n v w' from rfl])
            | (refine wl_load1 hw rfl 0 rfl (by kernel_rfl) (by simp only [List.getElem?_toArray, List.getElem?_cons_succ, List.getElem?_cons_zero]; exact rfl) ?_)
            | (go_at_call 28; go_must (refine (trace_begin_any (hw.front 1 rfl) HE.out (by omega)).mono ?_); clear hw; rintro e w ⟨r, es', rfl, hes, hw⟩; (try simp only [List.set_cons_succ, List.set_cons_zero, List.setIfInBounds_toArray, Value.cells, List.eraseIdx_cons_succ, List.eraseIdx_cons_zero] at hw)))
          go_roundw
          case rel => exact ⟨k + 1, by omega, by go_num, _, _, by omega, hw.del 1 rfl⟩
          case measure => simp [intOf]; omega
        · go_wp2_with (first
            | (refine wl_load1 hw rfl 0 rfl (by kernel_rfl) (by simp only [List.getElem?_toArray, List.getElem?_cons_succ, List.getElem?_cons_zero]; exact rfl) ?_)
            | (go_at_call 26; go_must (refine (trace_end_any (hw.front 1 rfl) HR.out HA.out (by omega)).mono ?_); clear hw; rintro e w ⟨r, es', ended', rfl, hes, hw⟩; (try simp only [List.set_cons_succ, List.set_cons_zero, List.setIfInBounds_toArray, Value.cells, List.eraseIdx_cons_succ, List.eraseIdx_cons_zero] at hw)))
          go_roundw
          case rel => exact ⟨k + 1, by omega, by go_num, _, _, by omega, hw.del 1 rfl⟩
          case measure => simp [intOf]; omega
      · have hw := (show Sat (World.env W) wr [Log lg cores es ended, pt ob (.cells #[.int .i64 k0, .int .i64 a0, .int .i64 b0, .int .u64 v0, .int .u64 w0] 59 (0, 0)), Old W] from hw)
        have hel : ((es.length : Nat) : Int) + 1 ≤ 9223372036854775807 := by omega
        have hle := (Log_open hw).1.le
        have hel2 : ((ended.length : Nat) : Int) + 1 ≤ 9223372036854775807 := by omega
        by_cases hrange : 0 ≤ core ∧ core < cores
        · cases hi : openOf es core with
          | some i =>
            go_wp2_with (first
              | (go_at_call 28; go_must (refine (trace_begin_busy (hw.front 1 rfl) hrange hi).mono ?_); clear hw; rintro e w ⟨rfl, hw⟩; (try simp only [List.set_cons_succ, List.set_cons_zero, List.setIfInBounds_toArray, Value.cells, List.eraseIdx_cons_succ, List.eraseIdx_cons_zero] at hw); have hw := hw.front 1 rfl; (try simp only [List.set_cons_succ, List.set_cons_zero, List.setIfInBounds_toArray, Value.cells, List.eraseIdx_cons_succ, List.eraseIdx_cons_zero] at hw))
              | (refine wl_load_all hw rfl 2 rfl (by rw [op_agg]; rfl) ?_)
              | (go_at_call 33; refine (trace_list hw (by omega)).mono ?_; clear hw; rintro e w ⟨v, rfl, hw⟩; (try simp only [List.set_cons_succ, List.set_cons_zero, List.setIfInBounds_toArray, Value.cells, List.eraseIdx_cons_succ, List.eraseIdx_cons_zero] at hw); obtain ⟨A2, c2, rfl, _, _⟩ := Row_val hw 0 rfl)
              | (go_at_call 33; go_must (refine (trace_list (hw.front 1 rfl) (by omega)).mono ?_); clear hw; rintro e w ⟨v, rfl, hw⟩; (try simp only [List.set_cons_succ, List.set_cons_zero, List.setIfInBounds_toArray, Value.cells, List.eraseIdx_cons_succ, List.eraseIdx_cons_zero] at hw); obtain ⟨A3, c3, rfl, _, _⟩ := Row_val hw 0 rfl))
            go_ret
            exact ⟨rfl, (((hw.tail).tail).tail).tail⟩
          | none =>
            obtain ⟨e1, he1⟩ : ∃ e1, e1 = Ent.mk core k0 a0 b0 v0 w0 at0 0 false 0 := ⟨_, rfl⟩
            have H1 := Kp.mk he1
            have hopen : openOf (es ++ [e1]) core = some es.length := by rw [openOf_app, hi, he1]; simp [openAt]
            have hget : (es ++ [e1])[es.length]? = some e1 := by simp
            have hes1 : (es ++ [e1]).length = es.length + 1 := by simp
            have Hcs1 := Kp.mk (show e1.cs = #[.int .i64 core, .int .i64 k0, .int .i64 a0, .int .i64 b0, .int .u64 v0, .int .u64 w0, .int .i64 at0, .int .i64 0, .bool false, .int .u64 0] by rw [he1]; rfl)
            have hfit : e1.Ok := by rw [he1]; exact HE0.out
            clear he1
            have hs := Kp.mk (show (!same e1.cs e1.cs) = false by rw [same_self]; rfl)
            obtain ⟨n1, hn1⟩ : ∃ n1 : Nat, n1 = es.length + 1 := ⟨_, rfl⟩
            go_upto_region 17 with (first
              | (go_at_call 28; go_must (refine (trace_begin (hw.front 1 rfl) hrange hi HE0.out (by omega)).mono ?_); clear hw; rintro e w ⟨rfl, hw⟩; (try simp only [List.set_cons_succ, List.set_cons_zero, List.setIfInBounds_toArray, Value.cells, List.eraseIdx_cons_succ, List.eraseIdx_cons_zero] at hw); rw [← H1.out] at hw)
              | (refine wl_load_all hw rfl 2 rfl (by rw [op_agg]; rfl) ?_)
              | (go_at_call 33; refine (trace_list hw (by omega)).mono ?_; clear hw; rintro e w ⟨v, rfl, hw⟩; (try simp only [List.set_cons_succ, List.set_cons_zero, List.setIfInBounds_toArray, Value.cells, List.eraseIdx_cons_succ, List.eraseIdx_cons_zero] at hw); obtain ⟨A2, c2, rfl, _, _⟩ := Row_val hw 0 rfl)
              | (go_at_call 30; go_must (refine (trace_open hw hopen hget).mono ?_); clear hw; rintro e w ⟨rfl, hw⟩)
              | (refine wl_alloc hw ent_zero ?_; clear hw; intro b17 w hw; (try simp only [List.set_cons_succ, List.set_cons_zero, List.setIfInBounds_toArray, Value.cells, List.eraseIdx_cons_succ, List.eraseIdx_cons_zero] at hw))
              | (refine wl_store_all (vs := e1.cs) hw rfl 0 rfl rfl (by rw [ent_size]; rfl) rfl (Ent.one _) ?_; clear hw; intro w hw; (try simp only [List.set_cons_succ, List.set_cons_zero, List.setIfInBounds_toArray, Value.cells, List.eraseIdx_cons_succ, List.eraseIdx_cons_zero] at hw)))
            have hopen0 := Kp.mk hopen
            have Hcs2 := Kp.mk (show (e1.fin res0 at0).cs = #[.int .i64 core, .int .i64 k0, .int .i64 a0, .int .i64 b0, .int .u64 v0, .int .u64 w0, .int .i64 at0, .int .i64 at0, .bool true, .int .u64 res0] by rw [H1.out]; rfl)
            clear hopen hn1
            go_upto_region 23 with (first
              | (refine wl_want (by rfl) (fun K hK => ?_); refine wk_load_all hw rfl 0 rfl (by rw [ent_agg]; rfl) ?_; refine hK _ _ ?_; clear hK K)
              | (refine wl_want (by rfl) (fun K hK => ?_); refine wk_load_all hw rfl 3 rfl (by rw [op_agg]; rfl) ?_; refine hK _ _ ?_; clear hK K)
              | (refine wl_load_all hw rfl 6 rfl (by rw [op_agg]; rfl) ?_)
              | (refine wl_want (by rfl) (fun K hK => ?_); refine wk_neq e1.cs e1.cs rfl (by rw [Hcs1.out]; rfl) ent_kinds (by omega) (by rw [ent_agg]; simp) (by kernel_rfl) hfit hfit _ hs.out ?_; refine hK _ _ ?_; clear hK K)
              | (go_at_call 33; go_must (refine (trace_list (hw.front 1 rfl) (by rw [hes1]; omega)).mono ?_); clear hw; rintro e w ⟨v, rfl, hw⟩; (try simp only [List.set_cons_succ, List.set_cons_zero, List.setIfInBounds_toArray, Value.cells, List.eraseIdx_cons_succ, List.eraseIdx_cons_zero] at hw); rw [hes1] at hw; obtain ⟨A3, c3, rfl, _, _⟩ := Row_val hw 0 rfl)
              | (go_at_call 26; go_must (refine (trace_end (hw.front 1 rfl) hrange hopen0.out hget HR0.out HA0.out (by rw [hes1]; omega)).mono ?_); clear hw; rintro e w ⟨rfl, hw⟩; (try simp only [List.set_cons_succ, List.set_cons_zero, List.setIfInBounds_toArray, Value.cells, List.eraseIdx_cons_succ, List.eraseIdx_cons_zero] at hw))
              | (go_at_call 34; refine (trace_done hw (by rw [List.length_set, hes1]; omega)).mono ?_; clear hw; rintro e w ⟨v, rfl, hw⟩; (try simp only [List.set_cons_succ, List.set_cons_zero, List.setIfInBounds_toArray, Value.cells, List.eraseIdx_cons_succ, List.eraseIdx_cons_zero] at hw); rw [show (ended ++ [es.length]).length = ended.length + 1 from by simp] at hw; obtain ⟨A4, c4, rfl, _, hg4⟩ := Row_val hw 0 rfl)
              | (go_at_call 34; go_must (refine (trace_done (hw.front 1 rfl) (by rw [hes1]; omega)).mono ?_); clear hw; rintro e w ⟨v, rfl, hw⟩; (try simp only [List.set_cons_succ, List.set_cons_zero, List.setIfInBounds_toArray, Value.cells, List.eraseIdx_cons_succ, List.eraseIdx_cons_zero] at hw); obtain ⟨A5, c5, rfl, _, _⟩ := Row_val hw 0 rfl)
              | (refine wl_alloc hw ent_zero ?_; clear hw; intro b20 w hw; (try simp only [List.set_cons_succ, List.set_cons_zero, List.setIfInBounds_toArray, Value.cells, List.eraseIdx_cons_succ, List.eraseIdx_cons_zero] at hw))
              | (refine wl_store_all (vs := #[.int .i64 core, .int .i64 k0, .int .i64 a0, .int .i64 b0, .int .u64 v0, .int .u64 w0, .int .i64 at0, .int .i64 at0, .bool true, .int .u64 res0]) hw rfl 0 rfl rfl (by rw [ent_size]; rfl) rfl (by simp [Value.oneCell']) ?_; clear hw; intro w hw; (try simp only [List.set_cons_succ, List.set_cons_zero, List.setIfInBounds_toArray, Value.cells, List.eraseIdx_cons_succ, List.eraseIdx_cons_zero] at hw); rw [← Hcs2.out] at hw))
            obtain ⟨e2, he2⟩ : ∃ e2, e2 = e1.fin res0 at0 := ⟨_, rfl⟩
            obtain ⟨es2, hes2⟩ : ∃ es2, es2 = (es ++ [e1]).set es.length e2 := ⟨_, rfl⟩
            have hfit2 : e2.Ok := by rw [he2]; exact Ent.Ok_fin hfit HR0.out HA0.out
            have hlen2 : es2.length = es.length + 1 := by rw [hes2, List.length_set, hes1]
            have hge : es2[es.length]? = some e2 := by rw [hes2, List.getElem?_set_self (by rw [hes1]; omega)]
            have hgd : (doneOf es2 (ended ++ [es.length]))[ended.length]? = some e2 := by simp [doneOf, hge]
            have hs2 := Kp.mk (show same e2.cs e2.cs = true from same_self _)
            rw [← he2, ← hes2] at hw
            have GE := Kp.mk hge
            have GD := Kp.mk hgd
            clear hge hgd he2 hes2
            refine Go.Proofs.YtbkfhieadnfndaaW.PrintLast.start_ (S := (fun w' => w'.heap[b20]? = some (.cells e2.cs 67 (0, 0)))) (ds := []) #[false, false, false, false, false, false, false, false, false, false, false, false, false, false, false, false, false] (by kernel_rfl) rfl (by rfl) ?_ (fun hS => ?_)
            · exact hw.drew.read 0 rfl
            replace hw := hw.drew; generalize w.drew = w at hw hS ⊢
            refine pureE (i := 0) (oi := { dst := some 114, op := Op.move (Operand.tmp 13), type := 50, pos := "law.go:104", after := #[], guard := none }) (N := some 114) #[true, false, false, false, false, false, false, false, false, false, false, false, false, false, false, false, false] rfl rfl (by kernel_rfl) (fun _ _ _ _ h => h) ?_
            apply Exists.intro
            refine ⟨Or.inl ⟨by rfl, ?_⟩, ?_⟩
            · intro w0; go_simp; try with_reducible rfl
            try simp only [Act.put, List.setIfInBounds_toArray, List.set_cons_succ, List.set_cons_zero]
            refine pureE (i := 2) (oi := { dst := some 116, op := Op.move (Operand.tmp 19), type := 3, pos := "law.go:104", after := #[], guard := none }) (N := some 116) #[true, false, true, false, false, false, false, false, false, false, false, false, false, false, false, false, false] rfl rfl (by kernel_rfl) (fun _ _ _ _ h => h) ?_
            apply Exists.intro
            refine ⟨Or.inl ⟨by rfl, ?_⟩, ?_⟩
            · intro w0; go_simp; try with_reducible rfl
            try simp only [Act.put, List.setIfInBounds_toArray, List.set_cons_succ, List.set_cons_zero]
            refine takeE (i := 5) (oi := { dst := some 119, op := Op.load 67 (Operand.tmp 20), type := 67, pos := "law.go:104", after := #[], guard := none }) (N := some 119) #[true, false, true, false, false, true, false, false, false, false, false, false, false, false, false, false, false] rfl rfl (by kernel_rfl) (fun _ _ _ _ h => h) hS ?_
            apply Exists.intro
            refine ⟨Or.inl ⟨by rfl, fun w0 h => rn_blkA (cs := e2.cs) rfl rfl (by rw [ent_agg]; rfl) h⟩, ?_⟩
            try simp only [Act.put, List.setIfInBounds_toArray, List.set_cons_succ, List.set_cons_zero]
            refine Go.Proofs.YtbkfhieadnfndaaW.PrintLast.one_ (i := 1) (oi := { dst := some 115, op := Op.call { callee := Callee.value (Operand.func 34), args := #[Operand.tmp 114], argTypes := #[50] }, type := 53, pos := "law.go:104", after := #[{ on := 0, ground := Ground.data }], guard := none }) (N := some 115) #[true, true, true, false, false, true, false, false, false, false, false, false, false, false, false, false, false] rfl rfl (by kernel_rfl) (by decide) (fun K hK => ?_)
            rw [if_pos (by rfl)]
            refine wk_enter 34 #[.pointer (some ⟨lg, 0, none⟩)] ?_ ?_
            · go_simp
            refine (trace_done (hw.front 2 rfl) (by rw [hlen2]; omega)).mono ?_
            clear hw; rintro e w ⟨v, rfl, hw⟩; (try simp only [List.set_cons_succ, List.set_cons_zero, List.setIfInBounds_toArray, Value.cells, List.eraseIdx_cons_succ, List.eraseIdx_cons_zero] at hw); rw [show (ended ++ [es.length]).length = ended.length + 1 from by simp] at hw
            obtain ⟨A6, c6, rfl, _, hg6⟩ := Row_val hw 0 rfl
            obtain ⟨g6, rfl⟩ := hg6 (by omega)
            refine ⟨_, rfl, ?_⟩
            refine hK.out _ _ (hw.read 2 rfl) (fun hS => ?_); clear hK K; try simp only [Act.put, List.setIfInBounds_toArray, List.set_cons_succ, List.set_cons_zero]
            refine takeE (i := 3) (oi := { dst := some 117, op := Op.indexAddr 53 (Operand.tmp 115) (Operand.tmp 116), type := 0, pos := "law.go:104", after := #[{ on := 1, ground := Ground.data }, { on := 2, ground := Ground.data }], guard := none }) (N := some 117) #[true, true, true, true, false, true, false, false, false, false, false, false, false, false, false, false, false] rfl rfl (by kernel_rfl) (fun _ _ _ _ h => h) hS ?_
            apply Exists.intro
            refine ⟨Or.inl ⟨by rfl, fun w0 h => rn_indexAddr (i := (ended.length : Nat)) rfl rfl rfl u_ents ent_size rfl (by omega) (by omega)⟩, ?_⟩
            try simp only [Act.put, List.setIfInBounds_toArray, List.set_cons_succ, List.set_cons_zero]
            refine Go.Proofs.YtbkfhieadnfndaaW.PrintLast.one_ (i := 4) (oi := { dst := some 118, op := Op.load 67 (Operand.tmp 117), type := 67, pos := "law.go:104", after := #[{ on := 3, ground := Ground.data }], guard := none }) (N := some 118) #[true, true, true, true, true, true, false, false, false, false, false, false, false, false, false, false, false] rfl rfl (by kernel_rfl) (by decide) (fun K hK => ?_)
            rw [if_pos (by rfl)]
            refine wk_rowLdA (j := ended.length * 10) hw rfl (by simp only [add_at, Nat.zero_add, Int.toNat_natCast]) 0 rfl e2.cs (by rw [ent_agg]; rfl) (cells_get GD.out) ?_
            refine hK.out _ _ (hw.read 2 rfl) (fun hS => ?_); clear hK K; try simp only [Act.put, List.setIfInBounds_toArray, List.set_cons_succ, List.set_cons_zero]
            refine takeE (i := 6) (oi := { dst := some 120, op := Op.binOp BinOp.eql 67 (Operand.tmp 118) (Operand.tmp 119) 67, type := 4, pos := "law.go:104", after := #[{ on := 4, ground := Ground.data }, { on := 5, ground := Ground.data }], guard := none }) (N := some 120) #[true, true, true, true, true, true, true, false, false, false, false, false, false, false, false, false, false] rfl rfl (by kernel_rfl) (fun _ _ _ _ h => h) hS ?_
            apply Exists.intro
            refine ⟨Or.inl ⟨by rfl, fun w0 h => rn_eqlB rfl e2.cs e2.cs rfl rfl ent_kinds (by omega) (by rw [ent_agg]; simp) (by kernel_rfl) hfit2 hfit2 _ hs2.out⟩, ?_⟩
            try simp only [Act.put, List.setIfInBounds_toArray, List.set_cons_succ, List.set_cons_zero]
            refine pureE (i := 7) (oi := { dst := some 121, op := Op.move (Operand.tmp 120), type := 4, pos := "law.go:104", after := #[{ on := 6, ground := Ground.data }, { on := 1, ground := Ground.chain }], guard := none }) (N := some 121) #[true, true, true, true, true, true, true, true, false, false, false, false, false, false, false, false, false] rfl rfl (by kernel_rfl) (fun _ _ _ _ h => h) ?_
            apply Exists.intro
            refine ⟨Or.inl ⟨by rfl, ?_⟩, ?_⟩
            · intro w0; go_simp; try with_reducible rfl
            try simp only [Act.put, List.setIfInBounds_toArray, List.set_cons_succ, List.set_cons_zero]
            refine pureE (i := 8) (oi := { dst := some 122, op := Op.move (Operand.tmp 13), type := 50, pos := "law.go:104", after := #[{ on := 7, ground := Ground.guard }], guard := some (7, true) }) (N := some 122) #[true, true, true, true, true, true, true, true, true, false, false, false, false, false, false, false, false] rfl rfl (by kernel_rfl) (fun _ _ _ _ h => h) ?_
            apply Exists.intro
            refine ⟨Or.inl ⟨by rfl, ?_⟩, ?_⟩
            · intro w0; go_simp; try with_reducible rfl
            try simp only [Act.put, List.setIfInBounds_toArray, List.set_cons_succ, List.set_cons_zero]
            refine pureE (i := 10) (oi := { dst := some 124, op := Op.move (Operand.tmp 16), type := 3, pos := "law.go:104", after := #[{ on := 7, ground := Ground.guard }], guard := some (7, true) }) (N := some 124) #[true, true, true, true, true, true, true, true, true, false, true, false, false, false, false, false, false] rfl rfl (by kernel_rfl) (fun _ _ _ _ h => h) ?_
            apply Exists.intro
            refine ⟨Or.inl ⟨by rfl, ?_⟩, ?_⟩
            · intro w0; go_simp; try with_reducible rfl
            try simp only [Act.put, List.setIfInBounds_toArray, List.set_cons_succ, List.set_cons_zero]
            refine takeE (i := 13) (oi := { dst := some 127, op := Op.load 67 (Operand.tmp 20), type := 67, pos := "law.go:104", after := #[{ on := 7, ground := Ground.guard }], guard := some (7, true) }) (N := some 127) #[true, true, true, true, true, true, true, true, true, false, true, false, false, true, false, false, false] rfl rfl (by kernel_rfl) (fun _ _ _ _ h => h) hS ?_
            apply Exists.intro
            refine ⟨Or.inl ⟨by rfl, fun w0 h => rn_blkA (cs := e2.cs) rfl rfl (by rw [ent_agg]; rfl) h⟩, ?_⟩
            try simp only [Act.put, List.setIfInBounds_toArray, List.set_cons_succ, List.set_cons_zero]
            refine Go.Proofs.YtbkfhieadnfndaaW.PrintLast.one_ (i := 9) (oi := { dst := some 123, op := Op.call { callee := Callee.value (Operand.func 33), args := #[Operand.tmp 122], argTypes := #[50] }, type := 53, pos := "law.go:104", after := #[{ on := 8, ground := Ground.data }, { on := 7, ground := Ground.chain }, { on := 7, ground := Ground.guard }], guard := some (7, true) }) (N := some 123) #[true, true, true, true, true, true, true, true, true, true, true, false, false, true, false, false, false] rfl rfl (by kernel_rfl) (by decide) (fun K hK => ?_)
            rw [if_pos (by rfl)]
            refine wk_enter 33 #[.pointer (some ⟨lg, 0, none⟩)] ?_ ?_
            · go_simp
            refine (trace_list (hw.front 1 rfl) (by rw [hlen2]; omega)).mono ?_
            clear hw; rintro e w ⟨v, rfl, hw⟩; (try simp only [List.set_cons_succ, List.set_cons_zero, List.setIfInBounds_toArray, Value.cells, List.eraseIdx_cons_succ, List.eraseIdx_cons_zero] at hw); rw [hlen2] at hw
            obtain ⟨A7, c7, rfl, _, hg7⟩ := Row_val hw 0 rfl
            obtain ⟨g7, rfl⟩ := hg7 (by omega)
            refine ⟨_, rfl, ?_⟩
            refine hK.out _ _ (hw.read 3 rfl) (fun hS => ?_); clear hK K; try simp only [Act.put, List.setIfInBounds_toArray, List.set_cons_succ, List.set_cons_zero]
            refine takeE (i := 11) (oi := { dst := some 125, op := Op.indexAddr 53 (Operand.tmp 123) (Operand.tmp 124), type := 0, pos := "law.go:104", after := #[{ on := 9, ground := Ground.data }, { on := 10, ground := Ground.data }, { on := 7, ground := Ground.guard }], guard := some (7, true) }) (N := some 125) #[true, true, true, true, true, true, true, true, true, true, true, true, false, true, false, false, false] rfl rfl (by kernel_rfl) (fun _ _ _ _ h => h) hS ?_
            apply Exists.intro
            refine ⟨Or.inl ⟨by rfl, fun w0 h => rn_indexAddr (i := (es.length : Nat)) rfl rfl rfl u_ents ent_size rfl (by omega) (by omega)⟩, ?_⟩
            try simp only [Act.put, List.setIfInBounds_toArray, List.set_cons_succ, List.set_cons_zero]
            refine Go.Proofs.YtbkfhieadnfndaaW.PrintLast.one_ (i := 12) (oi := { dst := some 126, op := Op.load 67 (Operand.tmp 125), type := 67, pos := "law.go:104", after := #[{ on := 11, ground := Ground.data }, { on := 7, ground := Ground.guard }], guard := some (7, true) }) (N := some 126) #[true, true, true, true, true, true, true, true, true, true, true, true, true, true, false, false, false] rfl rfl (by kernel_rfl) (by decide) (fun K hK => ?_)
            rw [if_pos (by rfl)]
            refine wk_rowLdA (j := es.length * 10) hw rfl (by simp only [add_at, Nat.zero_add, Int.toNat_natCast]) 0 rfl e2.cs (by rw [ent_agg]; rfl) (cells_get GE.out) ?_
            refine hK.out _ _ (hw.read 3 rfl) (fun hS => ?_); clear hK K; try simp only [Act.put, List.setIfInBounds_toArray, List.set_cons_succ, List.set_cons_zero]
            refine takeE (i := 14) (oi := { dst := some 128, op := Op.binOp BinOp.eql 67 (Operand.tmp 126) (Operand.tmp 127) 67, type := 4, pos := "law.go:104", after := #[{ on := 12, ground := Ground.data }, { on := 13, ground := Ground.data }, { on := 7, ground := Ground.guard }], guard := some (7, true) }) (N := some 128) #[true, true, true, true, true, true, true, true, true, true, true, true, true, true, true, false, false] rfl rfl (by kernel_rfl) (fun _ _ _ _ h => h) hS ?_
            apply Exists.intro
            refine ⟨Or.inl ⟨by rfl, fun w0 h => rn_eqlB rfl e2.cs e2.cs rfl rfl ent_kinds (by omega) (by rw [ent_agg]; simp) (by kernel_rfl) hfit2 hfit2 _ hs2.out⟩, ?_⟩
            try simp only [Act.put, List.setIfInBounds_toArray, List.set_cons_succ, List.set_cons_zero]
            refine pureE (i := 15) (oi := { dst := some 129, op := Op.pick (Operand.tmp 121) (Operand.tmp 128) (Operand.const (Value.bool false)), type := 4, pos := "law.go:104", after := #[{ on := 7, ground := Ground.data }, { on := 14, ground := Ground.data }], guard := none }) (N := some 129) #[true, true, true, true, true, true, true, true, true, true, true, true, true, true, true, true, false] rfl rfl (by kernel_rfl) (fun _ _ _ _ h => h) ?_
            apply Exists.intro
            refine ⟨Or.inl ⟨by rfl, ?_⟩, ?_⟩
            · intro w0; go_simp; try with_reducible rfl
            try simp only [Act.put, List.setIfInBounds_toArray, List.set_cons_succ, List.set_cons_zero]
            refine pureE (i := 16) (oi := { dst := some 12, op := Op.assign (Operand.tmp 129), type := 4, pos := "law.go:104", after := #[{ on := 15, ground := Ground.data }, { on := 9, ground := Ground.chain }, { on := 0, ground := Ground.phase }, { on := 1, ground := Ground.phase }, { on := 2, ground := Ground.phase }, { on := 3, ground := Ground.phase }, { on := 4, ground := Ground.phase }, { on := 5, ground := Ground.phase }, { on := 6, ground := Ground.phase }, { on := 7, ground := Ground.phase }, { on := 8, ground := Ground.phase }, { on := 9, ground := Ground.phase }, { on := 10, ground := Ground.phase }, { on := 11, ground := Ground.phase }, { on := 12, ground := Ground.phase }, { on := 13, ground := Ground.phase }, { on := 14, ground := Ground.phase }, { on := 15, ground := Ground.phase }], guard := none }) (N := some 12) #[true, true, true, true, true, true, true, true, true, true, true, true, true, true, true, true, true] rfl rfl (by kernel_rfl) (fun _ _ _ _ h => h) ?_
            apply Exists.intro
            refine ⟨Or.inl ⟨by rfl, ?_⟩, ?_⟩
            · intro w0; go_simp; try with_reducible rfl
            try simp only [Act.put, List.setIfInBounds_toArray, List.set_cons_succ, List.set_cons_zero]
            refine Go.Proofs.YtbkfhieadnfndaaW.PrintLast.done_ (by kernel_rfl) ?_; clear hS
            go_wp2
            go_ret
            exact ⟨rfl, hw.tail.tail.tail.tail.tail.tail.tail.tail.tail.tail⟩
        · have hout : core < 0 ∨ (0 ≤ core ∧ cores ≤ core) := by omega
          go_wp2_with (first
            | (go_at_call 28; go_must (refine (trace_begin_range (hw.front 1 rfl) hout).mono ?_); clear hw; rintro e w ⟨rfl, hw⟩; (try simp only [List.set_cons_succ, List.set_cons_zero, List.setIfInBounds_toArray, Value.cells, List.eraseIdx_cons_succ, List.eraseIdx_cons_zero] at hw); have hw := hw.front 1 rfl; (try simp only [List.set_cons_succ, List.set_cons_zero, List.setIfInBounds_toArray, Value.cells, List.eraseIdx_cons_succ, List.eraseIdx_cons_zero] at hw))
            | (refine wl_load_all hw rfl 2 rfl (by rw [op_agg]; rfl) ?_)
            | (go_at_call 33; refine (trace_list hw (by omega)).mono ?_; clear hw; rintro e w ⟨v, rfl, hw⟩; (try simp only [List.set_cons_succ, List.set_cons_zero, List.setIfInBounds_toArray, Value.cells, List.eraseIdx_cons_succ, List.eraseIdx_cons_zero] at hw); obtain ⟨A2, c2, rfl, _, _⟩ := Row_val hw 0 rfl)
            | (go_at_call 33; go_must (refine (trace_list (hw.front 1 rfl) (by omega)).mono ?_); clear hw; rintro e w ⟨v, rfl, hw⟩; (try simp only [List.set_cons_succ, List.set_cons_zero, List.setIfInBounds_toArray, Value.cells, List.eraseIdx_cons_succ, List.eraseIdx_cons_zero] at hw); obtain ⟨A3, c3, rfl, _, _⟩ := Row_val hw 0 rfl))
          go_ret
          exact ⟨rfl, (((hw.tail).tail).tail).tail⟩
end Go.Proofs.Ytbkfhieadnfndaa
