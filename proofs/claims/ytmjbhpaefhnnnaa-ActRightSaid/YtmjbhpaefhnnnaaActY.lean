/- Two acts that are one: bastionref21.Same; is there such an act: bastionref20.There. Conditions: none. -/
import Derived.Test.YtmjbhpaefhnnnaaActF
import Derived.Test.YtmjbhpaefhnnnaaActS
import Derived.Test.YtmjbhpaefhnnnaaBlk
import Derived.Test.YtmjbhpaefhnnnaaProg
import Derived.Test.YtmjbhpaefhnnnaaRows
import Derived.Deep.Cut
set_option linter.unusedVariables false
set_option linter.unusedSimpArgs false
namespace Go.Proofs.Ytmjbhpaefhnnnaa
open Go.RowKit Go.Bst Go.MapKept Go.Proofs.YtmjbhpaefhnnnaaW.PrintLast
attribute [local irreducible] rd tb wpList Calls Code.wp Code.wpN Oper.wp Go.Proofs.YtmjbhpaefhnnnaaW.PrintLast.wpAnyLast
section
variable {E : Env} {w : World} {F : List HP} {p : Pl}
structure Acv.Ok (x : Acv) : Prop where
  net : i64B x.net
  frm : i64B x.frm
  dst : i64B x.dst
  okind : i64B x.okind
  oloc : i64B x.oloc
  on : i64B x.on
def linkK : List SK := [.int .i64, .int .i64, .int .i64]
def opK : List SK := [.int .i64, .int .i64, .int .i64, .int .u64, .int .u64]
theorem link_kinds : skinds Try.prog 9 41 = some linkK := by kernel_rfl
theorem op_kinds : skinds Try.prog 9 33 = some opK := by kernel_rfl
theorem op_some : aggSize Try.prog 33 ≠ none := by rw [show aggSize Try.prog 33 = some 5 by kernel_rfl]; simp
theorem link_some : aggSize Try.prog 41 ≠ none := by rw [show aggSize Try.prog 41 = some 3 by kernel_rfl]; simp
theorem link_eqg : Try.prog.eqGuardType Try.prog.depth 41 = false := by kernel_rfl
theorem op_eqg : Try.prog.eqGuardType Try.prog.depth 33 = false := by kernel_rfl
theorem link_fit {a b c : Int} (h1 : i64B a) (h2 : i64B b) (h3 : i64B c) : fitAll linkK (#[Value.int .i64 a, .int .i64 b, .int .i64 c] : Array Value).toList := ⟨fits_i64 h1, fits_i64 h2, fits_i64 h3, trivial⟩
theorem op_fit {o : Opv} (h1 : i64B o.kind) (h2 : i64B o.loc) (h3 : i64B o.n) : fitAll opK o.cs.toList := by
  unfold Opv.cs
  exact ⟨fits_i64 h1, fits_i64 h2, fits_i64 h3, U_fits _, U_fits _, trivial⟩
theorem rn_opeq {o : Oper} {a : Act} {x y : Operand} {yt : TypeId} (q : Opv) (h : i64B q.kind ∧ i64B q.loc ∧ i64B q.n) (ho : o.op = .binOp .eql 33 x y yt) (e1 : a.eval x = .agg q.cs) (e2 : a.eval y = .agg q.cs) : (execOp a.eval o).run Try.prog w = .ok (.value (.bool true)) w :=
  rn_eqlB' ho q.cs q.cs e1 e2 op_kinds (by decide) op_some op_eqg (op_fit h.1 h.2.1 h.2.2) (op_fit h.1 h.2.1 h.2.2) true (same_self _)
theorem rn_lkeq {o : Oper} {a : Act} {x y : Operand} {yt : TypeId} {n f d : Int} (h : i64B n ∧ i64B f ∧ i64B d) (ho : o.op = .binOp .eql 41 x y yt) (e1 : a.eval x = .agg #[.int .i64 n, .int .i64 f, .int .i64 d]) (e2 : a.eval y = .agg #[.int .i64 n, .int .i64 f, .int .i64 d]) : (execOp a.eval o).run Try.prog w = .ok (.value (.bool true)) w :=
  rn_eqlB' ho _ _ e1 e2 link_kinds (by decide) link_some link_eqg (link_fit h.1 h.2.1 h.2.2) (link_fit h.1 h.2.1 h.2.2) true (same_self _)
set_option maxRecDepth 100000 in
set_option maxHeartbeats 16000000 in
theorem ref_Same_act {x : Acv} {l : List UInt8} {u v : Value} (ok : Acv.Ok x) (hw : Sat E w F) (hu : ∀ w', Sat E w' F → Rd w' 1 u l.length (ybs l)) (hv : ∀ w', Sat E w' F → Rd w' 1 v l.length (ybs l)) (hl : l.length ≤ 1000000) :
    Calls Try.prog 14 #[.agg (x.cs u), .agg (x.cs v)] w fun e w' => e = .returned (.bool true) ∧ Sat E w' F := by
  have HU := Kp.mk hu
  have HV := Kp.mk hv
  clear hu hv
  have o1 := Kp.mk (And.intro ok.net (And.intro ok.frm ok.dst))
  have o2 := Kp.mk (And.intro ok.okind (And.intro ok.oloc ok.on))
  clear ok
  go_enter Try.func14, Try.ntmps14
  go_wp2_with (first
    | (refine wl_want (by rfl) (fun K hK => ?_); refine wk_call 11 rfl (by kernel_rfl) ?_; simp only [List.map_toArray, List.map_cons, List.map_nil, Act.eval, gd_s, gd_0]; go_must (refine (Calls.mono (ref_SameTamper (l := l) hw (fun w' hs => HU.out w' hs.tail.tail) (fun w' hs => HV.out w' hs.tail.tail) hl) ?_)); clear hw; rintro e w ⟨rfl, hw⟩; (try simp only [List.set_cons_succ, List.set_cons_zero, List.setIfInBounds_toArray, Value.cells, List.eraseIdx_cons_succ, List.eraseIdx_cons_zero] at hw); refine ⟨_, rfl, ?_⟩; refine hK _ _ ?_; clear hK K)
    | (refine wl_want (by rfl) (fun K hK => ?_); refine wk_run (rn_lkeq o1.out rfl (by exact rfl) (by exact rfl)) ?_; refine hK _ _ ?_; clear hK K)
    | (refine wl_want (by rfl) (fun K hK => ?_); refine wk_run (rn_opeq _ o2.out rfl (by exact rfl) (by exact rfl)) ?_; refine hK _ _ ?_; clear hK K)
    | (refine wl_box (d := some 2) hw _ (by simp only [Act.eval, Act.put, List.setIfInBounds_toArray, List.set_cons_succ, List.set_cons_zero, gd_s, gd_0, Value.cells]; exact rfl) ?_; clear hw; intro b2 w hw; (try simp only [List.set_cons_succ, List.set_cons_zero, List.setIfInBounds_toArray, Value.cells, List.eraseIdx_cons_succ, List.eraseIdx_cons_zero] at hw)) | (refine wl_box (d := some 3) hw _ (by simp only [Act.eval, Act.put, List.setIfInBounds_toArray, List.set_cons_succ, List.set_cons_zero, gd_s, gd_0, Value.cells]; exact rfl) ?_; clear hw; intro b3 w hw; (try simp only [List.set_cons_succ, List.set_cons_zero, List.setIfInBounds_toArray, Value.cells, List.eraseIdx_cons_succ, List.eraseIdx_cons_zero] at hw)) | (refine wb_load1 (d := some 6)  rfl (by first | exact hw.read 0 rfl | exact hw.read 1 rfl | exact hw.read 2 rfl | exact hw.read 3 rfl | exact hw.read 4 rfl | exact hw.read 5 rfl | exact hw.read 6 rfl | exact hw.read 7 rfl | exact hw.read 8 rfl) (by decide +kernel) (by exact Acv.c0 _ _) ?_) | (refine wb_load1 (d := some 8)  rfl (by first | exact hw.read 0 rfl | exact hw.read 1 rfl | exact hw.read 2 rfl | exact hw.read 3 rfl | exact hw.read 4 rfl | exact hw.read 5 rfl | exact hw.read 6 rfl | exact hw.read 7 rfl | exact hw.read 8 rfl) (by decide +kernel) (by exact Acv.c0 _ _) ?_) | (refine wl_run (d := some 9) (rn_ceql rfl (by exact rfl) (by exact rfl) true (decide_eq_true (by omega))) ?_) | (refine wl_run (d := some 9) (rn_ceql rfl (by exact rfl) (by exact rfl) false (decide_eq_false (by omega))) ?_) | (refine wg_load1 (d := some 12) (by rfl)  rfl (by first | exact hw.read 0 rfl | exact hw.read 1 rfl | exact hw.read 2 rfl | exact hw.read 3 rfl | exact hw.read 4 rfl | exact hw.read 5 rfl | exact hw.read 6 rfl | exact hw.read 7 rfl | exact hw.read 8 rfl) (by decide +kernel) (by exact Acv.c1 _ _) ?_) | (refine wg_load1 (d := some 14) (by rfl)  rfl (by first | exact hw.read 0 rfl | exact hw.read 1 rfl | exact hw.read 2 rfl | exact hw.read 3 rfl | exact hw.read 4 rfl | exact hw.read 5 rfl | exact hw.read 6 rfl | exact hw.read 7 rfl | exact hw.read 8 rfl) (by decide +kernel) (by exact Acv.c1 _ _) ?_) | (refine wg_run (d := some 15) (by rfl) (rn_ceql rfl (by exact rfl) (by exact rfl) true (decide_eq_true (by omega))) ?_) | (refine wg_run (d := some 15) (by rfl) (rn_ceql rfl (by exact rfl) (by exact rfl) false (decide_eq_false (by omega))) ?_) | (refine wg_load1 (d := some 19) (by rfl)  rfl (by first | exact hw.read 0 rfl | exact hw.read 1 rfl | exact hw.read 2 rfl | exact hw.read 3 rfl | exact hw.read 4 rfl | exact hw.read 5 rfl | exact hw.read 6 rfl | exact hw.read 7 rfl | exact hw.read 8 rfl) (by decide +kernel) (by exact Acv.c2 _ _) ?_) | (refine wg_load1 (d := some 21) (by rfl)  rfl (by first | exact hw.read 0 rfl | exact hw.read 1 rfl | exact hw.read 2 rfl | exact hw.read 3 rfl | exact hw.read 4 rfl | exact hw.read 5 rfl | exact hw.read 6 rfl | exact hw.read 7 rfl | exact hw.read 8 rfl) (by decide +kernel) (by exact Acv.c2 _ _) ?_) | (refine wg_run (d := some 22) (by rfl) (rn_ceql rfl (by exact rfl) (by exact rfl) true (decide_eq_true (by omega))) ?_) | (refine wg_run (d := some 22) (by rfl) (rn_ceql rfl (by exact rfl) (by exact rfl) false (decide_eq_false (by omega))) ?_) | (refine wg_loadP (d := some 26) (by rfl)  rfl (by first | exact hw.read 0 rfl | exact hw.read 1 rfl | exact hw.read 2 rfl | exact hw.read 3 rfl | exact hw.read 4 rfl | exact hw.read 5 rfl | exact hw.read 6 rfl | exact hw.read 7 rfl | exact hw.read 8 rfl) (by kernel_rfl) (by exact Acv.x3 _ _) (by rw [Acv.size]; decide) ?_) | (refine wg_loadP (d := some 28) (by rfl)  rfl (by first | exact hw.read 0 rfl | exact hw.read 1 rfl | exact hw.read 2 rfl | exact hw.read 3 rfl | exact hw.read 4 rfl | exact hw.read 5 rfl | exact hw.read 6 rfl | exact hw.read 7 rfl | exact hw.read 8 rfl) (by kernel_rfl) (by exact Acv.x3 _ _) (by rw [Acv.size]; decide) ?_) | (refine wg_loadP (d := some 33) (by rfl)  rfl (by first | exact hw.read 0 rfl | exact hw.read 1 rfl | exact hw.read 2 rfl | exact hw.read 3 rfl | exact hw.read 4 rfl | exact hw.read 5 rfl | exact hw.read 6 rfl | exact hw.read 7 rfl | exact hw.read 8 rfl) op_agg (by exact Acv.x6 _ _) (by rw [Acv.size]; decide) ?_) | (refine wg_loadP (d := some 35) (by rfl)  rfl (by first | exact hw.read 0 rfl | exact hw.read 1 rfl | exact hw.read 2 rfl | exact hw.read 3 rfl | exact hw.read 4 rfl | exact hw.read 5 rfl | exact hw.read 6 rfl | exact hw.read 7 rfl | exact hw.read 8 rfl) op_agg (by exact Acv.x6 _ _) (by rw [Acv.size]; decide) ?_) | (refine wg_loadP (d := some 40) (by rfl)  rfl (by first | exact hw.read 0 rfl | exact hw.read 1 rfl | exact hw.read 2 rfl | exact hw.read 3 rfl | exact hw.read 4 rfl | exact hw.read 5 rfl | exact hw.read 6 rfl | exact hw.read 7 rfl | exact hw.read 8 rfl) tm_agg (by exact Acv.x11 _ _) (by rw [Acv.size]; decide) ?_) | (refine wg_loadP (d := some 42) (by rfl)  rfl (by first | exact hw.read 0 rfl | exact hw.read 1 rfl | exact hw.read 2 rfl | exact hw.read 3 rfl | exact hw.read 4 rfl | exact hw.read 5 rfl | exact hw.read 6 rfl | exact hw.read 7 rfl | exact hw.read 8 rfl) tm_agg (by exact Acv.x11 _ _) (by rw [Acv.size]; decide) ?_))
  go_ret
  exact ⟨rfl, (Sat.gets hw (by repeat (first | exact Gets.nil | exact Gets.refl _ | refine Gets.get 0 rfl ?_ | refine Gets.get 1 rfl ?_ | refine Gets.get 2 rfl ?_ | refine Gets.get 3 rfl ?_ | refine Gets.get 4 rfl ?_ | refine Gets.get 5 rfl ?_ | refine Gets.get 6 rfl ?_ | refine Gets.get 7 rfl ?_ | refine Gets.get 8 rfl ?_ | refine Gets.get 9 rfl ?_ | refine Gets.drop ?_)))⟩
theorem opF_in (b : List UInt8) : i64B (opF p b).kind ∧ i64B (opF p b).loc ∧ i64B (opF p b).n := by
  unfold i64B
  cases h : rightB p with
  | false => rw [opF_no h]; decide
  | true =>
    have ha := allI_in h
    have hq0 := Int.emod_nonneg (num2 b 3 : Int) (show allI p * 32 ≠ 0 by omega)
    have hq1 := Int.emod_lt_of_pos (num2 b 3 : Int) (show 0 < allI p * 32 by omega)
    obtain ⟨q, hq⟩ : ∃ q, (num2 b 3 : Int) % (allI p * 32) = q := ⟨_, rfl⟩
    obtain ⟨r, hr⟩ : ∃ r, (tb b 2).toNat % 4 = r := ⟨_, rfl⟩
    rw [opF_at h hq hr]
    rw [hq] at hq0 hq1
    have hr4 : r < 4 := by omega
    have k1 := (tb b 1).toNat_lt
    have hd : 1 ≤ ((2 ^ r : Nat) : Int) ∧ ((2 ^ r : Nat) : Int) ≤ 8 := by
      rcases (by omega : r = 0 ∨ r = 1 ∨ r = 2 ∨ r = 3) with rfl | rfl | rfl | rfl <;> decide
    generalize ((2 ^ r : Nat) : Int) = D at hd ⊢
    have m0 := Int.emod_nonneg q (show D ≠ 0 by omega)
    have m1 := Int.emod_lt_of_pos q (show 0 < D by omega)
    refine ⟨?_, ?_, ?_⟩ <;> dsimp only <;> omega
theorem lkAt_ok {ls : List Lkv} (b : List UInt8) (hl : ∀ l ∈ ls, i64B l.net ∧ i64B l.frm ∧ i64B l.dst) : i64B (lkAt ls b).net ∧ i64B (lkAt ls b).frm ∧ i64B (lkAt ls b).dst := by
  have z : i64B Lkv.zero.net ∧ i64B Lkv.zero.frm ∧ i64B Lkv.zero.dst := by unfold Lkv.zero i64B; decide
  unfold lkAt
  split
  · exact z
  · rw [List.getD_eq_getElem?_getD]
    cases h : ls[(tb b 1).toNat % ls.length]? with
    | none => exact z
    | some x => exact hl x (List.mem_of_getElem? h)
theorem actF_ok {ls : List Lkv} (b : List UInt8) (hl : ∀ l ∈ ls, i64B l.net ∧ i64B l.frm ∧ i64B l.dst) : Acv.Ok (actF p ls b) := by
  have z : i64B 0 := by unfold i64B; decide
  have h1 := opF_in (p := p) b
  have h2 := lkAt_ok b hl
  unfold actF
  split
  · exact ⟨z, z, z, z, z, z⟩
  split
  · exact ⟨z, z, z, h1.1, h1.2.1, h1.2.2⟩
  split
  · exact ⟨z, z, z, z, z, z⟩
  split
  · exact ⟨h2.1, h2.2.1, h2.2.2, z, z, z⟩
  split
  · exact ⟨z, z, z, z, z, z⟩
  split
  · exact ⟨z, z, z, z, z, z⟩
  · exact ⟨z, z, z, z, z, z⟩
/-- An act that there is. -/
def thereP (p : Pl) (x : Acv) : Prop := (x.kind = 1 ∨ x.kind = 2) ∧ 0 ≤ x.core ∧ x.core < p.cores ∨ (x.kind = 4 ∨ x.kind = 5) ∧ 0 ≤ x.bank ∧ x.bank < p.banks ∨ x.kind = 3 ∨ x.kind = 6
set_option maxRecDepth 100000 in
set_option maxHeartbeats 16000000 in
theorem ref_There {x : Acv} {v : Value} (hw : Sat E w F) (ht : thereP p x) (hv : v.oneCell' = true) : Calls Try.prog 18 #[.agg p.cs, .agg (x.cs v)] w fun e w' => e = .returned (.int .i64 0) ∧ Sat E w' F := by
  rcases ht with ⟨h | h, h1, h2⟩ | ⟨h | h, h1, h2⟩ | h | h
  all_goals (
    go_enter Try.func18, Try.ntmps18
    go_wp2_with (first | (refine wl_box (d := some 2) hw _ (by simp only [Act.eval, Act.put, List.setIfInBounds_toArray, List.set_cons_succ, List.set_cons_zero, gd_s, gd_0, Value.cells]; exact rfl) ?_; clear hw; intro b2 w hw; (try simp only [List.set_cons_succ, List.set_cons_zero, List.setIfInBounds_toArray, Value.cells, List.eraseIdx_cons_succ, List.eraseIdx_cons_zero] at hw)) | (refine wl_box (d := some 3) hw _ (by simp only [Act.eval, Act.put, List.setIfInBounds_toArray, List.set_cons_succ, List.set_cons_zero, gd_s, gd_0, Value.cells]; exact rfl) ?_; clear hw; intro b3 w hw; (try simp only [List.set_cons_succ, List.set_cons_zero, List.setIfInBounds_toArray, Value.cells, List.eraseIdx_cons_succ, List.eraseIdx_cons_zero] at hw)) | (refine wb_load1 (d := some 6)  rfl (by first | exact hw.read 0 rfl | exact hw.read 1 rfl | exact hw.read 2 rfl | exact hw.read 3 rfl | exact hw.read 4 rfl | exact hw.read 5 rfl | exact hw.read 6 rfl | exact hw.read 7 rfl | exact hw.read 8 rfl) (by decide +kernel) (by exact Acv.c0 _ _) ?_) | (refine wl_run (d := some 7) (rn_clss rfl (by exact rfl) (by exact rfl) true (decide_eq_true (by omega))) ?_) | (refine wl_run (d := some 7) (rn_clss rfl (by exact rfl) (by exact rfl) false (decide_eq_false (by omega))) ?_) | (refine wg_load1 (d := some 10) (by rfl)  rfl (by first | exact hw.read 0 rfl | exact hw.read 1 rfl | exact hw.read 2 rfl | exact hw.read 3 rfl | exact hw.read 4 rfl | exact hw.read 5 rfl | exact hw.read 6 rfl | exact hw.read 7 rfl | exact hw.read 8 rfl) (by decide +kernel) (by exact Acv.c0 _ _) ?_) | (refine wg_run (d := some 11) (by rfl) (rn_cgtr rfl (by exact rfl) (by exact rfl) true (decide_eq_true (by omega))) ?_) | (refine wg_run (d := some 11) (by rfl) (rn_cgtr rfl (by exact rfl) (by exact rfl) false (decide_eq_false (by omega))) ?_) | (refine wb_load1 (d := some 14)  rfl (by first | exact hw.read 0 rfl | exact hw.read 1 rfl | exact hw.read 2 rfl | exact hw.read 3 rfl | exact hw.read 4 rfl | exact hw.read 5 rfl | exact hw.read 6 rfl | exact hw.read 7 rfl | exact hw.read 8 rfl) (by decide +kernel) (by exact Acv.c0 _ _) ?_) | (refine wl_run (d := some 15) (rn_ceql rfl (by exact rfl) (by exact rfl) true (decide_eq_true (by omega))) ?_) | (refine wl_run (d := some 15) (rn_ceql rfl (by exact rfl) (by exact rfl) false (decide_eq_false (by omega))) ?_) | (refine wg_load1 (d := some 18) (by rfl)  rfl (by first | exact hw.read 0 rfl | exact hw.read 1 rfl | exact hw.read 2 rfl | exact hw.read 3 rfl | exact hw.read 4 rfl | exact hw.read 5 rfl | exact hw.read 6 rfl | exact hw.read 7 rfl | exact hw.read 8 rfl) (by decide +kernel) (by exact Acv.c0 _ _) ?_) | (refine wg_run (d := some 19) (by rfl) (rn_ceql rfl (by exact rfl) (by exact rfl) true (decide_eq_true (by omega))) ?_) | (refine wg_run (d := some 19) (by rfl) (rn_ceql rfl (by exact rfl) (by exact rfl) false (decide_eq_false (by omega))) ?_) | (refine wg_load1 (d := some 23) (by rfl)  rfl (by first | exact hw.read 0 rfl | exact hw.read 1 rfl | exact hw.read 2 rfl | exact hw.read 3 rfl | exact hw.read 4 rfl | exact hw.read 5 rfl | exact hw.read 6 rfl | exact hw.read 7 rfl | exact hw.read 8 rfl) (by decide +kernel) (by exact Acv.c1 _ _) ?_) | (refine wg_run (d := some 24) (by rfl) (rn_clss rfl (by exact rfl) (by exact rfl) true (decide_eq_true (by omega))) ?_) | (refine wg_run (d := some 24) (by rfl) (rn_clss rfl (by exact rfl) (by exact rfl) false (decide_eq_false (by omega))) ?_) | (refine wg_load1 (d := some 27) (by rfl)  rfl (by first | exact hw.read 0 rfl | exact hw.read 1 rfl | exact hw.read 2 rfl | exact hw.read 3 rfl | exact hw.read 4 rfl | exact hw.read 5 rfl | exact hw.read 6 rfl | exact hw.read 7 rfl | exact hw.read 8 rfl) (by decide +kernel) (by exact Acv.c1 _ _) ?_) | (refine wg_load1 (d := some 29) (by rfl)  rfl (by first | exact hw.read 0 rfl | exact hw.read 1 rfl | exact hw.read 2 rfl | exact hw.read 3 rfl | exact hw.read 4 rfl | exact hw.read 5 rfl | exact hw.read 6 rfl | exact hw.read 7 rfl | exact hw.read 8 rfl) (by decide +kernel) (by exact Pl.c0 _) ?_) | (refine wg_run (d := some 30) (by rfl) (rn_cgeq rfl (by exact rfl) (by exact rfl) true (decide_eq_true (by omega))) ?_) | (refine wg_run (d := some 30) (by rfl) (rn_cgeq rfl (by exact rfl) (by exact rfl) false (decide_eq_false (by omega))) ?_) | (refine wb_load1 (d := some 34)  rfl (by first | exact hw.read 0 rfl | exact hw.read 1 rfl | exact hw.read 2 rfl | exact hw.read 3 rfl | exact hw.read 4 rfl | exact hw.read 5 rfl | exact hw.read 6 rfl | exact hw.read 7 rfl | exact hw.read 8 rfl) (by decide +kernel) (by exact Acv.c0 _ _) ?_) | (refine wl_run (d := some 35) (rn_ceql rfl (by exact rfl) (by exact rfl) true (decide_eq_true (by omega))) ?_) | (refine wl_run (d := some 35) (rn_ceql rfl (by exact rfl) (by exact rfl) false (decide_eq_false (by omega))) ?_) | (refine wg_load1 (d := some 38) (by rfl)  rfl (by first | exact hw.read 0 rfl | exact hw.read 1 rfl | exact hw.read 2 rfl | exact hw.read 3 rfl | exact hw.read 4 rfl | exact hw.read 5 rfl | exact hw.read 6 rfl | exact hw.read 7 rfl | exact hw.read 8 rfl) (by decide +kernel) (by exact Acv.c0 _ _) ?_) | (refine wg_run (d := some 39) (by rfl) (rn_ceql rfl (by exact rfl) (by exact rfl) true (decide_eq_true (by omega))) ?_) | (refine wg_run (d := some 39) (by rfl) (rn_ceql rfl (by exact rfl) (by exact rfl) false (decide_eq_false (by omega))) ?_) | (refine wg_load1 (d := some 43) (by rfl)  rfl (by first | exact hw.read 0 rfl | exact hw.read 1 rfl | exact hw.read 2 rfl | exact hw.read 3 rfl | exact hw.read 4 rfl | exact hw.read 5 rfl | exact hw.read 6 rfl | exact hw.read 7 rfl | exact hw.read 8 rfl) (by decide +kernel) (by exact Acv.c2 _ _) ?_) | (refine wg_run (d := some 44) (by rfl) (rn_clss rfl (by exact rfl) (by exact rfl) true (decide_eq_true (by omega))) ?_) | (refine wg_run (d := some 44) (by rfl) (rn_clss rfl (by exact rfl) (by exact rfl) false (decide_eq_false (by omega))) ?_) | (refine wg_load1 (d := some 47) (by rfl)  rfl (by first | exact hw.read 0 rfl | exact hw.read 1 rfl | exact hw.read 2 rfl | exact hw.read 3 rfl | exact hw.read 4 rfl | exact hw.read 5 rfl | exact hw.read 6 rfl | exact hw.read 7 rfl | exact hw.read 8 rfl) (by decide +kernel) (by exact Acv.c2 _ _) ?_) | (refine wg_load1 (d := some 49) (by rfl)  rfl (by first | exact hw.read 0 rfl | exact hw.read 1 rfl | exact hw.read 2 rfl | exact hw.read 3 rfl | exact hw.read 4 rfl | exact hw.read 5 rfl | exact hw.read 6 rfl | exact hw.read 7 rfl | exact hw.read 8 rfl) (by decide +kernel) (by exact Pl.c1 _) ?_) | (refine wg_run (d := some 50) (by rfl) (rn_cgeq rfl (by exact rfl) (by exact rfl) true (decide_eq_true (by omega))) ?_) | (refine wg_run (d := some 50) (by rfl) (rn_cgeq rfl (by exact rfl) (by exact rfl) false (decide_eq_false (by omega))) ?_))
    go_ret
    exact ⟨rfl, (Sat.gets hw (by repeat (first | exact Gets.nil | exact Gets.refl _ | refine Gets.get 0 rfl ?_ | refine Gets.get 1 rfl ?_ | refine Gets.get 2 rfl ?_ | refine Gets.get 3 rfl ?_ | refine Gets.get 4 rfl ?_ | refine Gets.get 5 rfl ?_ | refine Gets.get 6 rfl ?_ | refine Gets.get 7 rfl ?_ | refine Gets.get 8 rfl ?_ | refine Gets.get 9 rfl ?_ | refine Gets.drop ?_)))⟩)
end
end Go.Proofs.Ytmjbhpaefhnnnaa
