/- noc.New. Conditions: none. -/
import Derived.Test.YtbkfhieadnfndaaNocT
set_option linter.unusedVariables false
set_option linter.unusedSimpArgs false
namespace Go.Proofs.Ytbkfhieadnfndaa
open Go Go.RowKit Go.Sx Go.Bst
set_option maxRecDepth 100000
set_option maxHeartbeats 4000000
def cNew : Mc := .seq (.reg [⟨some 4, .assign (.const (.pointer none)), 78, none, .no⟩]) (.seq (.reg [⟨some 9, .move (.tmp 0), 3, none, .no⟩, ⟨some 10, .call { callee := .builtin .max, args := ⟨[.tmp 9, .const (.int .i64 0)]⟩, argTypes := ⟨[3, 3]⟩ }, 3, none, .no⟩, ⟨some 11, .call { callee := .builtin .min, args := ⟨[.tmp 10, .const (.int .i64 16)]⟩, argTypes := ⟨[3, 3]⟩ }, 3, none, .no⟩, ⟨some 12, .makeMap 113 none, 113, none, .no⟩, ⟨some 13, .build 115 ⟨[(0, .tmp 11), (1, .tmp 12)]⟩, 115, none, .lay [.int .i64 0, .map none] [(0, 1), (1, 1)]⟩, ⟨some 14, .box 115 (.tmp 13), 78, none, .agg 2⟩, ⟨some 5, .assign (.tmp 14), 78, none, .no⟩]) (.seq (.seq (.reg [⟨some 15, .move (.const (.int .i64 0)), 3, none, .no⟩]) (.block 0 (.loop (.seq (.reg [⟨some 16, .binOp .lss 3 (.tmp 15) (.const (.int .i64 3)) 3, 4, none, .no⟩]) (.seq (.cond (.tmp 16) .skip (.exit 0)) (.seq (.block 1 (.seq (.reg [⟨some 17, .move (.tmp 15), 3, none, .no⟩, ⟨some 6, .assign (.tmp 17), 3, none, .no⟩]) (.seq (.reg [⟨some 18, .move (.tmp 5), 78, none, .no⟩, ⟨some 19, .nilCheck (.tmp 18), 0, none, .no⟩, ⟨some 20, .fieldAddr 115 (.tmp 19) 0, 0, none, .off 0⟩, ⟨some 21, .load 3 (.tmp 20), 3, none, .one⟩, ⟨some 22, .move (.const (.int .i64 0)), 3, none, .no⟩]) (.block 2 (.loop (.seq (.reg [⟨some 23, .binOp .lss 3 (.tmp 22) (.tmp 21) 3, 4, none, .no⟩]) (.seq (.cond (.tmp 23) .skip (.exit 2)) (.seq (.block 3 (.seq (.reg [⟨some 24, .move (.tmp 22), 3, none, .no⟩, ⟨some 7, .assign (.tmp 24), 3, none, .no⟩]) (.seq (.reg [⟨some 25, .move (.tmp 5), 78, none, .no⟩, ⟨some 26, .nilCheck (.tmp 25), 0, none, .no⟩, ⟨some 27, .fieldAddr 115 (.tmp 26) 0, 0, none, .off 0⟩, ⟨some 28, .load 3 (.tmp 27), 3, none, .one⟩, ⟨some 29, .move (.const (.int .i64 0)), 3, none, .no⟩]) (.block 4 (.loop (.seq (.reg [⟨some 30, .binOp .lss 3 (.tmp 29) (.tmp 28) 3, 4, none, .no⟩]) (.seq (.cond (.tmp 30) .skip (.exit 4)) (.seq (.block 5 (.seq (.reg [⟨some 31, .move (.tmp 29), 3, none, .no⟩, ⟨some 8, .assign (.tmp 31), 3, none, .no⟩]) (.dreg [(.P, ⟨some 32, .move (.tmp 5), 78, none, .no⟩), (.P, ⟨some 33, .nilCheck (.tmp 32), 0, none, .no⟩), (.P, ⟨some 34, .fieldAddr 115 (.tmp 33) 1, 0, none, .off 1⟩), (.R, ⟨some 35, .load 113 (.tmp 34), 113, none, .one⟩), (.P, ⟨some 36, .move (.tmp 6), 3, none, .no⟩), (.P, ⟨some 37, .move (.tmp 7), 3, none, .no⟩), (.P, ⟨some 38, .move (.tmp 8), 3, none, .no⟩), (.P, ⟨some 39, .build 82 ⟨[(0, .tmp 36), (1, .tmp 37), (2, .tmp 38)]⟩, 82, none, .lay [.int .i64 0, .int .i64 0, .int .i64 0] [(0, 1), (1, 1), (2, 1)]⟩), (.P, ⟨some 40, .move (.tmp 1), 3, none, .no⟩), (.D, ⟨some 41, .call { callee := .value (.func 13), args := ⟨[.tmp 40]⟩, argTypes := ⟨[3]⟩ }, 24, none, .one⟩), (.L, ⟨none, .mapUpdate 113 (.tmp 35) (.tmp 39) (.tmp 41), 0, none, .no⟩)] 1 false))) (.reg [⟨some 42, .binOp .add 3 (.tmp 29) (.const (.int .i64 1)) 3, 3, none, .no⟩, ⟨some 29, .move (.tmp 42), 3, none, .no⟩]))))))))) (.reg [⟨some 43, .binOp .add 3 (.tmp 22) (.const (.int .i64 1)) 3, 3, none, .no⟩, ⟨some 22, .move (.tmp 43), 3, none, .no⟩]))))))))) (.reg [⟨some 44, .binOp .add 3 (.tmp 15) (.const (.int .i64 1)) 3, 3, none, .no⟩, ⟨some 15, .move (.tmp 44), 3, none, .no⟩]))))))) (.seq (.reg [⟨some 45, .move (.tmp 5), 78, none, .no⟩, ⟨some 4, .assign (.tmp 45), 78, none, .no⟩]) .ret)))
theorem cNew_ok : mcOf Try.prog Try.f37.ntmps (Try.f37.body.getD .skip) = cNew := by kernel_rfl
theorem cNew_res : resOf Try.prog Try.f37.results.toList = some [.tmp 4] := by kernel_rfl
def keyL (ls : List Lk) (adr : Lk → Nat) (v : Value) : Option Value := (lkOf v).bind fun l => if l ∈ ls then some (.pointer (some ⟨adr l, 0, none⟩)) else none
theorem keyL_all (n : Nat) (adr : Lk → Nat) : keyL (lks n) adr = keyF n adr := by
  funext v
  unfold keyL keyF
  congr 1
  funext l
  cases h : thereB n l with
  | true => rw [if_pos (mem_lks.2 h)]; rfl
  | false => rw [if_neg (fun hm => by rw [mem_lks.1 hm] at h; cases h)]; rfl
def pre1 (n a : Nat) : List Lk := (List.range a).flatMap fun (a : Nat) => (List.range n).flatMap fun (f : Nat) => (List.range n).map fun (t : Nat) => ((a : Int), (f : Int), (t : Int))
def pre2 (n a f : Nat) : List Lk := pre1 n a ++ (List.range f).flatMap fun (f : Nat) => (List.range n).map fun (t : Nat) => ((a : Int), (f : Int), (t : Int))
def pre3 (n a f t : Nat) : List Lk := pre2 n a f ++ (List.range t).map fun (t : Nat) => ((a : Int), (f : Int), (t : Int))
theorem pre3_succ (n a f t : Nat) : pre3 n a f (t + 1) = pre3 n a f t ++ [((a : Int), (f : Int), (t : Int))] := by unfold pre3; rw [List.range_succ, List.map_append, List.append_assoc]; rfl
theorem pre3_end (n a f : Nat) : pre3 n a f n = pre2 n a (f + 1) := by unfold pre3 pre2; rw [List.range_succ, List.flatMap_append, List.append_assoc]; simp
theorem pre3_0 (n a f : Nat) : pre3 n a f 0 = pre2 n a f := by simp [pre3]
theorem pre2_end (n a : Nat) : pre2 n a n = pre1 n (a + 1) := by unfold pre2 pre1; rw [List.range_succ, List.flatMap_append]; simp
theorem pre2_0 (n a : Nat) : pre2 n a 0 = pre1 n a := by simp [pre2]
theorem pre_new (n a f t : Nat) (ht : t < n) (hf : f < n) : ((a : Int), (f : Int), (t : Int)) ∉ pre3 n a f t := by
  unfold pre3 pre2 pre1
  simp only [List.mem_append, List.mem_flatMap, List.mem_map, List.mem_range, Prod.mk.injEq, not_or, not_exists, not_and]
  refine ⟨⟨fun x hx y hy z hz h1 h2 h3 => ?_, fun y hy z hz h1 h2 h3 => ?_⟩, fun z hz h1 h2 h3 => ?_⟩ <;> omega
/-- The place of one more. -/
def adrW (adr : Lk → Nat) (l : Lk) (q : Nat) : Lk → Nat := fun x => if x = l then q else adr x
section
variable {E : Env} {w : World} {F : List HP} {b n room : Nat} {st : Lk → List (Array Value)} {l : Lk}
theorem Mf_more {mb q : Nat} {ls : List Lk} {adr : Lk → Nat} (h : Sat E w (Mf mb IsLk (upd (keyL ls adr) (lkV l) (some (.pointer (some ⟨q, 0, none⟩)))) :: F)) : Sat E w (Mf mb IsLk (keyL (ls ++ [l]) (adrW adr l q)) :: F) := by
  refine Mf_congr h ?_
  rintro k ⟨x, rfl, _⟩
  by_cases hx : x = l
  · subst hx
    rw [upd_same]
    unfold keyL adrW
    rw [lkOf_lkV, Option.bind_some, if_pos (by simp), if_pos rfl]
  · rw [upd_ne _ _ _ (fun e => hx (lkV_inj e))]
    unfold keyL adrW
    rw [lkOf_lkV, Option.bind_some, Option.bind_some, if_neg hx]
    simp [hx]
theorem Qs_more {q : Nat} {ls : List Lk} {adr : Lk → Nat} (hn : l ∉ ls) (h : Sat E w (Queue q room [] :: Qs adr room (fun _ => []) ls :: F)) : Sat E w (Qs (adrW adr l q) room (fun _ => []) (ls ++ [l]) :: F) := by
  have h1 := Sat.flat (h.perm (List.Perm.swap _ _ _))
  refine Sat.fold (h1.perm ?_)
  have e1 : (ls.map fun x => Queue (adr x) room []) = ls.map fun x => Queue (adrW adr l q x) room [] := List.map_congr_left fun x hx => by unfold adrW; rw [if_neg (fun e : x = l => hn (by rw [← e]; exact hx))]
  rw [List.map_append, List.map_cons, List.map_nil, e1, show adrW adr l q l = q from by unfold adrW; rw [if_pos rfl], List.append_assoc]
  exact List.Perm.refl _
theorem net_new {nodes rm : Int} (hw : Sat E w F) :
    Calls Try.prog 37 #[.int .i64 nodes, .int .i64 rm] w fun e w' => ∃ b, e = .returned (.pointer (some ⟨b, 0, none⟩)) ∧ Sat E w' (Net b (min (max nodes 0) 16).toNat (min (max rm 0) 4096).toNat (fun _ => []) :: F) := by
  obtain ⟨N, hN⟩ : ∃ N : Nat, min (max nodes 0) 16 = (N : Int) := ⟨(min (max nodes 0) 16).toNat, by omega⟩
  have hN16 : N ≤ 16 := by omega
  obtain ⟨R, hR⟩ : ∃ R : Nat, (min (max rm 0) 4096).toNat = R := ⟨_, rfl⟩
  rw [hN, Int.toNat_natCast, hR]
  refine calls_ok hmo Try.func37 rfl cNew_ok cNew_res [(0, .v (.int .i64 nodes)), (1, .v (.int .i64 rm))] [] _ hw (by exact Nat.le_of_ble_eq_true rfl) (by simp [argsOk, isV]) ?_
  refine run_ok 4000 _ _ _ _ ?_; simp only [cNew, sx, Nat.reduceBEq, Nat.reduceAdd, Nat.reduceLeDiff, Nat.reduceMul, Int.toNat_natCast]
  intro a w Q he hs
  refine wk_makeMap hs IsLk fun mb w hw => ?_
  refine ⟨.v (.map (some mb)), _, [], Mf mb IsLk (fun _ => none) :: F, rfl, rfl, rfl, hw, trivial, ?_⟩
  refine run_ok 4000 _ _ _ _ ?_; simp only [hN, sx, Nat.reduceBEq, Nat.reduceAdd, Nat.reduceLeDiff, Nat.reduceMul, Int.toNat_natCast]
  intro b
  refine loop_ok (fun x : {x : Nat × (Lk → Nat) // x.1 ≤ 3} => ⟨[(1, .v (.int .i64 rm)), (5, .p 14 0), (15, .v (.int .i64 x.1.1))], [⟨14, b, 115, [.int .i64 N, .map (some mb)]⟩], Mf mb IsLk (keyL (pre1 N x.1.1) x.1.2) :: Qs x.1.2 R (fun _ => []) (pre1 N x.1.1) :: F⟩) (fun x => 3 - x.1.1) ⟨(0, fun _ => 0), by omega⟩ (ent_ok ?_ ?_) ?_
  · simp only [sx, Nat.reduceBEq]; rfl
  · intro w hw
    have h2 : Sat E w (Qs (fun _ => 0) R (fun _ => []) [] :: [pt b (.cells #[.int .i64 N, .map (some mb)] 115), Mf mb IsLk (fun _ => none)] ++ F) := Sat.fold (K := []) hw
    have h3 := Mf_congr (g := keyL [] (fun _ => 0)) (h2.front 2 rfl) (by rintro k ⟨x, rfl, _⟩; unfold keyL; rw [lkOf_lkV]; simp)
    have hw := h3
    exact (Sat.gets hw (by repeat (first | exact Gets.nil | exact Gets.refl _ | refine Gets.get 0 rfl ?_ | refine Gets.get 1 rfl ?_ | refine Gets.get 2 rfl ?_ | refine Gets.get 3 rfl ?_ | refine Gets.get 4 rfl ?_ | refine Gets.get 5 rfl ?_ | refine Gets.get 6 rfl ?_ | refine Gets.get 7 rfl ?_ | refine Gets.get 8 rfl ?_ | refine Gets.get 9 rfl ?_ | refine Gets.drop ?_)))
  · rintro ⟨⟨a, adr⟩, ha⟩
    refine run_ok 4000 _ _ _ _ ?_; simp only [sx, Nat.reduceBEq, Nat.reduceAdd, Nat.reduceLeDiff, Nat.reduceMul, Int.toNat_natCast]
    refine ⟨fun hlt => ?_, fun hge => ?_⟩
    · have hlt := of_decide_eq_true hlt
      refine run_ok 4000 _ _ _ _ ?_; simp only [sx, Nat.reduceBEq, Nat.reduceAdd, Nat.reduceLeDiff, Nat.reduceMul, Int.toNat_natCast]
      refine loop_ok (fun x : {x : Nat × (Lk → Nat) // x.1 ≤ N} => ⟨[(1, .v (.int .i64 rm)), (5, .p 14 0), (6, .v (.int .i64 a)), (15, .v (.int .i64 a)), (21, .v (.int .i64 N)), (22, .v (.int .i64 x.1.1))], [⟨14, b, 115, [.int .i64 N, .map (some mb)]⟩], Mf mb IsLk (keyL (pre2 N a x.1.1) x.1.2) :: Qs x.1.2 R (fun _ => []) (pre2 N a x.1.1) :: F⟩) (fun x => N - x.1.1) ⟨(0, adr), by omega⟩ (ent_ok ?_ ?_) ?_
      · simp only [sx, Nat.reduceBEq]; rfl
      · intro w hw
        dsimp only
        rw [pre2_0]
        exact hw
      · rintro ⟨⟨f, adr⟩, hf⟩
        refine run_ok 4000 _ _ _ _ ?_; simp only [sx, Nat.reduceBEq, Nat.reduceAdd, Nat.reduceLeDiff, Nat.reduceMul, Int.toNat_natCast]
        refine ⟨fun hlt2 => ?_, fun hge2 => ?_⟩
        · have hlt2 := of_decide_eq_true hlt2
          refine run_ok 4000 _ _ _ _ ?_; simp only [sx, Nat.reduceBEq, Nat.reduceAdd, Nat.reduceLeDiff, Nat.reduceMul, Int.toNat_natCast]
          refine loop_ok (fun x : {x : Nat × (Lk → Nat) // x.1 ≤ N} => ⟨[(1, .v (.int .i64 rm)), (5, .p 14 0), (6, .v (.int .i64 a)), (7, .v (.int .i64 f)), (15, .v (.int .i64 a)), (21, .v (.int .i64 N)), (22, .v (.int .i64 f)), (28, .v (.int .i64 N)), (29, .v (.int .i64 x.1.1))], [⟨14, b, 115, [.int .i64 N, .map (some mb)]⟩], Mf mb IsLk (keyL (pre3 N a f x.1.1) x.1.2) :: Qs x.1.2 R (fun _ => []) (pre3 N a f x.1.1) :: F⟩) (fun x => N - x.1.1) ⟨(0, adr), by omega⟩ (ent_ok ?_ ?_) ?_
          · simp only [sx, Nat.reduceBEq]; rfl
          · intro w hw
            dsimp only
            rw [pre3_0]
            exact hw
          · rintro ⟨⟨t, adr⟩, ht⟩
            refine run_ok 4000 _ _ _ _ ?_; simp only [sx, Nat.reduceBEq, Nat.reduceAdd, Nat.reduceLeDiff, Nat.reduceMul, Int.toNat_natCast]
            refine ⟨fun hlt3 => ?_, fun hge3 => ?_⟩
            · have hlt3 := of_decide_eq_true hlt3
              refine run_ok 4000 _ _ _ _ ?_; simp only [sx, Nat.reduceBEq, Nat.reduceAdd, Nat.reduceLeDiff, Nat.reduceMul, Int.toNat_natCast]
              refine dreg_ok [⟨14, b, 115, [.int .i64 N, .map (some mb)]⟩] (Mf mb IsLk (keyL (pre3 N a f t) adr) :: Qs adr R (fun _ => []) (pre3 N a f t) :: F) (fun _ h => h) ?_
              refine run_ok 4000 _ _ _ _ ?_; simp only [sx, Nat.reduceBEq, Nat.reduceAdd, Nat.reduceLeDiff, Nat.reduceMul, Int.toNat_natCast]
              refine call_go fun w hs => ?_
              refine (ring_new (r := rm) hs).mono ?_
              rintro e w ⟨q, rfl, hw⟩
              rw [hR] at hw
              refine ⟨.v (.pointer (some ⟨q, 0, none⟩)), _, Queue q R [] :: Mf mb IsLk (keyL (pre3 N a f t) adr) :: Qs adr R (fun _ => []) (pre3 N a f t) :: F, rfl, rfl, hw.perm (List.Perm.swap _ _ _), fun w hw => (Sat.gets hw (by repeat (first | exact Gets.nil | exact Gets.refl _ | refine Gets.get 0 rfl ?_ | refine Gets.get 1 rfl ?_ | refine Gets.get 2 rfl ?_ | refine Gets.get 3 rfl ?_ | refine Gets.get 4 rfl ?_ | refine Gets.get 5 rfl ?_ | refine Gets.get 6 rfl ?_ | refine Gets.get 7 rfl ?_ | refine Gets.get 8 rfl ?_ | refine Gets.get 9 rfl ?_ | refine Gets.drop ?_))), ?_⟩
              refine run_ok 4000 _ _ _ _ ?_; simp only [sx, Nat.reduceBEq, Nat.reduceAdd, Nat.reduceLeDiff, Nat.reduceMul, Int.toNat_natCast]
              intro aa w Q he hs
              simp only [opsOf, Op.operands, sx, Nat.reduceBEq] at he
              have hl3 : fit3 ((a : Int), (f : Int), (t : Int)) := by simp [fit3, fitAll, SK.fits, IntKind.min, IntKind.max, IntKind.signed, IntKind.bits]; omega
              refine wk_mapUpdate hs he.1 2 rfl k_Link u_Link (key := lkV ((a : Int), (f : Int), (t : Int))) he.2.1 ⟨_, rfl, hl3⟩ _ he.2.2 fun w hw => ?_
              refine ⟨.v undef, undef, [⟨14, b, 115, [.int .i64 N, .map (some mb)]⟩], Queue q R [] :: Mf mb IsLk (upd (keyL (pre3 N a f t) adr) (lkV ((a : Int), (f : Int), (t : Int))) (some (.pointer (some ⟨q, 0, none⟩)))) :: Qs adr R (fun _ => []) (pre3 N a f t) :: F, rfl, rfl, rfl, hw, trivial, ?_⟩
              · refine run_ok 4000 _ _ _ _ ?_; simp only [sx, Nat.reduceBEq, Nat.reduceAdd, Nat.reduceLeDiff, Nat.reduceMul, Int.toNat_natCast]
                refine ⟨by rw [inR64]; omega, back_ok ⟨(t + 1, adrW adr ((a : Int), (f : Int), (t : Int)) q), by show t + 1 ≤ N; omega⟩ ?_ ?_ (by show N - (t + 1) < N - t; omega)⟩
                · simp only [sx, Nat.reduceBEq]
                  simp
                · intro w hw
                  dsimp only
                  rw [pre3_succ]
                  have h1 := Mf_more (hw.front 2 rfl)
                  have h2 := Qs_more (pre_new N a f t (by omega) (by omega)) (F := [_, _] ++ F) (h1.gets (Gets.get 2 rfl (Gets.get 2 rfl (Gets.refl _))))
                  have hw := h2
                  exact (Sat.gets hw (by repeat (first | exact Gets.nil | exact Gets.refl _ | refine Gets.get 0 rfl ?_ | refine Gets.get 1 rfl ?_ | refine Gets.get 2 rfl ?_ | refine Gets.get 3 rfl ?_ | refine Gets.get 4 rfl ?_ | refine Gets.get 5 rfl ?_ | refine Gets.get 6 rfl ?_ | refine Gets.get 7 rfl ?_ | refine Gets.get 8 rfl ?_ | refine Gets.get 9 rfl ?_ | refine Gets.drop ?_)))
            · have hge3 : t = N := by have := of_decide_eq_false hge3; dsimp only at ht; omega
              subst hge3
              refine run_ok 4000 _ _ _ _ ?_; simp only [sx, Nat.reduceBEq, Nat.reduceAdd, Nat.reduceLeDiff, Nat.reduceMul, Int.toNat_natCast]
              refine ⟨by rw [inR64]; omega, back_ok ⟨(f + 1, adr), by show f + 1 ≤ t; omega⟩ ?_ ?_ (by show t - (f + 1) < t - f; omega)⟩
              · simp only [sx, Nat.reduceBEq]
                simp
              · intro w hw
                dsimp only
                rw [← pre3_end]
                exact hw
        · have hge2 : f = N := by have := of_decide_eq_false hge2; dsimp only at hf; omega
          subst hge2
          refine run_ok 4000 _ _ _ _ ?_; simp only [sx, Nat.reduceBEq, Nat.reduceAdd, Nat.reduceLeDiff, Nat.reduceMul, Int.toNat_natCast]
          refine ⟨by rw [inR64]; omega, back_ok ⟨(a + 1, adr), by show a + 1 ≤ 3; omega⟩ ?_ ?_ (by show 3 - (a + 1) < 3 - a; omega)⟩
          · simp only [sx, Nat.reduceBEq]
            simp
          · intro w hw
            dsimp only
            rw [← pre2_end]
            exact hw
    · have hge : a = 3 := by have := of_decide_eq_false hge; dsimp only at ha; omega
      subst hge
      refine run_ok 4000 _ _ _ _ ?_; simp only [sx, Nat.reduceBEq, Nat.reduceAdd, Nat.reduceLeDiff, Nat.reduceMul, Int.toNat_natCast]
      intro w hw
      have hw := hw
      rw [show pre1 N 3 = lks N from rfl, keyL_all] at hw
      exact ⟨b, rfl, Net_shut hw⟩
end
end Go.Proofs.Ytbkfhieadnfndaa
