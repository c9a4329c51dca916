/- The net's functions: contracts: what is done with one queue. Conditions: none. -/
import Derived.Test.YtbkfhieadnfndaaNocS
import Derived.Test.YtbkfhieadnfndaaClo
set_option linter.unusedVariables false
set_option linter.unusedSimpArgs false
namespace Go.Proofs.Ytbkfhieadnfndaa
open Go Go.RowKit Go.Sx Go.Bst
set_option maxRecDepth 100000
set_option maxHeartbeats 4000000
def cRoom : Mc := .seq (.reg [⟨some 3, .box 82 (.tmp 1), 0, none, .agg 3⟩, ⟨some 4, .assign (.const (.int .i64 0)), 3, none, .no⟩]) (.seq (.dreg [(.P, ⟨some 8, .move (.tmp 0), 78, none, .no⟩), (.P, ⟨some 9, .nilCheck (.tmp 8), 0, none, .no⟩), (.P, ⟨some 10, .fieldAddr 115 (.tmp 9) 1, 0, none, .off 1⟩), (.R, ⟨some 11, .load 113 (.tmp 10), 113, none, .one⟩), (.R, ⟨some 12, .load 82 (.tmp 3), 82, none, .agg 3⟩), (.R, ⟨some 13, .lookup 113 (.tmp 11) (.tmp 12) true, 116, none, .no⟩), (.P, ⟨some 7, .move (.tmp 13), 116, none, .no⟩), (.P, ⟨some 14, .extract (.tmp 7) 0, 24, none, .no⟩), (.P, ⟨some 15, .extract (.tmp 7) 1, 4, none, .no⟩), (.P, ⟨some 5, .assign (.tmp 14), 24, none, .no⟩), (.P, ⟨some 6, .assign (.tmp 15), 4, none, .no⟩)] 0 true) (.seq (.seq (.reg [⟨some 16, .move (.tmp 6), 4, none, .no⟩, ⟨some 17, .unOp .not 4 (.tmp 16), 4, none, .no⟩]) (.cond (.tmp 17) (.seq (.reg [⟨some 4, .assign (.const (.int .i64 0)), 3, none, .no⟩]) .ret) .skip)) (.seq (.reg [⟨some 18, .move (.tmp 5), 24, none, .no⟩, ⟨some 19, .call { callee := .value (.func 17), args := ⟨[.tmp 18]⟩, argTypes := ⟨[24]⟩ }, 3, none, .one⟩, ⟨some 4, .assign (.tmp 19), 3, none, .no⟩]) .ret)))
theorem cRoom_ok : mcOf Try.prog Try.f42.ntmps (Try.f42.body.getD .skip) = cRoom := by kernel_rfl
theorem cRoom_res : resOf Try.prog Try.f42.results.toList = some [.tmp 4] := by kernel_rfl
def cAll : Mc := .seq (.reg [⟨some 3, .box 82 (.tmp 1), 0, none, .agg 3⟩, ⟨some 4, .assign (.const (.slice none 0 0)), 22, none, .no⟩]) (.seq (.dreg [(.P, ⟨some 8, .move (.tmp 0), 78, none, .no⟩), (.P, ⟨some 9, .nilCheck (.tmp 8), 0, none, .no⟩), (.P, ⟨some 10, .fieldAddr 115 (.tmp 9) 1, 0, none, .off 1⟩), (.R, ⟨some 11, .load 113 (.tmp 10), 113, none, .one⟩), (.R, ⟨some 12, .load 82 (.tmp 3), 82, none, .agg 3⟩), (.R, ⟨some 13, .lookup 113 (.tmp 11) (.tmp 12) true, 116, none, .no⟩), (.P, ⟨some 7, .move (.tmp 13), 116, none, .no⟩), (.P, ⟨some 14, .extract (.tmp 7) 0, 24, none, .no⟩), (.P, ⟨some 15, .extract (.tmp 7) 1, 4, none, .no⟩), (.P, ⟨some 5, .assign (.tmp 14), 24, none, .no⟩), (.P, ⟨some 6, .assign (.tmp 15), 4, none, .no⟩)] 0 true) (.seq (.seq (.reg [⟨some 16, .move (.tmp 6), 4, none, .no⟩, ⟨some 17, .unOp .not 4 (.tmp 16), 4, none, .no⟩]) (.cond (.tmp 17) (.seq (.reg [⟨some 4, .assign (.const (.slice none 0 0)), 22, none, .no⟩]) .ret) .skip)) (.seq (.reg [⟨some 18, .move (.tmp 5), 24, none, .no⟩, ⟨some 19, .call { callee := .value (.func 19), args := ⟨[.tmp 18]⟩, argTypes := ⟨[24]⟩ }, 22, none, .one⟩, ⟨some 4, .assign (.tmp 19), 22, none, .no⟩]) .ret)))
theorem cAll_ok : mcOf Try.prog Try.f41.ntmps (Try.f41.body.getD .skip) = cAll := by kernel_rfl
theorem cAll_res : resOf Try.prog Try.f41.results.toList = some [.tmp 4] := by kernel_rfl
def cWith : Mc := .seq (.reg [⟨some 4, .box 82 (.tmp 1), 0, none, .agg 3⟩, ⟨some 6, .alloc 31, 0, none, .cells [.int .i64 0, .int .i64 0, .int .i64 0, .int .i64 0, .bool false, .bool false, .int .u8 0, .int .u8 0, .int .u8 0, .int .u8 0, .int .u8 0, .int .u8 0, .int .u8 0, .int .u8 0, .int .u8 0, .int .u8 0, .int .u8 0, .int .u8 0, .int .u8 0, .int .u8 0, .int .u8 0, .int .u8 0, .int .u8 0, .int .u8 0, .int .u8 0, .int .u8 0, .int .u8 0, .int .u8 0, .int .u8 0, .int .u8 0, .int .u8 0, .int .u8 0, .int .u8 0, .int .u8 0, .int .u8 0, .int .u8 0, .int .u8 0, .int .u8 0] true⟩, ⟨some 7, .assign (.const (.int .i64 0)), 26, none, .no⟩]) (.seq (.dreg [(.P, ⟨some 11, .move (.tmp 0), 78, none, .no⟩), (.P, ⟨some 12, .nilCheck (.tmp 11), 0, none, .no⟩), (.P, ⟨some 13, .fieldAddr 115 (.tmp 12) 1, 0, none, .off 1⟩), (.R, ⟨some 14, .load 113 (.tmp 13), 113, none, .one⟩), (.R, ⟨some 15, .load 82 (.tmp 4), 82, none, .agg 3⟩), (.R, ⟨some 16, .lookup 113 (.tmp 14) (.tmp 15) true, 116, none, .no⟩), (.P, ⟨some 10, .move (.tmp 16), 116, none, .no⟩), (.P, ⟨some 17, .extract (.tmp 10) 0, 24, none, .no⟩), (.P, ⟨some 18, .extract (.tmp 10) 1, 4, none, .no⟩), (.P, ⟨some 8, .assign (.tmp 17), 24, none, .no⟩), (.P, ⟨some 9, .assign (.tmp 18), 4, none, .no⟩)] 0 true) (.seq (.seq (.reg [⟨some 19, .move (.tmp 9), 4, none, .no⟩, ⟨some 20, .unOp .not 4 (.tmp 19), 4, none, .no⟩]) (.cond (.tmp 20) (.seq (.reg [⟨some 21, .build 31 ⟨[]⟩, 31, none, .lay [.int .i64 0, .int .i64 0, .int .i64 0, .int .i64 0, .bool false, .bool false, .int .u8 0, .int .u8 0, .int .u8 0, .int .u8 0, .int .u8 0, .int .u8 0, .int .u8 0, .int .u8 0, .int .u8 0, .int .u8 0, .int .u8 0, .int .u8 0, .int .u8 0, .int .u8 0, .int .u8 0, .int .u8 0, .int .u8 0, .int .u8 0, .int .u8 0, .int .u8 0, .int .u8 0, .int .u8 0, .int .u8 0, .int .u8 0, .int .u8 0, .int .u8 0, .int .u8 0, .int .u8 0, .int .u8 0, .int .u8 0, .int .u8 0, .int .u8 0] [(0, 1), (1, 1), (2, 1), (3, 1), (4, 1), (5, 1), (6, 32)]⟩, ⟨none, .store 31 (.tmp 6) (.tmp 21), 0, none, .agg 38⟩, ⟨some 7, .assign (.const (.int .i64 2)), 26, none, .no⟩]) .ret) .skip)) (.seq (.reg [⟨some 22, .move (.tmp 2), 118, none, .no⟩, ⟨some 23, .move (.tmp 8), 24, none, .no⟩, ⟨some 24, .call { callee := .value (.tmp 22), args := ⟨[.tmp 23]⟩, argTypes := ⟨[24]⟩ }, 33, none, .no⟩, ⟨some 25, .extract (.tmp 24) 0, 31, none, .no⟩, ⟨some 26, .extract (.tmp 24) 1, 26, none, .no⟩, ⟨none, .store 31 (.tmp 6) (.tmp 25), 0, none, .agg 38⟩, ⟨some 7, .assign (.tmp 26), 26, none, .no⟩]) .ret)))
theorem cWith_ok : mcOf Try.prog Try.f53.ntmps (Try.f53.body.getD .skip) = cWith := by kernel_rfl
theorem cWith_res : resOf Try.prog Try.f53.results.toList = some [.agg 6 38 31, .tmp 7] := by kernel_rfl
def cTake : Mc := .seq (.reg [⟨some 3, .box 82 (.tmp 1), 0, none, .agg 3⟩, ⟨some 4, .alloc 31, 0, none, .cells [.int .i64 0, .int .i64 0, .int .i64 0, .int .i64 0, .bool false, .bool false, .int .u8 0, .int .u8 0, .int .u8 0, .int .u8 0, .int .u8 0, .int .u8 0, .int .u8 0, .int .u8 0, .int .u8 0, .int .u8 0, .int .u8 0, .int .u8 0, .int .u8 0, .int .u8 0, .int .u8 0, .int .u8 0, .int .u8 0, .int .u8 0, .int .u8 0, .int .u8 0, .int .u8 0, .int .u8 0, .int .u8 0, .int .u8 0, .int .u8 0, .int .u8 0, .int .u8 0, .int .u8 0, .int .u8 0, .int .u8 0, .int .u8 0, .int .u8 0] true⟩, ⟨some 5, .assign (.const (.int .i64 0)), 26, none, .no⟩]) (.seq (.reg [⟨some 6, .move (.tmp 0), 78, none, .no⟩, ⟨some 7, .load 82 (.tmp 3), 82, none, .agg 3⟩, ⟨some 8, .call { callee := .value (.func 53), args := ⟨[.tmp 6, .tmp 7, .func 16]⟩, argTypes := ⟨[78, 82, 118]⟩ }, 33, none, .one⟩, ⟨some 9, .extract (.tmp 8) 0, 31, none, .no⟩, ⟨some 10, .extract (.tmp 8) 1, 26, none, .no⟩, ⟨none, .store 31 (.tmp 4) (.tmp 9), 0, none, .agg 38⟩, ⟨some 5, .assign (.tmp 10), 26, none, .no⟩]) .ret)
theorem cTake_ok : mcOf Try.prog Try.f39.ntmps (Try.f39.body.getD .skip) = cTake := by kernel_rfl
theorem cTake_res : resOf Try.prog Try.f39.results.toList = some [.agg 4 38 31, .tmp 5] := by kernel_rfl
def cNext : Mc := .seq (.reg [⟨some 3, .box 82 (.tmp 1), 0, none, .agg 3⟩, ⟨some 4, .alloc 31, 0, none, .cells [.int .i64 0, .int .i64 0, .int .i64 0, .int .i64 0, .bool false, .bool false, .int .u8 0, .int .u8 0, .int .u8 0, .int .u8 0, .int .u8 0, .int .u8 0, .int .u8 0, .int .u8 0, .int .u8 0, .int .u8 0, .int .u8 0, .int .u8 0, .int .u8 0, .int .u8 0, .int .u8 0, .int .u8 0, .int .u8 0, .int .u8 0, .int .u8 0, .int .u8 0, .int .u8 0, .int .u8 0, .int .u8 0, .int .u8 0, .int .u8 0, .int .u8 0, .int .u8 0, .int .u8 0, .int .u8 0, .int .u8 0, .int .u8 0, .int .u8 0] true⟩, ⟨some 5, .assign (.const (.int .i64 0)), 26, none, .no⟩]) (.seq (.reg [⟨some 6, .move (.tmp 0), 78, none, .no⟩, ⟨some 7, .load 82 (.tmp 3), 82, none, .agg 3⟩, ⟨some 8, .call { callee := .value (.func 53), args := ⟨[.tmp 6, .tmp 7, .func 23]⟩, argTypes := ⟨[78, 82, 118]⟩ }, 33, none, .one⟩, ⟨some 9, .extract (.tmp 8) 0, 31, none, .no⟩, ⟨some 10, .extract (.tmp 8) 1, 26, none, .no⟩, ⟨none, .store 31 (.tmp 4) (.tmp 9), 0, none, .agg 38⟩, ⟨some 5, .assign (.tmp 10), 26, none, .no⟩]) .ret)
theorem cNext_ok : mcOf Try.prog Try.f44.ntmps (Try.f44.body.getD .skip) = cNext := by kernel_rfl
theorem cNext_res : resOf Try.prog Try.f44.results.toList = some [.agg 4 38 31, .tmp 5] := by kernel_rfl
section
variable {E : Env} {w : World} {F : List HP} {b n room : Nat} {st : Lk → List (Array Value)} {l : Lk}
def roomF (n room : Nat) (st : Lk → List (Array Value)) (l : Lk) : Int := bif thereB n l then (room : Int) - (st l).length else 0
theorem setQ_id (st : Lk → List (Array Value)) (l : Lk) : setQ st l (st l) = st := by funext x; unfold setQ; split <;> simp_all
theorem net_room (hl : fit3 l) (hw : Sat E w (Net b n room st :: F)) :
    Calls Try.prog 42 #[.pointer (some ⟨b, 0, none⟩), lkV l] w fun e w' => e = .returned (.int .i64 (roomF n room st l)) ∧ Sat E w' (Net b n room st :: F) := by
  obtain ⟨mb, adr, hw⟩ := Net_open hw
  refine calls_ok hmo Try.func42 rfl cRoom_ok cRoom_res [(0, .p 100 0), (1, .a [.int .i64 l.1, .int .i64 l.2.1, .int .i64 l.2.2])] [⟨100, b, 115, [.int .i64 n, .map (some mb)]⟩] _ hw (by exact Nat.le_of_ble_eq_true rfl) (by simp [argsOk, isV, find, lkV]) ?_
  refine run_ok 4000 _ _ _ _ ?_; simp only [cRoom, sx, Nat.reduceBEq, Nat.reduceAdd, Nat.reduceLeDiff, Nat.reduceMul, Int.toNat_natCast]
  intro b1
  cases ht : thereB n l with
  | false =>
    refine ⟨.t2 (.v (.pointer none)) (.v (.bool false)), _, rfl, fun a w' he hs => ?_, ?_⟩
    · simp only [opsOf, Op.operands, sx, Nat.reduceBEq] at he
      exact look2 (l := l) false ht hl hs 2 rfl he.1 he.2
    · refine run_ok 4000 _ _ _ _ ?_; simp only [sx, Nat.reduceBEq, Nat.reduceAdd, Nat.reduceLeDiff, Nat.reduceMul, Int.toNat_natCast]
      refine run_ok 4000 _ _ _ _ ?_; simp only [sx, Nat.reduceBEq, Nat.reduceAdd, Nat.reduceLeDiff, Nat.reduceMul, Int.toNat_natCast]
      intro w hs
      exact ⟨by unfold roomF; rw [ht]; rfl, Net_shut (Sat.tail hs)⟩
  | true =>
    refine ⟨.t2 (.v (.pointer (some ⟨adr l, 0, none⟩))) (.v (.bool true)), _, rfl, fun a w' he hs => ?_, ?_⟩
    · simp only [opsOf, Op.operands, sx, Nat.reduceBEq] at he
      exact look2 (l := l) true ht hl hs 2 rfl he.1 he.2
    · refine run_ok 4000 _ _ _ _ ?_; simp only [sx, Nat.reduceBEq, Nat.reduceAdd, Nat.reduceLeDiff, Nat.reduceMul, Int.toNat_natCast]
      refine run_ok 4000 _ _ _ _ ?_; simp only [sx, Nat.reduceBEq, Nat.reduceAdd, Nat.reduceLeDiff, Nat.reduceMul, Int.toNat_natCast]
      refine call_go fun w hs => ?_
      have hq := Qs_take (nodup_lks n) (mem_lks.2 ht) (hs.front 3 rfl)
      refine (ring_room hq).mono ?_
      rintro e w ⟨rfl, k, rfl⟩
      refine ⟨.v (.int .i64 ((room : Int) - (st l).length)), _, _, rfl, rfl, hs.drewN k, trivial, ?_⟩
      refine run_ok 4000 _ _ _ _ ?_; simp only [sx, Nat.reduceBEq, Nat.reduceAdd, Nat.reduceLeDiff, Nat.reduceMul, Int.toNat_natCast]
      intro w hs
      exact ⟨by unfold roomF; rw [ht]; rfl, Net_shut (Sat.tail hs)⟩
theorem net_all (hl : fit3 l) (hw : Sat E w (Net b n room st :: F)) :
    Calls Try.prog 41 #[.pointer (some ⟨b, 0, none⟩), lkV l] w fun e w' => ∃ v, e = .returned v ∧ (bif thereB n l then Sat E w' (Row 31 38 v (st l).length (flat (st l)) :: Net b n room st :: F) else v = .slice none 0 0 ∧ Sat E w' (Net b n room st :: F)) := by
  obtain ⟨mb, adr, hw⟩ := Net_open hw
  refine calls_ok hmo Try.func41 rfl cAll_ok cAll_res [(0, .p 100 0), (1, .a [.int .i64 l.1, .int .i64 l.2.1, .int .i64 l.2.2])] [⟨100, b, 115, [.int .i64 n, .map (some mb)]⟩] _ hw (by exact Nat.le_of_ble_eq_true rfl) (by simp [argsOk, isV, find, lkV]) ?_
  refine run_ok 4000 _ _ _ _ ?_; simp only [cAll, sx, Nat.reduceBEq, Nat.reduceAdd, Nat.reduceLeDiff, Nat.reduceMul, Int.toNat_natCast]
  intro b1
  cases ht : thereB n l with
  | false =>
    refine ⟨.t2 (.v (.pointer none)) (.v (.bool false)), _, rfl, fun a w' he hs => ?_, ?_⟩
    · simp only [opsOf, Op.operands, sx, Nat.reduceBEq] at he
      exact look2 (l := l) false ht hl hs 2 rfl he.1 he.2
    · refine run_ok 4000 _ _ _ _ ?_; simp only [sx, Nat.reduceBEq, Nat.reduceAdd, Nat.reduceLeDiff, Nat.reduceMul, Int.toNat_natCast]
      refine run_ok 4000 _ _ _ _ ?_; simp only [sx, Nat.reduceBEq, Nat.reduceAdd, Nat.reduceLeDiff, Nat.reduceMul, Int.toNat_natCast]
      intro w hs
      exact ⟨_, rfl, rfl, Net_shut (Sat.tail hs)⟩
  | true =>
    refine ⟨.t2 (.v (.pointer (some ⟨adr l, 0, none⟩))) (.v (.bool true)), _, rfl, fun a w' he hs => ?_, ?_⟩
    · simp only [opsOf, Op.operands, sx, Nat.reduceBEq] at he
      exact look2 (l := l) true ht hl hs 2 rfl he.1 he.2
    · refine run_ok 4000 _ _ _ _ ?_; simp only [sx, Nat.reduceBEq, Nat.reduceAdd, Nat.reduceLeDiff, Nat.reduceMul, Int.toNat_natCast]
      refine run_ok 4000 _ _ _ _ ?_; simp only [sx, Nat.reduceBEq, Nat.reduceAdd, Nat.reduceLeDiff, Nat.reduceMul, Int.toNat_natCast]
      refine call_go fun w hs => ?_
      have hq := Qs_take (nodup_lks n) (mem_lks.2 ht) (hs.front 3 rfl)
      refine (ring_all hq).mono ?_
      rintro e w ⟨v, rfl, hw⟩
      have hw := Qs_put (nodup_lks n) (mem_lks.2 ht) (F := Row 31 38 v (st l).length (flat (st l)) :: _) (hw.gets (Gets.get 1 rfl (Gets.get 1 rfl (Gets.refl _))))
      rw [setQ_id] at hw
      refine ⟨.v v, _, Row 31 38 v (st l).length (flat (st l)) :: Mf mb IsLk (keyF n adr) :: Qs adr room st (lks n) :: F, rfl, rfl, (Sat.gets hw (by repeat (first | exact Gets.nil | exact Gets.refl _ | refine Gets.get 0 rfl ?_ | refine Gets.get 1 rfl ?_ | refine Gets.get 2 rfl ?_ | refine Gets.get 3 rfl ?_ | refine Gets.get 4 rfl ?_ | refine Gets.get 5 rfl ?_ | refine Gets.get 6 rfl ?_ | refine Gets.get 7 rfl ?_ | refine Gets.get 8 rfl ?_ | refine Gets.get 9 rfl ?_ | refine Gets.drop ?_))), trivial, ?_⟩
      refine run_ok 4000 _ _ _ _ ?_; simp only [sx, Nat.reduceBEq, Nat.reduceAdd, Nat.reduceLeDiff, Nat.reduceMul, Int.toNat_natCast]
      intro w hs
      refine ⟨v, rfl, ?_⟩
      have h2 : Sat E w (pt b (.cells #[.int .i64 n, .map (some mb)] 115) :: Mf mb IsLk (keyF n adr) :: Qs adr room st (lks n) :: Row 31 38 v (st l).length (flat (st l)) :: F) := by
        have hw := hs
        exact (Sat.gets hw (by repeat (first | exact Gets.nil | exact Gets.refl _ | refine Gets.get 0 rfl ?_ | refine Gets.get 1 rfl ?_ | refine Gets.get 2 rfl ?_ | refine Gets.get 3 rfl ?_ | refine Gets.get 4 rfl ?_ | refine Gets.get 5 rfl ?_ | refine Gets.get 6 rfl ?_ | refine Gets.get 7 rfl ?_ | refine Gets.get 8 rfl ?_ | refine Gets.get 9 rfl ?_ | refine Gets.drop ?_)))
      exact (Net_shut h2).perm (List.Perm.swap _ _ _)
/-- What is done with one queue, by any function. -/
theorem net_with (g : Nat) (hg : callB Try.prog g = true) (mc : List Value) (r : Int) (q' : List (Array Value)) (h1 : mc.length = 38) (h2 : mc.all (·.oneCell') = true)
    (hcall : ∀ {E : Env} {w : World} {F : List HP} {a : Nat}, Sat E w (Queue a room (st l) :: F) → Calls Try.prog g #[.pointer (some ⟨a, 0, none⟩)] w fun e w' => e = .returned (.tuple #[.agg mc.toArray, .int .i64 r]) ∧ Sat E w' (Queue a room q' :: F))
    (hl : fit3 l) (hw : Sat E w (Net b n room st :: F)) :
    Calls Try.prog 53 #[.pointer (some ⟨b, 0, none⟩), lkV l, .func (.func g) #[] #[]] w fun e w' => (bif thereB n l then e = .returned (.tuple #[.agg mc.toArray, .int .i64 r]) ∧ Sat E w' (Net b n room (setQ st l q') :: F) else e = .returned (.tuple #[.agg msg0, .int .i64 2]) ∧ Sat E w' (Net b n room st :: F)) := by
  obtain ⟨mb, adr, hw⟩ := Net_open hw
  refine calls_ok hmo Try.func53 rfl cWith_ok cWith_res [(0, .p 100 0), (1, .a [.int .i64 l.1, .int .i64 l.2.1, .int .i64 l.2.2]), (2, .v (.func (.func g) #[] #[]))] [⟨100, b, 115, [.int .i64 n, .map (some mb)]⟩] _ hw (by exact Nat.le_of_ble_eq_true rfl) (by simp [argsOk, isV, find, lkV]) ?_
  refine run_ok 4000 _ _ _ _ ?_; simp only [cWith, sx, Nat.reduceBEq, Nat.reduceAdd, Nat.reduceLeDiff, Nat.reduceMul, Int.toNat_natCast]
  intro b1 b2
  cases ht : thereB n l with
  | false =>
    refine ⟨.t2 (.v (.pointer none)) (.v (.bool false)), _, rfl, fun a w' he hs => ?_, ?_⟩
    · simp only [opsOf, Op.operands, sx, Nat.reduceBEq] at he
      exact look2 (l := l) false ht hl hs 3 rfl he.1 he.2
    · refine run_ok 4000 _ _ _ _ ?_; simp only [sx, Nat.reduceBEq, Nat.reduceAdd, Nat.reduceLeDiff, Nat.reduceMul, Int.toNat_natCast]
      refine run_ok 4000 _ _ _ _ ?_; simp only [sx, Nat.reduceBEq, Nat.reduceAdd, Nat.reduceLeDiff, Nat.reduceMul, Int.toNat_natCast]
      intro w hs
      exact ⟨rfl, Net_shut (Sat.tail (Sat.tail hs))⟩
  | true =>
    refine ⟨.t2 (.v (.pointer (some ⟨adr l, 0, none⟩))) (.v (.bool true)), _, rfl, fun a w' he hs => ?_, ?_⟩
    · simp only [opsOf, Op.operands, sx, Nat.reduceBEq] at he
      exact look2 (l := l) true ht hl hs 3 rfl he.1 he.2
    · refine run_ok 4000 _ _ _ _ ?_; simp only [sx, Nat.reduceBEq, Nat.reduceAdd, Nat.reduceLeDiff, Nat.reduceMul, Int.toNat_natCast]
      refine run_ok 4000 _ _ _ _ ?_; simp only [sx, Nat.reduceBEq, Nat.reduceAdd, Nat.reduceLeDiff, Nat.reduceMul, Int.toNat_natCast]
      intro a w Q he hs
      simp only [opsOf, Op.operands, sx, Nat.reduceBEq] at he
      have hq := Qs_take (nodup_lks n) (mem_lks.2 ht) (hs.front 4 rfl)
      refine wk_callV g rfl he.1 hg ?_
      rw [show (#[Operand.tmp 23].map a.eval ++ (#[] : Array Value)) = #[.pointer (some ⟨adr l, 0, none⟩)] from by simp [he.2]]
      refine (hcall hq).mono ?_
      rintro e w ⟨rfl, hw⟩
      have hw := Qs_put (nodup_lks n) (mem_lks.2 ht) hw
      refine ⟨_, rfl, .t2 (.a mc) (.v (.int .i64 r)), _, _, Mf mb IsLk (keyF n adr) :: Qs adr room (setQ st l q') (lks n) :: F, rfl, rfl, rfl, (Sat.gets hw (by repeat (first | exact Gets.nil | exact Gets.refl _ | refine Gets.get 0 rfl ?_ | refine Gets.get 1 rfl ?_ | refine Gets.get 2 rfl ?_ | refine Gets.get 3 rfl ?_ | refine Gets.get 4 rfl ?_ | refine Gets.get 5 rfl ?_ | refine Gets.get 6 rfl ?_ | refine Gets.get 7 rfl ?_ | refine Gets.get 8 rfl ?_ | refine Gets.get 9 rfl ?_ | refine Gets.drop ?_))), trivial, ?_⟩
      refine run_ok 4000 _ _ _ _ ?_; simp only [h1, h2, sx, Nat.reduceBEq, Nat.reduceAdd, Nat.reduceLeDiff, Nat.reduceMul, Int.toNat_natCast]
      intro w hs
      first | exact ⟨rfl, Net_shut (Sat.tail (Sat.tail hs))⟩ | exact Net_shut (Sat.tail (Sat.tail hs))
/-- What Take and Next answer, and what is left. -/
def takeE (n : Nat) (st : Lk → List (Array Value)) (l : Lk) : Int := bif thereB n l then (match st l with | [] => 6 | _ :: _ => 0) else 2
def takeM (n : Nat) (st : Lk → List (Array Value)) (l : Lk) : Array Value := bif thereB n l then (match st l with | [] => msg0 | m :: _ => m) else msg0
def takeS (n : Nat) (st : Lk → List (Array Value)) (l : Lk) : Lk → List (Array Value) := bif thereB n l then setQ st l (st l).tail else st
theorem Qs_ok {adr : Lk → Nat} {ls : List Lk} (hn : ls.Nodup) (hl : l ∈ ls) (h : Sat E w (Qs adr room st ls :: F)) : ∀ m ∈ st l, Msg m := (Queue_open (Qs_take hn hl h)).1.2.2
theorem Net_ok (h : Sat E w (Net b n room st :: F)) (hl : thereB n l = true) : ∀ m ∈ st l, Msg m := by
  obtain ⟨mb, adr, hw⟩ := Net_open h
  exact Qs_ok (nodup_lks n) (mem_lks.2 hl) (hw.front 2 rfl)
theorem Net_congr {st' : Lk → List (Array Value)} (h : ∀ l, thereB n l = true → st l = st' l) : Net b n room st = Net b n room st' := by
  unfold Net Qs
  have e : ∀ adr : Lk → Nat, ((lks n).map fun l => Queue (adr l) room (st l)) = (lks n).map fun l => Queue (adr l) room (st' l) := fun adr => List.map_congr_left fun l hl => by rw [h l (mem_lks.1 hl)]
  simp only [e]
theorem Net_out (h : thereB n l = false) (q : List (Array Value)) : Net b n room (setQ st l q) = Net b n room st := Net_congr fun x hx => setQ_ne st q fun e => by rw [e, h] at hx; cases hx
theorem msg_list {m : Array Value} (h : Msg m) : m.toList.length = 38 ∧ m.toList.all (·.oneCell') = true := ⟨by simp [Msg.size h], by
  have := Msg.one h
  rw [← Array.all_toList] at this
  exact this⟩
theorem net_take_any (hl : fit3 l) (hw : Sat E w (Net b n room st :: F)) (mc : List Value) (r : Int) (q' : List (Array Value)) (h1 : mc.length = 38) (h2 : mc.all (·.oneCell') = true)
      (hcall : ∀ {E : Env} {w : World} {F : List HP} {a : Nat}, Sat E w (Queue a room (st l) :: F) → Calls Try.prog 16 #[.pointer (some ⟨a, 0, none⟩)] w fun e w' => e = .returned (.tuple #[.agg mc.toArray, .int .i64 r]) ∧ Sat E w' (Queue a room q' :: F)) :
      Calls Try.prog 39 #[.pointer (some ⟨b, 0, none⟩), lkV l] w fun e w' => e = .returned (.tuple #[.agg (bif thereB n l then mc.toArray else msg0), .int .i64 (bif thereB n l then r else 2)]) ∧ Sat E w' (Net b n room (bif thereB n l then setQ st l q' else st) :: F) := by
  refine calls_ok hmo Try.func39 rfl cTake_ok cTake_res [(0, .v (.pointer (some ⟨b, 0, none⟩))), (1, .a [.int .i64 l.1, .int .i64 l.2.1, .int .i64 l.2.2])] [] _ hw (by exact Nat.le_of_ble_eq_true rfl) (by simp [argsOk, isV, lkV]) ?_
  refine run_ok 4000 _ _ _ _ ?_; simp only [cTake, sx, Nat.reduceBEq, Nat.reduceAdd, Nat.reduceLeDiff, Nat.reduceMul, Int.toNat_natCast]
  intro b1 b2
  refine call_go fun w hs => ?_
  refine (net_with 16 (by kernel_rfl) mc r q' h1 h2 hcall hl (hs.front 2 rfl)).mono ?_
  intro e w he
  cases ht : thereB n l with
  | false =>
    rw [ht] at he
    obtain ⟨rfl, hw⟩ := he
    obtain ⟨h3, h4⟩ := msg_list msg0_ok
    refine ⟨.t2 (.a msg0.toList) (.v (.int .i64 2)), _, Net b n room st :: F, rfl, rfl, (Sat.gets hw (by repeat (first | exact Gets.nil | exact Gets.refl _ | refine Gets.get 0 rfl ?_ | refine Gets.get 1 rfl ?_ | refine Gets.get 2 rfl ?_ | refine Gets.get 3 rfl ?_ | refine Gets.get 4 rfl ?_ | refine Gets.get 5 rfl ?_ | refine Gets.get 6 rfl ?_ | refine Gets.get 7 rfl ?_ | refine Gets.get 8 rfl ?_ | refine Gets.get 9 rfl ?_ | refine Gets.drop ?_))), trivial, ?_⟩
    refine run_ok 4000 _ _ _ _ ?_; simp only [h3, h4, sx, Nat.reduceBEq, Nat.reduceAdd, Nat.reduceLeDiff, Nat.reduceMul, Int.toNat_natCast]
    intro w hs
    first | exact ⟨rfl, Sat.tail (Sat.tail hs)⟩ | exact Sat.tail (Sat.tail hs)
  | true =>
    rw [ht] at he
    obtain ⟨rfl, hw⟩ := he
    refine ⟨.t2 (.a mc) (.v (.int .i64 r)), _, Net b n room (setQ st l q') :: F, rfl, rfl, (Sat.gets hw (by repeat (first | exact Gets.nil | exact Gets.refl _ | refine Gets.get 0 rfl ?_ | refine Gets.get 1 rfl ?_ | refine Gets.get 2 rfl ?_ | refine Gets.get 3 rfl ?_ | refine Gets.get 4 rfl ?_ | refine Gets.get 5 rfl ?_ | refine Gets.get 6 rfl ?_ | refine Gets.get 7 rfl ?_ | refine Gets.get 8 rfl ?_ | refine Gets.get 9 rfl ?_ | refine Gets.drop ?_))), trivial, ?_⟩
    refine run_ok 4000 _ _ _ _ ?_; simp only [h1, h2, sx, Nat.reduceBEq, Nat.reduceAdd, Nat.reduceLeDiff, Nat.reduceMul, Int.toNat_natCast]
    intro w hs
    first | exact ⟨rfl, Sat.tail (Sat.tail hs)⟩ | exact Sat.tail (Sat.tail hs)
theorem net_next_any (hl : fit3 l) (hw : Sat E w (Net b n room st :: F)) (mc : List Value) (r : Int) (q' : List (Array Value)) (h1 : mc.length = 38) (h2 : mc.all (·.oneCell') = true)
      (hcall : ∀ {E : Env} {w : World} {F : List HP} {a : Nat}, Sat E w (Queue a room (st l) :: F) → Calls Try.prog 23 #[.pointer (some ⟨a, 0, none⟩)] w fun e w' => e = .returned (.tuple #[.agg mc.toArray, .int .i64 r]) ∧ Sat E w' (Queue a room q' :: F)) :
      Calls Try.prog 44 #[.pointer (some ⟨b, 0, none⟩), lkV l] w fun e w' => e = .returned (.tuple #[.agg (bif thereB n l then mc.toArray else msg0), .int .i64 (bif thereB n l then r else 2)]) ∧ Sat E w' (Net b n room (bif thereB n l then setQ st l q' else st) :: F) := by
  refine calls_ok hmo Try.func44 rfl cNext_ok cNext_res [(0, .v (.pointer (some ⟨b, 0, none⟩))), (1, .a [.int .i64 l.1, .int .i64 l.2.1, .int .i64 l.2.2])] [] _ hw (by exact Nat.le_of_ble_eq_true rfl) (by simp [argsOk, isV, lkV]) ?_
  refine run_ok 4000 _ _ _ _ ?_; simp only [cNext, sx, Nat.reduceBEq, Nat.reduceAdd, Nat.reduceLeDiff, Nat.reduceMul, Int.toNat_natCast]
  intro b1 b2
  refine call_go fun w hs => ?_
  refine (net_with 23 (by kernel_rfl) mc r q' h1 h2 hcall hl (hs.front 2 rfl)).mono ?_
  intro e w he
  cases ht : thereB n l with
  | false =>
    rw [ht] at he
    obtain ⟨rfl, hw⟩ := he
    obtain ⟨h3, h4⟩ := msg_list msg0_ok
    refine ⟨.t2 (.a msg0.toList) (.v (.int .i64 2)), _, Net b n room st :: F, rfl, rfl, (Sat.gets hw (by repeat (first | exact Gets.nil | exact Gets.refl _ | refine Gets.get 0 rfl ?_ | refine Gets.get 1 rfl ?_ | refine Gets.get 2 rfl ?_ | refine Gets.get 3 rfl ?_ | refine Gets.get 4 rfl ?_ | refine Gets.get 5 rfl ?_ | refine Gets.get 6 rfl ?_ | refine Gets.get 7 rfl ?_ | refine Gets.get 8 rfl ?_ | refine Gets.get 9 rfl ?_ | refine Gets.drop ?_))), trivial, ?_⟩
    refine run_ok 4000 _ _ _ _ ?_; simp only [h3, h4, sx, Nat.reduceBEq, Nat.reduceAdd, Nat.reduceLeDiff, Nat.reduceMul, Int.toNat_natCast]
    intro w hs
    first | exact ⟨rfl, Sat.tail (Sat.tail hs)⟩ | exact Sat.tail (Sat.tail hs)
  | true =>
    rw [ht] at he
    obtain ⟨rfl, hw⟩ := he
    refine ⟨.t2 (.a mc) (.v (.int .i64 r)), _, Net b n room (setQ st l q') :: F, rfl, rfl, (Sat.gets hw (by repeat (first | exact Gets.nil | exact Gets.refl _ | refine Gets.get 0 rfl ?_ | refine Gets.get 1 rfl ?_ | refine Gets.get 2 rfl ?_ | refine Gets.get 3 rfl ?_ | refine Gets.get 4 rfl ?_ | refine Gets.get 5 rfl ?_ | refine Gets.get 6 rfl ?_ | refine Gets.get 7 rfl ?_ | refine Gets.get 8 rfl ?_ | refine Gets.get 9 rfl ?_ | refine Gets.drop ?_))), trivial, ?_⟩
    refine run_ok 4000 _ _ _ _ ?_; simp only [h1, h2, sx, Nat.reduceBEq, Nat.reduceAdd, Nat.reduceLeDiff, Nat.reduceMul, Int.toNat_natCast]
    intro w hs
    first | exact ⟨rfl, Sat.tail (Sat.tail hs)⟩ | exact Sat.tail (Sat.tail hs)
theorem net_take (hl : fit3 l) (hw : Sat E w (Net b n room st :: F)) :
    Calls Try.prog 39 #[.pointer (some ⟨b, 0, none⟩), lkV l] w fun e w' => e = .returned (.tuple #[.agg (takeM n st l), .int .i64 (takeE n st l)]) ∧ Sat E w' (Net b n room (takeS n st l) :: F) := by
  cases ht : thereB n l with
  | false =>
    have hq : setQ st l [] l = [] := setQ_same _ _ _
    have h := net_take_any (st := setQ st l []) hl (by rw [Net_out ht]; exact hw) msg0.toList 6 [] (msg_list msg0_ok).1 (msg_list msg0_ok).2 (fun h => by rw [hq] at h; exact ring_take_none h)
    refine h.mono fun e w' ⟨h1, h2⟩ => ?_
    unfold takeM takeE
    simp only [ht, cond_false] at h1 h2 ⊢
    rw [Net_out ht] at h2
    exact ⟨h1, by unfold takeS; rw [ht]; exact h2⟩
  | true =>
    cases hq : st l with
    | nil =>
      have h := net_take_any hl hw msg0.toList 6 [] (msg_list msg0_ok).1 (msg_list msg0_ok).2 (fun h => by rw [hq] at h; exact ring_take_none h)
      refine h.mono fun e w' ⟨h1, h2⟩ => ?_
      unfold takeM takeE
      simp only [hq, ht, cond_true, Array.toArray_toList] at h1 h2 ⊢
      exact ⟨h1, by unfold takeS; rw [ht, hq]; exact h2⟩
    | cons m q =>
      have hm := msg_list (Net_ok hw ht m (by rw [hq]; exact List.mem_cons_self))
      have h := net_take_any hl hw m.toList 0 q hm.1 hm.2 (fun h => by rw [hq] at h; rw [Array.toArray_toList]; exact ring_take h)
      refine h.mono fun e w' ⟨h1, h2⟩ => ?_
      unfold takeM takeE
      simp only [hq, ht, cond_true, Array.toArray_toList] at h1 h2 ⊢
      exact ⟨h1, by unfold takeS; rw [ht, hq]; exact h2⟩
theorem net_next (hl : fit3 l) (hw : Sat E w (Net b n room st :: F)) :
    Calls Try.prog 44 #[.pointer (some ⟨b, 0, none⟩), lkV l] w fun e w' => e = .returned (.tuple #[.agg (takeM n st l), .int .i64 (takeE n st l)]) ∧ Sat E w' (Net b n room (st) :: F) := by
  cases ht : thereB n l with
  | false =>
    have hq : setQ st l [] l = [] := setQ_same _ _ _
    have h := net_next_any (st := setQ st l []) hl (by rw [Net_out ht]; exact hw) msg0.toList 6 [] (msg_list msg0_ok).1 (msg_list msg0_ok).2 (fun h => by rw [hq] at h; exact ring_first_none h)
    refine h.mono fun e w' ⟨h1, h2⟩ => ?_
    unfold takeM takeE
    simp only [ht, cond_false] at h1 h2 ⊢
    rw [Net_out ht] at h2
    exact ⟨h1, h2⟩
  | true =>
    cases hq : st l with
    | nil =>
      have h := net_next_any hl hw msg0.toList 6 [] (msg_list msg0_ok).1 (msg_list msg0_ok).2 (fun h => by rw [hq] at h; exact ring_first_none h)
      refine h.mono fun e w' ⟨h1, h2⟩ => ?_
      unfold takeM takeE
      simp only [hq, ht, cond_true, Array.toArray_toList] at h1 h2 ⊢
      exact ⟨h1, by rw [← hq, setQ_id] at h2; exact h2⟩
    | cons m q =>
      have hm := msg_list (Net_ok hw ht m (by rw [hq]; exact List.mem_cons_self))
      have h := net_next_any hl hw m.toList 0 (m :: q) hm.1 hm.2 (fun h => by rw [hq] at h; rw [Array.toArray_toList]; exact ring_first h)
      refine h.mono fun e w' ⟨h1, h2⟩ => ?_
      unfold takeM takeE
      simp only [hq, ht, cond_true, Array.toArray_toList] at h1 h2 ⊢
      exact ⟨h1, by rw [← hq, setQ_id] at h2; exact h2⟩
end
end Go.Proofs.Ytbkfhieadnfndaa
